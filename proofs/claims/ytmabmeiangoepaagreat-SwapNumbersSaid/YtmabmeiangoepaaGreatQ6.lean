/- What is proved: a part of the way to the statement: AcJ. No conditions. -/
import Derived.Test.YtmabmeiangoepaaGreatQ3
import Derived.Test.YtmabmeiangoepaaGreatQ5
import Derived.KernelRfl
set_option linter.unusedVariables false
set_option linter.unusedSimpArgs false
namespace Go.Ab
variable {C : CSem} {N : Nat → Nat}
structure z5 where
 es : Nat
 bytes : Nat
 z : List AVal
 f : Nat
 kp : Option Nat
 ld : zb → AVal → (AVal → Prop) → Prop
 st : zb → AVal → AVal → (zb → Prop) → Prop
 eq : zb → AVal → AVal → (AVal → zb → Prop) → Prop
section
variable (E : z5)
@[simp] def ze.k3 (C : CSem) (Q : AVal → zb → Prop) (Y1 Y2 : List AVal → zb → Prop) (v0 v5 v14 v15 : AVal) (h : zb) : Prop :=
 B.pv (V.idxS 1 v0 v14) fun v161 =>
  B.ld h v161 fun v162 =>
  B.pv (V.zw v162) fun v163 =>
  B.pv (V.bin .lss v15 v163) fun v164 =>
  B.cond v164
  (B.pv (V.idxS 1 v0 v14) fun v169 =>
  B.ld h v169 fun v170 =>
  B.pv (V.idxS E.es v170 v15) fun v172 =>
  E.ld h v172 fun v173 =>
  B.call C E.f [v14, v15] h (B.zhv h [(v169, none), (v172, E.kp)] (fun v176 h => E.eq h v173 v176 fun v177 h =>
  B.pv (V.un .not v177) fun v178 =>
  B.gd h v178 false (fun K => K v5 h) fun v180 h =>
  B.gd h v178 false (fun K => K v14 h) fun v181 h =>
  B.gd h v178 false (fun K => B.pv (V.idxS 1 v180 v181) fun v => K v h) fun v182 h =>
  B.gd h v178 false (fun K => B.ld h v182 fun v => K v h) fun v183 h =>
  B.gd h v178 false (fun K => K v15 h) fun v184 h =>
  B.gd h v178 false (fun K => B.pv (V.idxS E.es v183 v184) fun v => K v h) fun v185 h =>
  B.gd h v178 false (fun K => E.ld h v185 fun v => K v h) fun v186 h =>
  B.gd h v178 false (fun K => K v14 h) fun v187 h =>
  B.gd h v178 false (fun K => K v15 h) fun v188 h =>
  B.gd h v178 false (fun K => B.call C E.f [v187, v188] h (B.zhv h [(v182, none), (v185, E.kp)] K)) fun v189 h =>
  B.gd h v178 false (fun K => E.eq h v186 v189 K) fun v190 h =>
  B.gd h v178 false (fun K => B.pv (V.un .not v190) fun v => K v h) fun v191 h =>
  B.pick v178 (.bool true) v191 fun v192 =>
  B.cond v192
  (Q (.bool false) h)
  (B.pv (V.bin .add v15 (.int .i64 1)) fun v166 =>
  Y2 [v166] h))))
  (B.pv (V.bin .add v14 (.int .i64 1)) fun v157 =>
  Y1 [v157] h)
@[simp] def ze.l5 (C : CSem) (Q : AVal → zb → Prop) (Y1 : List AVal → zb → Prop) (v0 v5 v14 : AVal) : List AVal → zb → (List AVal → zb → Prop) → Prop
 | [v15], h, Y2 => ze.k3 E C Q Y1 Y2 v0 v5 v14 v15 h
 | _, _, _ => False
@[simp] def ze.k12 (C : CSem) (Q : AVal → zb → Prop) (Y1 : List AVal → zb → Prop) (v0 v5 v14 : AVal) (h : zb) : Prop :=
 B.pv (V.zw v0) fun v154 =>
  B.pv (V.bin .lss v14 v154) fun v155 =>
  B.cond v155
  (zd (ze.l5 E C Q Y1 v0 v5 v14) [(.int .i64 0)] h)
  (Q (.bool true) h)
@[simp] def ze.l15 (C : CSem) (Q : AVal → zb → Prop) (v0 v5 : AVal) : List AVal → zb → (List AVal → zb → Prop) → Prop
 | [v14], h, Y1 => ze.k12 E C Q Y1 v0 v5 v14 h
 | _, _, _ => False
@[simp] def ze.k22 (C : CSem) (Q : AVal → zb → Prop) (Y3 : List AVal → zb → Prop) (v0 v5 v11 v12 : AVal) (h : zb) : Prop :=
 B.pv (V.idxS 1 v0 v11) fun v147 =>
  B.ld h v147 fun v148 =>
  B.appW h E.es E.bytes v148 v12 fun v150 h =>
  B.pv (V.idxS 1 v5 v11) fun v151 =>
  B.st h v151 v150 fun h =>
  B.pv (V.bin .add v11 (.int .i64 1)) fun v128 =>
  Y3 [v128] h
@[simp] def ze.k24 (C : CSem) (Q : AVal → zb → Prop) (Y3 Y4 : List AVal → zb → Prop) (v0 v5 v11 v12 v13 : AVal) (h : zb) : Prop :=
 B.pv (V.bin .lss v13 (.int .i64 64)) fun v131 =>
  B.cond v131
  (B.pv (V.zw v0) fun v138 =>
  B.pv (V.bin .add v11 v138) fun v139 =>
  B.call C E.f [v139, v13] h fun v141 h =>
  B.pv (V.idxS E.es v12 v13) fun v142 =>
  E.st h v142 v141 fun h =>
  B.pv (V.bin .add v13 (.int .i64 1)) fun v133 =>
  Y4 [v133] h)
  (ze.k22 E C Q Y3 v0 v5 v11 v12 h)
@[simp] def ze.l26 (C : CSem) (Q : AVal → zb → Prop) (Y3 : List AVal → zb → Prop) (v0 v5 v11 v12 : AVal) : List AVal → zb → (List AVal → zb → Prop) → Prop
 | [v13], h, Y4 => ze.k24 E C Q Y3 Y4 v0 v5 v11 v12 v13 h
 | _, _, _ => False
@[simp] def ze.k37 (C : CSem) (Q : AVal → zb → Prop) (Y3 : List AVal → zb → Prop) (v0 v5 v11 : AVal) (h : zb) : Prop :=
 B.pv (V.zw v0) fun v125 =>
  B.pv (V.bin .lss v11 v125) fun v126 =>
  B.cond v126
  (0 < E.es ∧ B.mks h E.bytes (some E.z) (.int .i64 64) (.int .i64 64) fun v129 h =>
  zd (ze.l26 E C Q Y3 v0 v5 v11 v129) [(.int .i64 0)] h)
  (zd (ze.l15 E C Q v0 v5) [(.int .i64 0)] h)
@[simp] def ze.l40 (C : CSem) (Q : AVal → zb → Prop) (v0 v5 : AVal) : List AVal → zb → (List AVal → zb → Prop) → Prop
 | [v11], h, Y3 => ze.k37 E C Q Y3 v0 v5 v11 h
 | _, _, _ => False
@[simp] def ze.k47 (C : CSem) (Q : AVal → zb → Prop) (Y5 Y6 : List AVal → zb → Prop) (v0 v5 v9 v10 : AVal) (h : zb) : Prop :=
 B.pv (V.idxS 1 v5 v9) fun v82 =>
  B.ld h v82 fun v83 =>
  B.pv (V.zw v83) fun v84 =>
  B.pv (V.bin .lss v10 v84) fun v85 =>
  B.cond v85
  (B.pv (V.idxS 1 v5 v9) fun v90 =>
  B.ld h v90 fun v91 =>
  B.pv (V.idxS E.es v91 v10) fun v93 =>
  E.ld h v93 fun v94 =>
  B.call C E.f [v9, v10] h (B.zhv h [(v90, none), (v93, E.kp)] (fun v97 h => E.eq h v94 v97 fun v98 h =>
  B.pv (V.un .not v98) fun v99 =>
  B.gd h v99 false (fun K => K v10 h) fun v101 h =>
  B.gd h v99 false (fun K => K v0 h) fun v102 h =>
  B.gd h v99 false (fun K => K v9 h) fun v103 h =>
  B.gd h v99 false (fun K => B.pv (V.idxS 1 v102 v103) fun v => K v h) fun v104 h =>
  B.gd h v99 false (fun K => B.ld h v104 fun v => K v h) fun v105 h =>
  B.gd h v99 false (fun K => B.pv (V.zw v105) fun v => K v h) fun v106 h =>
  B.gd h v99 false (fun K => B.pv (V.bin .lss v101 v106) fun v => K v h) fun v107 h =>
  B.gd h v99 false (fun K => K v107 h) fun v108 h =>
  B.gd h v108 true (fun K => K v0 h) fun v109 h =>
  B.gd h v108 true (fun K => K v9 h) fun v110 h =>
  B.gd h v108 true (fun K => B.pv (V.idxS 1 v109 v110) fun v => K v h) fun v111 h =>
  B.gd h v108 true (fun K => B.ld h v111 fun v => K v h) fun v112 h =>
  B.gd h v108 true (fun K => K v10 h) fun v113 h =>
  B.gd h v108 true (fun K => B.pv (V.idxS E.es v112 v113) fun v => K v h) fun v114 h =>
  B.gd h v108 true (fun K => E.ld h v114 fun v => K v h) fun v115 h =>
  B.gd h v108 true (fun K => K v9 h) fun v116 h =>
  B.gd h v108 true (fun K => K v10 h) fun v117 h =>
  B.gd h v108 true (fun K => B.call C E.f [v116, v117] h (B.zhv h [(v111, none), (v114, E.kp)] K)) fun v118 h =>
  B.gd h v108 true (fun K => E.eq h v115 v118 K) fun v119 h =>
  B.gd h v108 true (fun K => B.pv (V.un .not v119) fun v => K v h) fun v120 h =>
  B.gd h v99 false (fun K => B.pick v108 v120 (.bool false) fun v => K v h) fun v121 h =>
  B.pick v99 (.bool true) v121 fun v122 =>
  B.cond v122
  (Q (.bool false) h)
  (B.pv (V.bin .add v10 (.int .i64 1)) fun v87 =>
  Y6 [v87] h))))
  (B.pv (V.bin .add v9 (.int .i64 1)) fun v78 =>
  Y5 [v78] h)
@[simp] def ze.l49 (C : CSem) (Q : AVal → zb → Prop) (Y5 : List AVal → zb → Prop) (v0 v5 v9 : AVal) : List AVal → zb → (List AVal → zb → Prop) → Prop
 | [v10], h, Y6 => ze.k47 E C Q Y5 Y6 v0 v5 v9 v10 h
 | _, _, _ => False
@[simp] def ze.k56 (C : CSem) (Q : AVal → zb → Prop) (Y5 : List AVal → zb → Prop) (v0 v5 v9 : AVal) (h : zb) : Prop :=
 B.pv (V.zw v0) fun v75 =>
  B.pv (V.bin .lss v9 v75) fun v76 =>
  B.cond v76
  (zd (ze.l49 E C Q Y5 v0 v5 v9) [(.int .i64 0)] h)
  (zd (ze.l40 E C Q v0 v5) [(.int .i64 0)] h)
@[simp] def ze.l59 (C : CSem) (Q : AVal → zb → Prop) (v0 v5 : AVal) : List AVal → zb → (List AVal → zb → Prop) → Prop
 | [v9], h, Y5 => ze.k56 E C Q Y5 v0 v5 v9 h
 | _, _, _ => False
@[simp] def ze.k67 (C : CSem) (Q : AVal → zb → Prop) (Y7 Y8 : List AVal → zb → Prop) (v0 v5 v6 v7 v8 : AVal) (h : zb) : Prop :=
 B.pv (V.bin .lss v8 (.int .i64 64)) fun v54 =>
  B.cond v54
  (B.pv (V.idxS 1 v0 v6) fun v61 =>
  B.ld h v61 fun v62 =>
  B.pv (V.zw v62) fun v63 =>
  B.pv (V.bin .add v63 v8) fun v65 =>
  B.call C E.f [v6, v65] h fun v66 h =>
  B.newO h (zep [(0, E.kp, v66)] (repL 1 E.z)) fun i67 h =>
  B.appW h E.es E.bytes v7 (.sl i67 0 0 1 E.es 1) fun v68 h =>
  B.pv (V.bin .add v8 (.int .i64 1)) fun v56 =>
  Y8 [v68, v56] h)
  (B.pv (V.idxS 1 v5 v6) fun v72 =>
  B.st h v72 v7 fun h =>
  B.pv (V.bin .add v6 (.int .i64 1)) fun v48 =>
  Y7 [v48] h)
@[simp] def ze.l69 (C : CSem) (Q : AVal → zb → Prop) (Y7 : List AVal → zb → Prop) (v0 v5 v6 : AVal) : List AVal → zb → (List AVal → zb → Prop) → Prop
 | [v7, v8], h, Y8 => ze.k67 E C Q Y7 Y8 v0 v5 v6 v7 v8 h
 | _, _, _ => False
@[simp] def ze.k79 (C : CSem) (Q : AVal → zb → Prop) (Y7 : List AVal → zb → Prop) (v0 v5 v6 : AVal) (h : zb) : Prop :=
 B.pv (V.zw v0) fun v45 =>
  B.pv (V.bin .lss v6 v45) fun v46 =>
  B.cond v46
  (B.pv (V.idxS 1 v0 v6) fun v51 =>
  B.ld h v51 fun v52 =>
  zd (ze.l69 E C Q Y7 v0 v5 v6) [v52, (.int .i64 0)] h)
  (zd (ze.l59 E C Q v0 v5) [(.int .i64 0)] h)
@[simp] def ze.l82 (C : CSem) (Q : AVal → zb → Prop) (v0 v5 : AVal) : List AVal → zb → (List AVal → zb → Prop) → Prop
 | [v6], h, Y7 => ze.k79 E C Q Y7 v0 v5 v6 h
 | _, _, _ => False
@[simp] def ze.k91 (C : CSem) (Q : AVal → zb → Prop) (Y9 Y10 : List AVal → zb → Prop) (v0 v3 v4 : AVal) (h : zb) : Prop :=
 B.pv (V.idxS 1 v0 v3) fun v25 =>
  B.ld h v25 fun v26 =>
  B.pv (V.zw v26) fun v27 =>
  B.pv (V.bin .lss v4 v27) fun v28 =>
  B.cond v28
  (B.pv (V.idxS 1 v0 v3) fun v33 =>
  B.ld h v33 fun v34 =>
  B.call C E.f [v3, v4] h (B.zhv h [(v33, none)] (fun v38 h => B.pv (V.idxS E.es v34 v4) fun v39 =>
  E.st h v39 v38 fun h =>
  B.pv (V.bin .add v4 (.int .i64 1)) fun v30 =>
  Y10 [v30] h)))
  (B.pv (V.bin .add v3 (.int .i64 1)) fun v21 =>
  Y9 [v21] h)
@[simp] def ze.l93 (C : CSem) (Q : AVal → zb → Prop) (Y9 : List AVal → zb → Prop) (v0 v3 : AVal) : List AVal → zb → (List AVal → zb → Prop) → Prop
 | [v4], h, Y10 => ze.k91 E C Q Y9 Y10 v0 v3 v4 h
 | _, _, _ => False
@[simp] def ze.k100 (C : CSem) (Q : AVal → zb → Prop) (Y9 : List AVal → zb → Prop) (v0 v3 : AVal) (h : zb) : Prop :=
 B.pv (V.zw v0) fun v18 =>
  B.pv (V.bin .lss v3 v18) fun v19 =>
  B.cond v19
  (zd (ze.l93 E C Q Y9 v0 v3) [(.int .i64 0)] h)
  (B.pv (V.zw v0) fun v41 =>
  0 < 1 ∧ B.mks h 24 (some [.nils]) v41 v41 fun v42 h =>
  zd (ze.l82 E C Q v0 v42) [(.int .i64 0)] h)
@[simp] def ze.l103 (C : CSem) (Q : AVal → zb → Prop) (v0 : AVal) : List AVal → zb → (List AVal → zb → Prop) → Prop
 | [v3], h, Y9 => ze.k100 E C Q Y9 v0 v3 h
 | _, _, _ => False
def ze (C : CSem) (v0 : AVal) (h : zb) (Q : AVal → zb → Prop) : Prop :=
 zd (ze.l103 E C Q v0) [(.int .i64 0)] h
def opsF (es bytes : Nat) (z : List AVal) (f : Nat) (sh : List Ck) : z5 where
 es := es; bytes := bytes; z := z; f := f; kp := some es
 ld := fun h p K => B.ldn h p es K
 st := fun h p v K => B.stn h p es v K
 eq := fun h a b K => B.pv (V.zkj .eql sh a b) fun v => K v h
def opsS (bytes : Nat) (z : AVal) (f : Nat) : z5 where
 es := 1; bytes := bytes; z := [z]; f := f; kp := none
 ld := fun h p K => B.ld h p K
 st := fun h p v K => B.st h p v K
 eq := fun h a b K => B.pv (V.bin .eql a b) fun v => K v h
def opsD (C : CSem) (es bytes : Nat) (z : List AVal) (f g : Nat) : z5 where
 es := es; bytes := bytes; z := z; f := f; kp := some es
 ld := fun h p K => B.ldn h p es K
 st := fun h p v K => B.stn h p es v K
 eq := fun h a b K => B.call C g [a, b] h K
end
def aoff : AVal → Nat
 | .sl _ _ off _ _ _ => off
 | _ => 0
theorem zr4 (g hi e : Nat) : ∀ (gens : List (Nat × Nat)), gens.lookup g = some hi → (zos gens e).lookup g = some (min hi e)
 | [], h => by cases h
 | (g', k) :: r, h => by
  unfold zos
  rw [List.map_cons]
  by_cases e1 : (g == g') = true
  ·simp only [List.lookup, e1] at h ⊢
   rw [Option.some.inj h]
  ·simp only [Bool.not_eq_true] at e1
   simp only [List.lookup, e1] at h ⊢
   exact zr4 g hi e r h
theorem SlX.oldApp {h : zb} {es : Nat} {x : AVal} {L R : List (List AVal)} (hs : SlX h es x L R) {id : Nat} {b : Blk} (hf : foot x = some id) (hb : h id = some b) {e : Nat} (he : aoff x + L.length * es ≤ e) (hb2 : e ≤ b.cells.length) (news : List AVal) :
  SlX (Ab.upd h id (zfr b e news)) es x L [] := by
 have h0 := hs.cut
 refine ⟨h0.len, ?_⟩
 rcases h0.at_ with e1 | ⟨id', g, off, cp, b', hi, h1, h1', h2, h3, h4, hh, h5⟩
 ·exact .inl e1
 ·subst h1
  cases hf
  rw [hb] at h2
  cases h2
  simp only [aoff] at he
  simp only [List.length_nil, Nat.add_zero] at h4 h5 h1'
  have hcells : ((b.cells.take e ++ news).drop off).take (L.length * es) = (L ++ []).flatten := by
   rw [← h5]
   apply List.ext_getElem?
   intro k
   by_cases hk : k < L.length * es
   ·rw [List.getElem?_take_of_lt hk, List.getElem?_take_of_lt hk, List.getElem?_drop, List.getElem?_drop, List.getElem?_append_left (by simp; omega), List.getElem?_take_of_lt (by omega)]
   ·rw [List.getElem?_take_eq_none (by omega), List.getElem?_take_eq_none (by omega)]
  by_cases hg : g = b.next
  ·refine .inr ⟨_, g, off, cp, _, e + news.length, rfl, by simpa using h1', zbv .., by simp [zfr, hg, List.lookup], by simp; omega, by simp [zfr]; omega, ?_⟩
   simpa [zfr] using hcells
  ·refine .inr ⟨_, g, off, cp, _, min hi e, rfl, by simpa using h1', zbv .., ?_, by simp; omega, by simp [zfr]; omega, ?_⟩
   ·simp only [zfr, List.lookup]
    rw [show (g == b.next) = false by simpa using hg]
    exact zr4 g hi e b.gens h3
   ·simpa [zfr] using hcells
structure Old (h : zb) (es : Nat) (x : AVal) (L : List (List AVal)) (y : AVal) (M : List (List AVal)) : Prop where
 at_ : SlX h es x L []
 ft : foot x = none ∨ (foot x = foot y ∧ aoff x = aoff y)
 len : L.length ≤ M.length
theorem Old.refl {h : zb} {es : Nat} {x : AVal} {L R : List (List AVal)} (hs : SlX h es x L R) : Old h es x L x L := ⟨hs.cut, .inr ⟨rfl, rfl⟩, Nat.le_refl _⟩
theorem Old.other {h h' : zb} {es : Nat} {x y z : AVal} {L M : List (List AVal)} (ho : Old h es x L y M) (hb : But z h h') (hne : ∀ id, foot y = some id → foot z ≠ some id) : Old h' es x L y M :=
 ⟨hb.sl ho.at_ fun id hf => hne id (by rcases ho.ft with e | ⟨e, _⟩ <;> rw [e] at hf; cases hf; exact hf), ho.ft, ho.len⟩
theorem Old.mono {h h' : zb} {es : Nat} {x y : AVal} {L M : List (List AVal)} (ho : Old h es x L y M) (hle : h.le h') : Old h' es x L y M := ⟨ho.at_.mono hle, ho.ft, ho.len⟩
section
variable {h H h0 : zb} {es : Nat} {x : AVal} {L R : List (List AVal)}
theorem SlX.app2 {bytes : Nat} {M : List (List AVal)} {K : AVal → zb → Prop} (ho : SlX h es x L R) (hown : ∀ id b, foot x = some id → h id = some b → b.own = true) (hes : 0 < es) (hM : ∀ p ∈ M, p.length = es) (hb : (L.length + M.length) * bytes ≤ 140737488355328) (hm : L.length + M.length ≤ maxLen)
  (hk : ∀ x' h', SlIs h' es x' (L ++ M) → (∀ id b, foot x' = some id → h' id = some b → b.own = true) → But x h h' → (foot x' = foot x ∨ ∀ id, foot x' = some id → h id = none) → (∀ u U, Old h es u U x L → Old h' es u U x' (L ++ M)) → K x' h') : A.app h es bytes x (some M.flatten) K := by
 have hl := zka hM
 have hd : M.flatten.length / es = M.length := by rw [hl, Nat.mul_div_cancel _ hes]
 have hall : ∀ p ∈ (L ++ M) ++ [], p.length = es := fun p hp => by
  rw [List.append_nil] at hp
  rcases List.mem_append.1 hp with hp | hp
  ·exact ho.len p (List.mem_append_left _ hp)
  ·exact hM p hp
 have fresh : L = [] → foot x = none → (M ≠ [] → (M.flatten.length / es) * bytes ≤ 140737488355328 ∧ M.flatten.length / es ≤ maxLen ∧ A.new h M.flatten fun id h => K (.sl id 0 0 (M.flatten.length / es) es (M.flatten.length / es)) h) := fun e hfx hne => by
  subst e
  rw [hd]
  simp only [List.length_nil, Nat.zero_add] at hb hm
  refine ⟨hb, hm, fun id hid => ?_⟩
  refine hk _ _ ⟨hall, .inr ⟨id, 0, 0, _, zej M.flatten, M.flatten.length, by simp only [List.nil_append]; exact rfl, by simp, zbv .., zgz .., by simp [hl], Nat.le_refl _, ?_⟩⟩ (fun j b hj hb' => ?_) (But.of_le _ (zgi _ hid)) (.inr fun j hj => ?_) (fun u U hu => ⟨hu.at_.mono (zgi _ hid), .inl ?_, ?_⟩)
  ·simp only [List.nil_append, List.append_nil, List.length_nil, Nat.add_zero, ← hl, zej, List.drop_zero, List.take_length]
  ·cases hj
   rw [zbv] at hb'; cases hb'; rfl
  ·cases hj; exact hid
  ·rcases hu.ft with e | ⟨e, _⟩
   ·exact e
   ·rw [e, hfx]
  ·have := hu.len; simp at this; simp [this]
 have hnil : M = [] ∨ M.flatten.length ≠ 0 := by
  cases M with
  | nil => exact .inl rfl
  | cons a r =>
   refine .inr ?_
   rw [hl, List.length_cons, Nat.add_mul]
   omega
 have h0 := ho.cut
 rcases h0.at_ with ⟨e, _, e' | e'⟩ | ⟨id, g, off, cp, b, hi, h1, h1', h2, h3, h4, hh, h5⟩
 ·subst e'
  simp only [A.app]
  split
  ·rename_i hz
   rcases hnil with hn | hn
   ·subst hn; exact hk _ _ (by simpa using h0) (fun _ _ hj => by cases hj) (But.of_le _ (zb.le_refl h)) (.inl rfl) (fun u U hu => by simpa using hu)
   ·exact absurd hz hn
  ·rename_i hz
   exact fresh e rfl fun hn => hz (by rw [hn]; rfl)
 ·subst e'
  simp only [A.app]
  split
  ·rename_i hz
   rcases hnil with hn | hn
   ·subst hn; exact hk _ _ (by simpa using h0) (fun _ _ hj => by cases hj) (But.of_le _ (zb.le_refl h)) (.inl rfl) (fun u U hu => by simpa using hu)
   ·exact absurd hz hn
  ·rename_i hz
   exact fresh e rfl fun hn => hz (by rw [hn]; rfl)
 ·have hown' := hown id b (by rw [h1]; rfl) h2
  subst h1
  simp only [List.length_nil, Nat.add_zero, List.append_nil] at h4 h5
  simp only [A.app, h2, h3, hd, hown', cond_true]
  have hcl : off + L.length * es ≤ b.cells.length := by omega
  have htl : (b.cells.take (off + L.length * es)).length = off + L.length * es := by simp; omega
  refine ⟨trivial, trivial, h4, hb, hm, hk _ _ ⟨hall, .inr ⟨id, b.next, off, _, _, off + L.length * es + M.flatten.length, by rw [List.length_append], by simp, zbv .., zgz .., ?_, ?_, ?_⟩⟩ (fun j b1 hj hb1 => ?_) (fun j b1 e1 e2 => ?_) (.inl rfl) (fun u U hu => ⟨?_, ?_, ?_⟩)⟩
  ·rw [List.length_append, List.length_nil, Nat.add_zero, Nat.add_mul, hl]; omega
  ·simp only [zfr, List.length_append, htl]; omega
  ·simp only [zfr, List.append_nil, List.length_nil, Nat.add_zero]
   rw [List.drop_append_of_le_length (by omega), List.length_append, Nat.add_mul, ← hl, List.flatten_append, ← h5]
   have e1 : (b.cells.take (off + L.length * es)).drop off = (b.cells.drop off).take (L.length * es) := by
    rw [List.drop_take]; congr 1; omega
   have e2 : ((b.cells.drop off).take (L.length * es)).length = L.length * es := by simp; omega
   rw [e1, List.take_of_length_le]
   rw [List.length_append, e2]; omega
  ·cases hj
   rw [zbv] at hb1; cases hb1; exact hown'
  ·rw [zr]
   ·exact e1
   ·intro e; subst e; exact e2 rfl
  ·by_cases hf : foot u = some id
   ·refine hu.at_.oldApp hf h2 ?_ hcl _
    have e1 := hu.len
    have e2 : aoff u = off := by
     rcases hu.ft with e | ⟨_, e⟩
     ·rw [e] at hf; cases hf
     ·exact e
    rw [e2]
    have := Nat.mul_le_mul_right es e1
    omega
   ·exact hu.at_.upd hf
  ·rcases hu.ft with e | ⟨e, e'⟩
   ·exact .inl e
   ·exact .inr ⟨e, e'⟩
  ·have := hu.len; rw [List.length_append]; omega
theorem SlX.appW2 {bytes : Nat} {y : AVal} {M R' : List (List AVal)} {K : AVal → zb → Prop} (ho : SlX h es x L R) (hown : ∀ id b, foot x = some id → h id = some b → b.own = true) (hs : SlX h es y M R') (hes : 0 < es) (hb : (L.length + M.length) * bytes ≤ 140737488355328) (hm : L.length + M.length ≤ maxLen)
  (hk : ∀ x' h', SlIs h' es x' (L ++ M) → (∀ id b, foot x' = some id → h' id = some b → b.own = true) → But x h h' → (foot x' = foot x ∨ ∀ id, foot x' = some id → h id = none) → (∀ u U, Old h es u U x L → Old h' es u U x' (L ++ M)) → K x' h') : A.appW h es bytes x y K := by
 unfold A.appW
 rw [hs.zf8]
 simp only
 rw [hs.rdv]
 exact ho.app2 hown hes (fun p hp => hs.len p (List.mem_append_left _ hp)) hb hm hk
end
section
variable {h0 h h' : zb} {l : List Ob}
theorem Owns.ne (ho : Owns h0 h l) {i j : Nat} {a b : Ob} (hi : l[i]? = some a) (hj : l[j]? = some b) (hij : i ≠ j) : ∀ id, a.foot = some id → b.foot ≠ some id := fun id ha hb => by
 rcases Nat.lt_or_gt_of_ne hij with hlt | hgt
 ·have := List.pairwise_iff_getElem.1 ho.apart i j (List.getElem?_eq_some_iff.1 hi).1 (List.getElem?_eq_some_iff.1 hj).1 hlt
  rw [(List.getElem?_eq_some_iff.1 hi).2, (List.getElem?_eq_some_iff.1 hj).2] at this
  exact this id ha hb
 ·have := List.pairwise_iff_getElem.1 ho.apart j i (List.getElem?_eq_some_iff.1 hj).1 (List.getElem?_eq_some_iff.1 hi).1 hgt
  rw [(List.getElem?_eq_some_iff.1 hj).2, (List.getElem?_eq_some_iff.1 hi).2] at this
  exact this id hb ha
end
def Kp (h : zb) (p : AVal) (o : Option Nat) : Prop := match o with | none => ∃ x, A.ldv h p = some x | some n => ∃ x, A.ldnv h p n = some x
theorem zr8 {h : zb} {ls : List (AVal × Option Nat)} {K : AVal → zb → Prop} {v : AVal} (hl : ∀ p ∈ ls, Kp h p.1 p.2) (hk : K v h) : B.zhv h ls K v h := by
 refine ⟨fun p hp => ?_, hk⟩
 have := hl p hp
 obtain ⟨p, o⟩ := p
 cases o with
 | none => obtain ⟨x, e⟩ := this; exact ⟨x, e, e⟩
 | some n => obtain ⟨x, e⟩ := this; exact ⟨x, e, e⟩
theorem keepS1 {h : zb} {p : AVal} {o : Option Nat} {K : AVal → zb → Prop} {v : AVal} (h1 : Kp h p o) (hk : K v h) : B.zhv h [(p, o)] K v h :=
 zr8 (fun q hq => by rw [List.mem_singleton.1 hq]; exact h1) hk
theorem keepS2 {h : zb} {p q : AVal} {o u : Option Nat} {K : AVal → zb → Prop} {v : AVal} (h1 : Kp h p o) (h2 : Kp h q u) (hk : K v h) : B.zhv h [(p, o), (q, u)] K v h :=
 zr8 (fun r hr => by rcases List.mem_cons.1 hr with e | hr; rw [e]; exact h1; rw [List.mem_singleton.1 hr]; exact h2) hk
def upf {α : Type} (f : Nat → α) (k : Nat) (v : α) : Nat → α := fun j => if j = k then v else f j
def Objs (es n : Nat) (xs : Nat → AVal) (D R : Nat → List (List AVal)) : List Ob := (List.range n).map fun j => Ob.sl es (xs j) (D j) (R j)
section
variable {es n k : Nat} {xs : Nat → AVal} {D R : Nat → List (List AVal)}
@[simp] theorem Objs.length : (Objs es n xs D R).length = n := by simp [Objs]
theorem Objs.get (hk : k < n) : (Objs es n xs D R)[k]? = some (.sl es (xs k) (D k) (R k)) := by simp [Objs, hk]
theorem Objs.set {x : AVal} {L M : List (List AVal)} : (Objs es n xs D R).set k (.sl es x L M) = Objs es n (upf xs k x) (upf D k L) (upf R k M) := by
 apply List.ext_getElem?
 intro j
 by_cases hj : j < n
 ·rw [Objs.get hj]
  by_cases e : k = j
  ·subst e; rw [List.getElem?_set_self (by simpa using hj)]; simp [upf]
  ·rw [List.getElem?_set_ne e, Objs.get hj]; simp [upf, Ne.symm e]
 ·rw [List.getElem?_eq_none (by simp; omega), List.getElem?_eq_none (by simp; omega)]
theorem Objs.congr {ys : Nat → AVal} {E S : Nat → List (List AVal)} (h : ∀ j, j < n → xs j = ys j ∧ D j = E j ∧ R j = S j) : Objs es n xs D R = Objs es n ys E S :=
 List.map_congr_left fun j hj => by obtain ⟨a, b, c⟩ := h j (by simpa using hj); rw [a, b, c]
theorem Objs.getA {l : List Ob} (hk : k < n) : (Objs es n xs D R ++ l)[k]? = some (.sl es (xs k) (D k) (R k)) := by
 rw [List.getElem?_append_left (by simpa using hk)]; exact Objs.get hk
theorem Objs.setA {l : List Ob} (hk : k < n) {x : AVal} {L M : List (List AVal)} : (Objs es n xs D R ++ l).set k (.sl es x L M) = Objs es n (upf xs k x) (upf D k L) (upf R k M) ++ l := by
 rw [List.set_append_left _ _ (by simpa using hk), Objs.set]
theorem Objs.getL {o : Ob} : (Objs es n xs D R ++ [o])[n]? = some o := by
 rw [List.getElem?_append_right (by simp)]; simp
theorem Objs.setL {o o' : Ob} : (Objs es n xs D R ++ [o]).set n o' = Objs es n xs D R ++ [o'] := by
 rw [List.set_append_right _ _ (by simp)]; simp
end
theorem Owns.cutR {h0 h : zb} {es n : Nat} {xs : Nat → AVal} {D R : Nat → List (List AVal)} {l : List Ob} (ho : Owns h0 h (Objs es n xs D R ++ l)) : Owns h0 h (Objs es n xs D (fun _ => []) ++ l) := by
 have mem : ∀ o ∈ Objs es n xs D (fun _ => []), ∃ o' ∈ Objs es n xs D R, o'.foot = o.foot ∧ (o'.at h → o.at h) := fun o hm => by
  obtain ⟨j, hj, rfl⟩ := List.mem_map.1 hm
  exact ⟨_, List.mem_map.2 ⟨j, hj, rfl⟩, rfl, fun h => SlX.cut h⟩
 refine ⟨ho.le, fun o hm => ?_, fun o hm => ?_, ?_⟩
 ·rcases List.mem_append.1 hm with hm | hm
  ·obtain ⟨o', h1, _, h3⟩ := mem o hm
   exact h3 (ho.is _ (List.mem_append_left _ h1))
  ·exact ho.is _ (List.mem_append_right _ hm)
 ·rcases List.mem_append.1 hm with hm | hm
  ·obtain ⟨o', h1, h2, _⟩ := mem o hm
   rw [← h2]
   exact ho.own _ (List.mem_append_left _ h1)
  ·exact ho.own _ (List.mem_append_right _ hm)
 ·obtain ⟨a, b, c⟩ := List.pairwise_append.1 ho.apart
  refine List.pairwise_append.2 ⟨?_, b, fun x hx y hy => ?_⟩
  ·unfold Objs at a ⊢
   rw [List.pairwise_map] at a ⊢
   exact a.imp fun h => h
  ·obtain ⟨o', h1, h2, _⟩ := mem x hx
   rw [← h2]
   exact c o' h1 y hy
structure zre (C : CSem) (E : z5) (m : Int → Int → List AVal) (v : Int → Int → AVal) : Prop where
 pos : 0 < E.es
 small : E.bytes ≤ 1000
 len : ∀ k i, (m k i).length = E.es
 zlen : E.z.length = E.es
 new : ∀ k i, zep [(0, E.kp, v k i)] (repL 1 E.z) = some (m k i)
 call : ∀ (k i : Int) (h : zb) (Q : AVal → zb → Prop), Q (v k i) h → C E.f [.int .i64 k, .int .i64 i] h Q
 ld : ∀ {h : zb} {x : AVal} {L R : List (List AVal)} {i : Nat} {k j : Int} {K : AVal → Prop}, SlX h E.es x L R → L[i]? = some (m k j) → K (v k j) → E.ld h (elp E.es x i 0) K
 kpt : ∀ {h : zb} {x : AVal} {L R : List (List AVal)} {i : Nat} {k j : Int}, SlX h E.es x L R → L[i]? = some (m k j) → Kp h (elp E.es x i 0) E.kp
 st : ∀ {h : zb} {x : AVal} {L R : List (List AVal)} {i : Nat} {c : List AVal} {k j : Int} {K : zb → Prop}, SlX h E.es x L R → (∀ id b, foot x = some id → h id = some b → b.own = true) → L[i]? = some c →
  (∀ h', SlX h' E.es x (L.set i (m k j)) R → (∀ id b, foot x = some id → h' id = some b → b.own = true) → But x h h' → K h') → E.st h (elp E.es x i 0) (v k j) K
 eq : ∀ {h : zb} {k i : Int} {K : AVal → zb → Prop}, K (.bool true) h → E.eq h (v k i) (v k i) K
def mkTo (m : Int → Int → List AVal) (k n : Nat) : List (List AVal) := (List.range n).map fun (i : Nat) => m (k : Int) (i : Int)
section
variable {m : Int → Int → List AVal} {k n i : Nat}
@[simp] theorem zi7 : (mkTo m k n).length = n := by simp [mkTo]
theorem zi8 (hi : i < n) : (mkTo m k n)[i]? = some (m (k : Int) (i : Int)) := by simp [mkTo, hi]
theorem mkTo_succ : mkTo m k (n + 1) = mkTo m k n ++ [m (k : Int) (n : Int)] := by simp [mkTo, List.range_succ]
@[simp] theorem mkTo_zero : mkTo m k 0 = [] := rfl
theorem mkTo_over {D : List (List AVal)} (hi : i < D.length) : (mkTo m k i ++ D.drop i).set i (m (k : Int) (i : Int)) = mkTo m k (i + 1) ++ D.drop (i + 1) := by
 rw [List.set_append_right _ _ (by simp), zi7, Nat.sub_self, mkTo_succ, List.drop_eq_getElem_cons hi, List.set_cons_zero, List.append_assoc]
 rfl
theorem mkTo_at {D : List (List AVal)} (hi : i < D.length) : (mkTo m k i ++ D.drop i)[i]? = some D[i] := by
 rw [List.getElem?_append_right (by simp), zi7, Nat.sub_self, List.getElem?_drop]; simp [hi]
end
theorem zfs {α : Type} (f : Nat → α) (k : Nat) (v : α) : upf f k v k = v := by simp [upf]
theorem zkf {α : Type} (f : Nat → α) {k j : Nat} (v : α) (h : j ≠ k) : upf f k v j = f j := by simp [upf, h]
theorem zm8 {α : Type} (f : Nat → α) (k : Nat) : upf f k (f k) = f := by funext j; unfold upf; split <;> simp_all
theorem zp3 {α : Type} (k : Nat) (v : α) : upf (fun _ => v) k v = fun _ => v := by funext j; unfold upf; split <;> rfl
theorem upf_upf {α : Type} (f : Nat → α) (k : Nat) (v w : α) : upf (upf f k v) k w = upf f k w := by funext j; unfold upf; split <;> rfl
section
variable {h : zb} {x : AVal} {n k : Nat} {xs : Nat → AVal} {W : List (List AVal)} (hx : SlX h 1 x (zgc n fun j => [xs j]) W)
include hx
theorem zo6 : V.zw x = some (.int .i64 n) := by rw [hx.zw, fills_len]
theorem zis (hk : k < n) : V.idxS 1 x (.int .i64 (k : Int)) = some (elp 1 x k 0) := hx.idxN (by simpa using hk)
theorem zok (hk : k < n) : A.ldv h (elp 1 x k 0) = some (xs k) := by rw [hx.ldv (zhx _ hk) (by omega)]; rfl
theorem ls_kp (hk : k < n) : Kp h (elp 1 x k 0) none := ⟨_, zok hx hk⟩
end
structure FS (E : z5) (m : Int → Int → List AVal) (h0 h : zb) (v5 : AVal) (n : Nat) (xs : Nat → AVal) (len : Nat → Nat) (ys : Nat → AVal) (F : Nat → List (List AVal)) (gs : Nat → AVal) : Prop where
 own : Owns h0 h (Objs E.es n ys F (fun _ => []) ++ [.sl 1 v5 (zgc n fun j => [gs j]) []])
 old : ∀ j, j < n → Old h E.es (xs j) (mkTo m j (len j)) (ys j) (F j)
section
variable {E : z5} {m : Int → Int → List AVal} {v : Int → Int → AVal} {h0 h h' : zb} {x v5 : AVal} {n k : Nat} {xs ys gs : Nat → AVal} {len : Nat → Nat} {F : Nat → List (List AVal)} {W : List (List AVal)} {Q : AVal → zb → Prop}
theorem FS.grow (fs : FS E m h0 h v5 n xs len ys F gs) (hle : h.le h') : FS E m h0 h' v5 n xs len ys F gs := ⟨fs.own.grow hle, fun j hj => (fs.old j hj).mono hle⟩
theorem FS.gAt (fs : FS E m h0 h v5 n xs len ys F gs) : SlX h 1 v5 (zgc n fun j => [gs j]) [] := fs.own.slAt n Objs.getL
theorem FS.yAt (fs : FS E m h0 h v5 n xs len ys F gs) (hk : k < n) : SlX h E.es (ys k) (F k) [] := fs.own.slAt k (Objs.getA hk)
theorem FS.turn (fs : FS E m h0 h v5 n xs len ys F gs) (hk : k < n) {y : AVal} {L : List (List AVal)} (h1 : SlX h' E.es y L []) (h2 : ∀ id b, foot y = some id → h' id = some b → b.own = true)
  (h3 : ∀ j b, h j = some b → foot (ys k) ≠ some j → h' j = some b) (h4 : foot y = foot (ys k) ∨ ∀ id, foot y = some id → h id = none) (h5 : Old h' E.es (xs k) (mkTo m k (len k)) y L) : FS E m h0 h' v5 n xs len (upf ys k y) (upf F k L) gs := by
 refine ⟨?_, fun j hj => ?_⟩
 ·have := fs.own.turn k (Objs.getA hk) (o' := .sl E.es y L []) h1 h2 h3 h4
  rwa [Objs.setA hk, zp3] at this
 ·by_cases e : j = k
  ·subst e; rw [zfs, zfs]; exact h5
  ·rw [zkf _ _ e, zkf _ _ e]
   exact (fs.old j hj).other (z := ys k) h3 (fs.own.ne (Objs.getA hj) (Objs.getA hk) e)
theorem FS.store (fs : FS E m h0 h v5 n xs len ys F gs) (hk : k < n) {y : AVal} (hy : y.zd1 = true) {K : zb → Prop} (hK : ∀ h', FS E m h0 h' v5 n xs len ys F (upf gs k y) → K h') : A.st h (elp 1 v5 k 0) y K := by
 refine fs.own.st n Objs.getL (zhx _ hk) (by omega) hy fun h' ho hb => hK h' ⟨?_, fun j hj => ?_⟩
 ·rw [Objs.setL] at ho
  have e : (zgc n fun j => [gs j]).set k ([gs k].set 0 y) = zgc n fun j => [upf gs k y j] := by
   rw [fills_set]
   refine zq6 fun j hj => ?_
   unfold upf
   split <;> rfl
  rwa [e] at ho
 ·exact (fs.old j hj).other hb (fs.own.ne (Objs.getA hj) Objs.getL (by omega))
theorem FS.push (S : zre C E m v) (fs : FS E m h0 h v5 n xs len ys F gs) (hk : k < n) {cs : List AVal} (hcs : cs.length = E.es) (hl : (F k).length ≤ 100000100) {K : AVal → zb → Prop}
  (hK : ∀ y h', FS E m h0 h' v5 n xs len (upf ys k y) (upf F k (F k ++ [cs])) gs → K y h') : A.newO h (some cs) fun i h => A.appW h E.es E.bytes (ys k) (.sl i 0 0 1 E.es 1) K := fun i hi => by
 have fg := fs.grow (zgi (zej cs) hi)
 have hmul := Nat.mul_le_mul (show (F k).length + 1 ≤ 100000101 by omega) S.small
 refine (fg.yAt hk).appW2 (fg.own.znl k (Objs.getA hk)) (M := [cs]) (R' := []) (SlX.lit (zbv ..) (by simpa using hcs) rfl (by simp) (by simp)) S.pos (by simp only [List.length_singleton]; omega) (by simp [maxLen]; omega) fun y h' h1 h2 h3 h4 h5 => ?_
 exact hK y h' (fg.turn hk h1 h2 h3 h4 (h5 _ _ (fg.old k hk)))
theorem flat5 (S : zre C E m v) (hx : SlX h0 1 x (zgc n fun j => [xs j]) W) (fs : FS E m h0 h v5 n xs len ys F gs) (hn : n ≤ 100000000) (hl : ∀ j, j < n → len j ≤ 100000000)
  (hgs : ∀ j, j < n → gs j = ys j) (hF : ∀ j i, j < n → i < len j → (F j)[i]? = some (m j i)) (hq : ∀ h', h0.le h' → Q (.bool true) h') : zd (ze.l15 E C Q x v5) [.int .i64 0] h := by
 have hx' := hx.mono fs.own.le
 refine zd.intro (fun t vs hh => ∃ k : Nat, k + t = n ∧ vs = [.int .i64 k] ∧ hh = h) n ?_ ⟨0, by simp, by simp, rfl⟩
 rintro Y t vs hh ⟨k, ht, rfl, rfl⟩ hY
 simp -dsimp [zo6 hx']
 refine B.zn (fun hb => ?_) (fun hb => ?_) <;> simp -dsimp at hb ⊢
 ·refine zd.intro (fun t vs h2 => ∃ i : Nat, i + t = len k ∧ vs = [.int .i64 i] ∧ h2 = hh) (len k) ?_ ⟨0, by simp, by simp, rfl⟩
  rintro Z t' vs h3 ⟨i, hi, rfl, rfl⟩ hZ
  have hold := (fs.old k hb).at_
  have hlk := hl k hb
  have hlx := hold.zw
  rw [zi7] at hlx
  simp -dsimp [zis hx' hb, zok hx' hb, hlx]
  refine B.zn (fun hc => ?_) (fun hc => ?_) <;> simp -dsimp at hc ⊢
  ·have hyk := fs.yAt hb
   have hFi := hF k i hb hc
   have e1 : V.idxS E.es (xs k) (.int .i64 (i : Int)) = some (elp E.es (xs k) i 0) := hold.idxN (by simpa using hc)
   have e2 : V.idxS E.es (ys k) (.int .i64 (i : Int)) = some (elp E.es (ys k) i 0) := hyk.idxN (List.getElem?_eq_some_iff.1 hFi).1
   have e3 := zok fs.gAt hb
   rw [hgs k hb] at e3
   simp -dsimp only [zis hx' hb, zok hx' hb, e1, B.zg, B.zg9]
   refine S.ld hold (zi8 hc) ?_
   refine S.call _ _ _ _ (keepS2 (ls_kp hx' hb) (S.kpt hold (zi8 hc)) ?_)
   refine S.eq ?_
   simp -dsimp [zis fs.gAt hb, e3, e2]
   refine S.ld hyk hFi ?_
   refine S.call _ _ _ _ (keepS2 (ls_kp fs.gAt hb) (S.kpt hyk hFi) ?_)
   simp -dsimp
   refine S.eq ?_
   simp -dsimp [zhw (n := i) (by omega)]
   exact hZ (len k - (i + 1)) _ _ (by omega) ⟨i + 1, by omega, by simp, rfl⟩
  ·simp -dsimp [zhw (n := k) (by omega)]
   exact hY (n - (k + 1)) _ _ (by omega) ⟨k + 1, by omega, by simp, rfl⟩
 ·exact hq _ fs.own.le
theorem flat4 (S : zre C E m v) (hx : SlX h0 1 x (zgc n fun j => [xs j]) W) (fs : FS E m h0 h v5 n xs len ys F gs) (hn : n ≤ 100000000) (hl : ∀ j, j < n → len j ≤ 100000000)
  (hgs : ∀ j, j < n → gs j = ys j) (hF : ∀ j i, j < n → i < len j → (F j)[i]? = some (m j i)) (hq : ∀ h', h0.le h' → Q (.bool true) h') : zd (ze.l40 E C Q x v5) [.int .i64 0] h := by
 refine zd.intro (fun t vs hh => ∃ (k : Nat) (ys gs : Nat → AVal) (F : Nat → List (List AVal)), k + t = n ∧ vs = [.int .i64 k] ∧ FS E m h0 hh v5 n xs len ys F gs ∧ (∀ j, j < n → gs j = ys j) ∧ ∀ j i, j < n → i < len j → (F j)[i]? = some (m j i)) n ?_
  ⟨0, ys, gs, F, by simp, by simp, fs, hgs, hF⟩
 rintro Y t vs h ⟨k, ys, gs, F, ht, rfl, fs, hgs, hF⟩ hY
 have hx' := hx.mono fs.own.le
 simp -dsimp [zo6 hx']
 refine B.zn (fun hb => ?_) (fun hb => ?_) <;> simp -dsimp at hb ⊢
 ·refine ⟨S.pos, (Owns.start h).mks (es := E.es) S.zlen (by omega) (by omega) (by have := S.small; omega) (by omega) fun y h1 ho1 => ?_⟩
  simp only [List.nil_append] at ho1
  refine zd.intro (fun t vs hh => ∃ i : Nat, i + t = 64 ∧ vs = [.int .i64 i] ∧ ∃ R, Owns h hh [.sl E.es y (mkTo m (k + n : Nat) i ++ (zgc 64 fun _ => E.z).drop i) R]) 64 ?_ ⟨0, by simp, by simp, _, by simpa using ho1⟩
  rintro Z t' vs hh ⟨i, hi, rfl, R, ho⟩ hZ
  simp -dsimp
  refine B.zn (fun hc => ?_) (fun hc => ?_) <;> simp -dsimp at hc ⊢
  ·have e1 : IntKind.i64.wrap ((k : Int) + n) = ((k + n : Nat) : Int) := by rw [wrap_i64 (by omega) (by omega)]; omega
   have hxx := hx'.mono ho.le
   have hi64 : i < (zgc 64 fun _ => E.z).length := by simp; omega
   have hlt : i < (mkTo m (k + n : Nat) i ++ (zgc 64 fun _ => E.z).drop i).length := by simp; omega
   simp -dsimp only [zo6 hxx, B.zg, V.zdi, e1]
   refine S.call _ _ _ _ ?_
   simp -dsimp only [(ho.slAt 0 rfl).idxN hlt, B.zg]
   refine S.st (ho.slAt 0 rfl) (ho.znl 0 rfl) (mkTo_at hi64) fun h2 h3 h4 h5 => ?_
   rw [mkTo_over hi64] at h3
   simp -dsimp [zhw (n := i) (by omega)]
   exact hZ (64 - (i + 1)) _ _ (by omega) ⟨i + 1, by omega, by simp, R, ho.turn 0 rfl (o' := .sl E.es y _ R) h3 h4 h5 (.inl rfl)⟩
  ·have hi64 : i = 64 := by omega
   subst hi64
   have hd : (zgc 64 fun _ => E.z).drop 64 = [] := List.drop_of_length_le (by simp)
   rw [hd, List.append_nil] at ho
   have fh := fs.grow ho.le
   have hold := fh.old k hb
   have hxx := hx'.mono ho.le
   have hlk := hl k hb
   have hmul := Nat.mul_le_mul (show len k + 64 ≤ 100000064 by omega) S.small
   simp -dsimp [zis hxx hb, zok hxx hb]
   refine hold.at_.appW2 (fun id b e1 e2 => ?_) (ho.slAt 0 rfl) S.pos (by simp only [zi7]; omega) (by simp [maxLen]; omega) fun y' h2 h3 h4 h5 h6 h7 => ?_
   ·rcases hold.ft with e | ⟨e, _⟩
    ·rw [e] at e1; cases e1
    ·rw [e] at e1; exact fh.own.znl k (Objs.getA hb) id b e1 e2
   ·have f2 : FS E m h0 h2 v5 n xs len (upf ys k y') (upf F k (mkTo m k (len k) ++ mkTo m (k + n : Nat) 64)) gs := fh.turn hb h3 h4 (fun j b e1 e2 => h5 j b e1 fun e3 => by
      rcases hold.ft with e | ⟨e, _⟩
      ·rw [e] at e3; cases e3
      ·rw [e] at e3; exact e2 e3) (by
      rcases h6 with e | e
      ·rcases hold.ft with e' | ⟨e', _⟩
       ·exact .inr fun id hid => by rw [e, e'] at hid; cases hid
       ·exact .inl (e.trans e')
      ·exact .inr e) (h7 _ _ (Old.refl hold.at_))
    simp -dsimp [zis f2.gAt hb]
    refine f2.store hb h3.zd1 fun h8 f3 => ?_
    simp -dsimp [zhw (n := k) (by omega)]
    refine hY (n - (k + 1)) _ _ (by omega) ⟨k + 1, _, _, _, by omega, by simp, f3, fun j hj => ?_, fun j i hj hi => ?_⟩
    ·by_cases e : j = k
     ·subst e; rw [zfs, zfs]
     ·rw [zkf _ _ e, zkf _ _ e]; exact hgs j hj
    ·by_cases e : j = k
     ·subst e
      rw [zfs, List.getElem?_append_left (by simpa using hi)]
      exact zi8 hi
     ·rw [zkf _ _ e]; exact hF j i hj hi
 ·exact flat5 S hx fs hn hl hgs hF hq
theorem flat3 (S : zre C E m v) (hx : SlX h0 1 x (zgc n fun j => [xs j]) W) (fs : FS E m h0 h v5 n xs len ys F gs) (hn : n ≤ 100000000) (hl : ∀ j, j < n → len j ≤ 100000000)
  (hgs : ∀ j, j < n → gs j = ys j) (hF : ∀ j, j < n → F j = mkTo m j (len j + 64)) (hq : ∀ h', h0.le h' → Q (.bool true) h') : zd (ze.l59 E C Q x v5) [.int .i64 0] h := by
 have hx' := hx.mono fs.own.le
 refine zd.intro (fun t vs hh => ∃ k : Nat, k + t = n ∧ vs = [.int .i64 k] ∧ hh = h) n ?_ ⟨0, by simp, by simp, rfl⟩
 rintro Y t vs hh ⟨k, ht, rfl, rfl⟩ hY
 simp -dsimp [zo6 hx']
 refine B.zn (fun hb => ?_) (fun hb => ?_) <;> simp -dsimp at hb ⊢
 ·refine zd.intro (fun t vs h2 => ∃ i : Nat, i + t = len k + 64 ∧ vs = [.int .i64 i] ∧ h2 = hh) (len k + 64) ?_ ⟨0, by simp, by simp, rfl⟩
  rintro Z t' vs h3 ⟨i, hi, rfl, rfl⟩ hZ
  have hold := (fs.old k hb).at_
  have hlk := hl k hb
  have hlx := hold.zw
  rw [zi7] at hlx
  have hyk := fs.yAt hb
  rw [hF k hb] at hyk
  have hly := hyk.zw
  rw [zi7] at hly
  have e3 := zok fs.gAt hb
  rw [hgs k hb] at e3
  simp -dsimp [zis fs.gAt hb, e3, hly]
  refine B.zn (fun hc => ?_) (fun hc => ?_)
  ·have hc : i < len k + 64 := by simp at hc; omega
   have e2 : V.idxS E.es (ys k) (.int .i64 (i : Int)) = some (elp E.es (ys k) i 0) := hyk.idxN (by simpa using hc)
   simp -dsimp only [zis fs.gAt hb, e3, e2, B.zg, B.zg9]
   refine S.ld hyk (zi8 hc) ?_
   refine S.call _ _ _ _ (keepS2 (ls_kp fs.gAt hb) (S.kpt hyk (zi8 hc)) ?_)
   refine S.eq ?_
   by_cases hd : i < len k
   ·have e1 : V.idxS E.es (xs k) (.int .i64 (i : Int)) = some (elp E.es (xs k) i 0) := hold.idxN (by simpa using hd)
    simp -dsimp [zis hx' hb, zok hx' hb, hlx, hd, e1]
    refine S.ld hold (zi8 hd) ?_
    refine S.call _ _ _ _ (keepS2 (ls_kp hx' hb) (S.kpt hold (zi8 hd)) ?_)
    simp -dsimp
    refine S.eq ?_
    simp -dsimp [zhw (n := i) (by omega)]
    exact hZ (len k + 64 - (i + 1)) _ _ (by omega) ⟨i + 1, by omega, by simp, rfl⟩
   ·simp -dsimp [zis hx' hb, zok hx' hb, hlx, hd]
    simp -dsimp [zhw (n := i) (by omega)]
    exact hZ (len k + 64 - (i + 1)) _ _ (by omega) ⟨i + 1, by omega, by simp, rfl⟩
  ·simp -dsimp [zhw (n := k) (by omega)]
   exact hY (n - (k + 1)) _ _ (by omega) ⟨k + 1, by omega, by simp, rfl⟩
 ·exact flat4 S hx fs hn hl hgs (fun j i hj hi => by rw [hF j hj]; exact zi8 (by omega)) hq
theorem flat2 (S : zre C E m v) (hx : SlX h0 1 x (zgc n fun j => [xs j]) W) (fs : FS E m h0 h v5 n xs len xs (fun j => mkTo m j (len j)) gs) (hn : n ≤ 100000000) (hl : ∀ j, j < n → len j ≤ 100000000)
  (hq : ∀ h', h0.le h' → Q (.bool true) h') : zd (ze.l82 E C Q x v5) [.int .i64 0] h := by
 refine zd.intro (fun t vs hh => ∃ (k : Nat) (ys gs : Nat → AVal) (F : Nat → List (List AVal)), k + t = n ∧ vs = [.int .i64 k] ∧ FS E m h0 hh v5 n xs len ys F gs ∧ (∀ j, j < k → gs j = ys j ∧ F j = mkTo m j (len j + 64)) ∧ ∀ j, k ≤ j → ys j = xs j ∧ F j = mkTo m j (len j)) n ?_
  ⟨0, _, gs, _, by simp, by simp, fs, by simp, fun j _ => ⟨rfl, rfl⟩⟩
 rintro Y t vs h ⟨k, ys, gs, F, ht, rfl, fs, hlo, hhi⟩ hY
 have hx' := hx.mono fs.own.le
 simp -dsimp [zo6 hx']
 refine B.zn (fun hb => ?_) (fun hb => ?_) <;> simp -dsimp at hb ⊢
 ·have hk := hhi k (Nat.le_refl k)
  have hlk := hl k hb
  simp -dsimp [zis hx' hb, zok hx' hb]
  refine zd.intro (fun t vs hh => ∃ (i : Nat) (y : AVal), i + t = 64 ∧ vs = [y, .int .i64 i] ∧ FS E m h0 hh v5 n xs len (upf ys k y) (upf F k (mkTo m k (len k + i))) gs) 64 ?_ ⟨0, xs k, by simp, by simp, ?_⟩
  ·rintro Z t' vs hh ⟨i, y, hi, rfl, f1⟩ hZ
   have hx1 := hx.mono f1.own.le
   have hold := (f1.old k hb).at_
   have hlx := hold.zw
   rw [zi7] at hlx
   have ey : upf ys k y k = y := zfs ..
   simp -dsimp
   refine B.zn (fun hc => ?_) (fun hc => ?_) <;> simp -dsimp at hc ⊢
   ·have e1 : IntKind.i64.wrap ((len k : Int) + i) = ((len k + i : Nat) : Int) := by rw [wrap_i64 (by omega) (by omega)]; omega
    simp -dsimp only [zis hx1 hb, zok hx1 hb, hlx, B.zg, B.zg9, V.zdi, e1]
    refine S.call _ _ _ _ ?_
    rw [S.new]
    have := f1.push S hb (cs := m k (len k + i : Nat)) (S.len _ _) (by rw [zfs, zi7]; omega) (K := fun v68 h => B.pv (V.bin .add (.int .i64 (i : Int)) (.int .i64 1)) fun v56 => Z [v68, v56] h) fun y' h2 f2 => ?_
    ·rw [ey] at this; exact this
    ·simp -dsimp [zhw (n := i) (by omega)]
     refine hZ (64 - (i + 1)) _ _ (by omega) ⟨i + 1, y', by omega, by simp, ?_⟩
     rw [upf_upf, upf_upf, zfs, ← mkTo_succ] at f2
     exact f2
   ·have hi64 : i = 64 := by omega
    subst hi64
    simp -dsimp [zis f1.gAt hb]
    have hyc := (f1.yAt hb).zd1
    rw [ey] at hyc
    refine f1.store hb hyc fun h2 f2 => ?_
    simp -dsimp [zhw (n := k) (by omega)]
    refine hY (n - (k + 1)) _ _ (by omega) ⟨k + 1, _, _, _, by omega, by simp, f2, fun j hj => ?_, fun j hj => ?_⟩
    ·by_cases e : j = k
     ·subst e; rw [zfs, zfs, zfs]; exact ⟨rfl, rfl⟩
     ·rw [zkf _ _ e, zkf _ _ e, zkf _ _ e]; exact hlo j (by omega)
    ·rw [zkf _ _ (by omega), zkf _ _ (by omega)]; exact hhi j (by omega)
  ·have e1 : upf ys k (xs k) = ys := by rw [← hk.1, zm8]
   have e2 : upf F k (mkTo m k (len k + 0)) = F := by rw [Nat.add_zero, ← hk.2, zm8]
   rw [e1, e2]; exact fs
 ·have : k = n := by omega
  subst this
  exact flat3 S hx fs hn hl (fun j hj => (hlo j hj).1) (fun j hj => (hlo j hj).2) hq
theorem flatG_spec (S : zre C E m v) {D R : Nat → List (List AVal)} (hx : SlX h0 1 x (zgc n fun j => [xs j]) W) (ho : Owns h0 h (Objs E.es n xs D R)) (hn : n ≤ 100000000) (hl : ∀ j, j < n → (D j).length ≤ 100000000)
  (hq : ∀ h', h0.le h' → Q (.bool true) h') : ze E C x h Q := by
 refine zd.intro (fun t vs hh => ∃ (k : Nat) (G : Nat → List (List AVal)), k + t = n ∧ vs = [.int .i64 k] ∧ Owns h0 hh (Objs E.es n xs G R) ∧ (∀ j, j < k → G j = mkTo m j (D j).length) ∧ ∀ j, k ≤ j → G j = D j) n ?_
  ⟨0, D, by simp, by simp, ho, by simp, fun j _ => rfl⟩
 rintro Y t vs h ⟨k, G, ht, rfl, ho, hlo, hhi⟩ hY
 have hx' := hx.mono ho.le
 simp -dsimp [zo6 hx']
 refine B.zn (fun hb => ?_) (fun hb => ?_) <;> simp -dsimp at hb ⊢
 ·have hlk := hl k hb
  have hgk := hhi k (Nat.le_refl k)
  refine zd.intro (fun t vs hh => ∃ i : Nat, i + t = (D k).length ∧ vs = [.int .i64 i] ∧ Owns h0 hh (Objs E.es n xs (upf G k (mkTo m k i ++ (D k).drop i)) R)) (D k).length ?_ ⟨0, by simp, by simp, ?_⟩
  ·rintro Z t' vs hh ⟨i, hi, rfl, ho1⟩ hZ
   have hx1 := hx.mono ho1.le
   have hxk := ho1.slAt k (Objs.get hb)
   rw [zfs] at hxk
   have hlx := hxk.zw
   have hll : (mkTo m k i ++ (D k).drop i).length = (D k).length := by simp; omega
   rw [hll] at hlx
   simp -dsimp [zis hx1 hb, zok hx1 hb, hlx]
   refine B.zn (fun hc => ?_) (fun hc => ?_) <;> simp -dsimp at hc ⊢
   ·have hlt : i < (mkTo m k i ++ (D k).drop i).length := by omega
    simp -dsimp only [zis hx1 hb, zok hx1 hb, B.zg, B.zg9]
    refine S.call _ _ _ _ (keepS1 (ls_kp hx1 hb) ?_)
    simp -dsimp only [hxk.idxN hlt, B.zg]
    refine S.st hxk (ho1.znl k (Objs.get hb)) (mkTo_at hc) fun h2 h3 h4 h5 => ?_
    rw [mkTo_over hc] at h3
    have h6 := ho1.turn k (Objs.get hb) (o' := .sl E.es (xs k) _ (R k)) h3 h4 h5 (.inl rfl)
    rw [Objs.set, zm8, zm8, upf_upf] at h6
    simp -dsimp [zhw (n := i) (by omega)]
    exact hZ ((D k).length - (i + 1)) _ _ (by omega) ⟨i + 1, by omega, by simp, h6⟩
   ·have hie : i = (D k).length := by omega
    subst hie
    rw [List.drop_length, List.append_nil] at ho1
    simp -dsimp [zhw (n := k) (by omega)]
    refine hY (n - (k + 1)) _ _ (by omega) ⟨k + 1, _, by omega, by simp, ho1, fun j hj => ?_, fun j hj => ?_⟩
    ·by_cases e : j = k
     ·subst e; rw [zfs]
     ·rw [zkf _ _ e]; exact hlo j (by omega)
    ·rw [zkf _ _ (by omega)]; exact hhi j (by omega)
  ·simp only [mkTo_zero, List.nil_append, List.drop_zero]
   rw [← hgk, zm8]; exact ho
 ·have : k = n := by omega
  subst this
  simp -dsimp only [zo6 hx', B.zg]
  refine ⟨Nat.one_pos, ?_⟩
  refine ho.mks (bytes := 24) (es := 1) (n := k) (c := k) (z := [.nils]) rfl (by omega) (by omega) (by omega) (by omega) fun y h1 ho1 => ?_
  have e1 : ((k : Int)).toNat = k := by simp
  rw [e1, Nat.sub_self, zsc] at ho1
  have ho2 := ho1.cutR
  rw [Objs.congr (ys := xs) (E := fun j => mkTo m j (D j).length) (S := fun _ => []) fun j hj => ⟨rfl, hlo j hj, rfl⟩] at ho2
  exact flat2 S hx ⟨ho2, fun j hj => Old.refl (ho2.slAt j (Objs.getA hj))⟩ hn (fun j hj => hl j hj) hq
end
structure Scal (T : Type) [DecidableEq T] where
 c : T → AVal
 cell : ∀ t, (c t).zd1 = true
 eql : ∀ a b, V.bin .eql (c a) (c b) = some (.bool (decide (a = b)))
 neq : ∀ a b, V.bin .neq (c a) (c b) = some (.bool (!decide (a = b)))
theorem SlX.cell {h : zb} {x c : AVal} {L R : List (List AVal)} {i : Nat} (hs : SlX h 1 x L R) (hc : L[i]? = some [c]) : A.ldv h (elp 1 x i 0) = some c := by
 rw [hs.ldv hc (by omega)]; rfl
section
variable {T : Type} [DecidableEq T] (F : Scal T)
abbrev Scal.cs (t : T) : List AVal := [F.c t]
@[simp] def zri.k2 (Q : AVal → zb → Prop) (Y1 : List AVal → zb → Prop) (v0 v1 v5 : AVal) (h : zb) : Prop :=
 B.pv (V.zw v0) fun v13 =>
  B.pv (V.bin .lss v5 v13) fun v14 =>
  B.cond v14
  (B.pv (V.idxS 1 v0 v5) fun v19 =>
  B.ld h v19 fun v20 =>
  B.pv (V.idxS 1 v1 v5) fun v23 =>
  B.ld h v23 fun v24 =>
  B.pv (V.bin .neq v20 v24) fun v25 =>
  B.cond v25
  (Q (.bool false) h)
  (B.pv (V.bin .add v5 (.int .i64 1)) fun v16 =>
  Y1 [v16] h))
  (Q (.bool true) h)
@[simp] def zri.l4 (Q : AVal → zb → Prop) (v0 v1 : AVal) : List AVal → zb → (List AVal → zb → Prop) → Prop
 | [v5], h, Y1 => zri.k2 Q Y1 v0 v1 v5 h
 | _, _, _ => False
def zri (v0 v1 : AVal) (h : zb) (Q : AVal → zb → Prop) : Prop :=
 B.pv (V.zw v0) fun v7 =>
  B.pv (V.zw v1) fun v9 =>
  B.pv (V.bin .neq v7 v9) fun v10 =>
  B.cond v10
  (Q (.bool false) h)
  (zd (zri.l4 Q v0 v1) [(.int .i64 0)] h)
theorem sameS_spec {x y : AVal} {L M : List T} {R S : List (List AVal)} {h : zb} {Q : AVal → zb → Prop} (hx : SlX h 1 x (L.map F.cs) R) (hy : SlX h 1 y (M.map F.cs) S) (hlen : L.length < 4611686018427387904)
  (hq : Q (.bool (decide (L = M))) h) : zri x y h Q := by
 have hlx := hx.zw
 have hly := hy.zw
 rw [List.length_map] at hlx hly
 simp -dsimp [zri, hlx, hly]
 refine B.zn (fun hb => ?_) (fun hb => ?_) <;> simp -dsimp at hb ⊢
 ·rw [decide_eq_false fun e => hb (by rw [e])] at hq
  exact hq
 ·refine zd.intro (fun n vs hh => ∃ k, k + n = L.length ∧ vs = [.int .i64 k] ∧ hh = h ∧ L.take k = M.take k) L.length ?_ ⟨0, by simp, by simp, rfl, by simp⟩
  rintro Y n vs _ ⟨k, hn, rfl, rfl, he⟩ hY
  simp -dsimp [hlx]
  refine B.zn (fun hc => ?_) (fun hc => ?_) <;> simp -dsimp at hc ⊢
  ·obtain ⟨w, hw⟩ := zfc hc
   obtain ⟨u, hu⟩ := zfc (L := M) (k := k) (by omega)
   have hk : k < (L.map F.cs).length := by simpa using hc
   have hk2 : k < (M.map F.cs).length := by simp; omega
   simp only [hx.idxN hk, hy.idxN hk2, hx.cell (get_map hw), hy.cell (get_map hu), B.zg, B.zg9, F.neq]
   refine B.zn (fun hd => ?_) (fun hd => ?_) <;> simp -dsimp at hd ⊢
   ·rw [decide_eq_false fun e => by subst e; rw [hw] at hu; cases hu; exact hd rfl] at hq
    exact hq
   ·simp [zhw (n := k) (by omega)]
    refine hY (L.length - (k + 1)) _ _ (by omega) ⟨k + 1, by omega, by simp, rfl, ?_⟩
    rw [take_succ hw, take_succ hu, he, hd]
  ·rw [List.take_of_length_le (by omega), List.take_of_length_le (by omega)] at he
   rw [decide_eq_true he] at hq
   exact hq
def zf6 (mk : Int → T) (n : Nat) : List (List AVal) := (List.range n).map fun (i : Nat) => F.cs (mk (i : Int))
@[simp] theorem cmarks_len (mk : Int → T) (n : Nat) : (zf6 F mk n).length = n := by simp [zf6]
theorem cmarks_get (mk : Int → T) {n k : Nat} (hk : k < n) : (zf6 F mk n)[k]? = some (F.cs (mk k)) := by simp [zf6, hk]
theorem cmarks_succ (mk : Int → T) (n : Nat) : zf6 F mk (n + 1) = zf6 F mk n ++ [F.cs (mk n)] := by simp [zf6, List.range_succ]
@[simp] def zpk.k2 (C : CSem) (bytes f : Nat) (z : AVal) (m : Int) (Q : AVal → zb → Prop) (Y1 : List AVal → zb → Prop) (v0 v3 v4 : AVal) (h : zb) : Prop :=
 B.pv (V.bin .lss v4 (.int .i64 12)) fun v13 =>
  B.cond v13
  (B.call C f [(.int .i64 m), v4] h fun v18 h =>
  B.newO h (zep [(0, none, v18)] (repL 1 [z])) fun i19 h =>
  B.appW h 1 bytes v3 (.sl i19 0 0 1 1 1) fun v20 h =>
  B.pv (V.bin .add v4 (.int .i64 1)) fun v15 =>
  Y1 [v20, v15] h)
  (B.pv (V.zw v0) fun v23 =>
  B.pv (V.zfe 1 v3 none (some v23)) fun v24 =>
  Q v24 h)
@[simp] def zpk.l4 (C : CSem) (bytes f : Nat) (z : AVal) (m : Int) (Q : AVal → zb → Prop) (v0 : AVal) : List AVal → zb → (List AVal → zb → Prop) → Prop
 | [v3, v4], h, Y1 => zpk.k2 C bytes f z m Q Y1 v0 v3 v4 h
 | _, _, _ => False
def zpk (C : CSem) (bytes f : Nat) (z : AVal) (m : Int) (v0 : AVal) (h : zb) (Q : AVal → zb → Prop) : Prop :=
 B.pv (V.zw v0) fun v6 =>
  B.pv (V.bin .add v6 (.int .i64 12)) fun v7 =>
  0 < 1 ∧ B.mks h bytes (some [z]) (.int .i64 0) v7 fun v8 h =>
  B.appW h 1 bytes v8 v0 fun v11 h =>
  zd (zpk.l4 C bytes f z m Q v0) [v11, (.int .i64 0)] h
theorem lentS_specL {bytes f : Nat} {z : AVal} {m : Int} {mk : Int → T} (s1 : ∀ (i : Int) (h : zb) (Q : AVal → zb → Prop), Q (F.c (mk i)) h → C f [.int .i64 m, .int .i64 i] h Q)
  {x : AVal} {L : List T} {R : List (List AVal)} {h : zb} {Q : AVal → zb → Prop} (hx : SlX h 1 x (L.map F.cs) R) (hlen : L.length ≤ 4611686018427387000) (hbm : (L.length + 12) * bytes ≤ 140737488355328)
  (hq : ∀ x' h', Owns h h' [.sl 1 x' (L.map F.cs) (zf6 F mk 12)] → Q x' h') : zpk C bytes f z m x h Q := by
 have hlx := hx.zw
 rw [List.length_map] at hlx
 have hmul : ∀ n : Nat, n ≤ L.length + 12 → n * bytes ≤ 140737488355328 := fun n hn => Nat.le_trans (Nat.mul_le_mul_right bytes hn) hbm
 have e1 : IntKind.i64.wrap ((L.length : Int) + 12) = (L.length : Int) + 12 := wrap_i64 (by omega) (by omega)
 simp -dsimp [zpk, hlx, e1]
 refine (Owns.start h).mks (es := 1) rfl (by omega) (by omega) ?_ (by omega) fun y h1 ho => ?_
 ·have := hmul (L.length + 12) (by omega)
  have e : ((L.length : Int) + 12) * bytes = ((L.length + 12) * bytes : Nat) := by simp
  rw [e]; omega
 refine ho.appW 0 rfl (hx.mono ho.le) Nat.one_pos (by simpa using hmul L.length (by omega)) (by simp [maxLen]; omega) fun y2 h2 ho2 _ => ?_
 refine zd.intro (fun n vs hh => ∃ k y, k + n = 12 ∧ vs = [y, .int .i64 k] ∧ Owns h hh [.sl 1 y (L.map F.cs ++ zf6 F mk k) []]) 12 ?_ ⟨0, y2, by simp, by simp, by simpa [zf6] using ho2⟩
 rintro Y n vs hh ⟨k, y3, hn, rfl, ho3⟩ hY
 simp -dsimp [hlx]
 refine B.zn (fun hc => ?_) (fun hc => ?_) <;> simp -dsimp at hc ⊢
 ·refine s1 _ _ _ ?_
  have hfill : zep [(0, none, F.c (mk k))] (repL 1 [z]) = some (F.cs (mk k)) := by
   simp [F.cell, repL]
  rw [hfill]
  refine ho3.push 0 rfl rfl Nat.one_pos (by simp; have := hmul (L.length + k + 1) (by omega); omega) (by simp [maxLen]; omega) fun z' h4 ho4 _ => ?_
  simp [zhw (n := k) (by omega)]
  refine hY (12 - (k + 1)) _ _ (by omega) ⟨k + 1, z', by omega, by simp, ?_⟩
  rw [cmarks_succ, ← List.append_assoc]
  exact ho4
 ·have : k = 12 := by omega
  subst this
  obtain ⟨x', e2, e3, e4⟩ := (ho3.slAt 0 rfl).slice Nat.one_pos (lo := 0) (hi := L.length) (a := none) (b := some (.int .i64 L.length)) (.inl ⟨rfl, rfl⟩) (.inr ⟨_, rfl⟩) (by omega) (by simp)
  simp -dsimp [hlx, e2]
  refine hq _ _ (ho3.turn 0 rfl (o' := .sl 1 x' (L.map F.cs) (zf6 F mk 12)) ?_ (fun id b hf hb => ho3.znl 0 rfl id b (by show foot y3 = some id; rw [← e4]; exact hf) hb) (fun j b hb _ => hb) (.inl e4))
  have h1 : ((L.map F.cs ++ zf6 F mk 12 ++ []).take L.length).drop 0 = L.map F.cs := by simp [List.take_append_of_le_length]
  have h2 : (L.map F.cs ++ zf6 F mk 12 ++ []).drop L.length = zf6 F mk 12 := by simp [List.drop_append_of_le_length]
  rw [h1, h2] at e3
  exact e3
theorem lentS_spec {bytes f : Nat} {z : AVal} {m : Int} {mk : Int → T} (hbm : bytes ≤ 1000) (s1 : ∀ (i : Int) (h : zb) (Q : AVal → zb → Prop), Q (F.c (mk i)) h → C f [.int .i64 m, .int .i64 i] h Q)
  {x : AVal} {L : List T} {R : List (List AVal)} {h : zb} {Q : AVal → zb → Prop} (hx : SlX h 1 x (L.map F.cs) R) (hlen : L.length ≤ 100000000)
  (hq : ∀ x' h', Owns h h' [.sl 1 x' (L.map F.cs) (zf6 F mk 12)] → Q x' h') : zpk C bytes f z m x h Q :=
 lentS_specL F s1 hx (by omega) (by have := Nat.mul_le_mul (show L.length + 12 ≤ 100000100 by omega) hbm; omega) hq
@[simp] def zq0.k2 (C : CSem) (f : Nat) (m : Int) (Q : AVal → zb → Prop) (Y1 : List AVal → zb → Prop) (v1 v5 v6 : AVal) (h : zb) : Prop :=
 B.pv (V.zw v5) fun v19 =>
  B.pv (V.bin .lss v6 v19) fun v20 =>
  B.cond v20
  (B.pv (V.zw v1) fun v25 =>
  B.pv (V.bin .lss v6 v25) fun v26 =>
  B.gd h v26 true (fun K => K v5 h) fun v28 h =>
  B.gd h v26 true (fun K => K v6 h) fun v29 h =>
  B.gd h v26 true (fun K => B.pv (V.idxS 1 v28 v29) fun v => K v h) fun v30 h =>
  B.gd h v26 true (fun K => B.ld h v30 fun v => K v h) fun v31 h =>
  B.gd h v26 true (fun K => K v1 h) fun v32 h =>
  B.gd h v26 true (fun K => K v6 h) fun v33 h =>
  B.gd h v26 true (fun K => B.pv (V.idxS 1 v32 v33) fun v => K v h) fun v34 h =>
  B.gd h v26 true (fun K => B.ld h v34 fun v => K v h) fun v35 h =>
  B.gd h v26 true (fun K => B.pv (V.bin .eql v31 v35) fun v => K v h) fun v36 h =>
  B.gd h v26 true (fun K => B.pv (V.un .not v36) fun v => K v h) fun v37 h =>
  B.pick v26 v37 (.bool false) fun v38 =>
  B.gd h v38 false (fun K => K v6 h) fun v40 h =>
  B.gd h v38 false (fun K => K v1 h) fun v41 h =>
  B.gd h v38 false (fun K => B.pv (V.zw v41) fun v => K v h) fun v42 h =>
  B.gd h v38 false (fun K => B.pv (V.bin .geq v40 v42) fun v => K v h) fun v43 h =>
  B.gd h v38 false (fun K => K v43 h) fun v44 h =>
  B.gd h v44 true (fun K => K v5 h) fun v45 h =>
  B.gd h v44 true (fun K => K v6 h) fun v46 h =>
  B.gd h v44 true (fun K => B.pv (V.idxS 1 v45 v46) fun v => K v h) fun v47 h =>
  B.gd h v44 true (fun K => B.ld h v47 fun v => K v h) fun v48 h =>
  B.gd h v44 true (fun K => K v6 h) fun v49 h =>
  B.gd h v44 true (fun K => K v1 h) fun v50 h =>
  B.gd h v44 true (fun K => B.pv (V.zw v50) fun v => K v h) fun v51 h =>
  B.gd h v44 true (fun K => B.pv (V.bin .sub v49 v51) fun v => K v h) fun v52 h =>
  B.gd h v44 true (fun K => B.call C f [(.int .i64 m), v52] h (B.zhv h [(v47, none)] K)) fun v53 h =>
  B.gd h v44 true (fun K => B.pv (V.bin .eql v48 v53) fun v => K v h) fun v54 h =>
  B.gd h v44 true (fun K => B.pv (V.un .not v54) fun v => K v h) fun v55 h =>
  B.gd h v38 false (fun K => B.pick v44 v55 (.bool false) fun v => K v h) fun v56 h =>
  B.pick v38 (.bool true) v56 fun v57 =>
  B.cond v57
  (Q (.bool false) h)
  (B.pv (V.bin .add v6 (.int .i64 1)) fun v22 =>
  Y1 [v22] h))
  (Q (.bool true) h)
@[simp] def zq0.l4 (C : CSem) (f : Nat) (m : Int) (Q : AVal → zb → Prop) (v1 v5 : AVal) : List AVal → zb → (List AVal → zb → Prop) → Prop
 | [v6], h, Y1 => zq0.k2 C f m Q Y1 v1 v5 v6 h
 | _, _, _ => False
def zq0 (C : CSem) (f : Nat) (m : Int) (v0 v1 : AVal) (h : zb) (Q : AVal → zb → Prop) : Prop :=
 B.pv (V.zw v0) fun v8 =>
  B.pv (V.zw v1) fun v10 =>
  B.pv (V.bin .neq v8 v10) fun v11 =>
  B.cond v11
  (Q (.bool false) h)
  (B.pv (V.zw v1) fun v14 =>
  B.pv (V.bin .add v14 (.int .i64 12)) fun v15 =>
  B.pv (V.zfe 1 v0 none (some v15)) fun v16 =>
  zd (zq0.l4 C f m Q v1 v16) [(.int .i64 0)] h)
theorem keptS_specL {f : Nat} {m : Int} {mk : Int → T} (s1 : ∀ (i : Int) (h : zb) (Q : AVal → zb → Prop), Q (F.c (mk i)) h → C f [.int .i64 m, .int .i64 i] h Q)
  {x y : AVal} {L M : List T} {R : List (List AVal)} {h : zb} {Q : AVal → zb → Prop} (hx : SlX h 1 x (L.map F.cs) (zf6 F mk 12)) (hy : SlX h 1 y (M.map F.cs) R) (hlen : L.length ≤ 4611686018427387000)
  (hq : Q (.bool (decide (L = M))) h) : zq0 C f m x y h Q := by
 have hlx := hx.zw
 have hly := hy.zw
 rw [List.length_map] at hlx hly
 simp -dsimp [zq0, hlx, hly]
 refine B.zn (fun hb => ?_) (fun hb => ?_) <;> simp -dsimp at hb ⊢
 ·rw [decide_eq_false fun e => hb (by rw [e])] at hq
  exact hq
 ·have e1 : IntKind.i64.wrap ((M.length : Int) + 12) = ((M.length + 12 : Nat) : Int) := by rw [wrap_i64 (by omega) (by omega)]; omega
  obtain ⟨z, e2, e3, e4⟩ := hx.slice Nat.one_pos (lo := 0) (hi := M.length + 12) (a := none) (b := some (.int .i64 ((M.length + 12 : Nat) : Int))) (.inl ⟨rfl, rfl⟩) (.inr ⟨_, rfl⟩) (by omega) (by simp; omega)
  have h1 : ((L.map F.cs ++ zf6 F mk 12).take (M.length + 12)).drop 0 = L.map F.cs ++ zf6 F mk 12 := by rw [List.drop_zero, List.take_of_length_le]; simp; omega
  rw [h1] at e3
  have hlz := e3.zw
  simp only [List.length_append, List.length_map, cmarks_len] at hlz
  simp only [hly, V.zdi, e1, e2, B.zg]
  refine zd.intro (fun n vs hh => ∃ k, k + n = L.length + 12 ∧ vs = [.int .i64 k] ∧ hh = h ∧ L.take k = M.take k) (L.length + 12) ?_ ⟨0, by simp, by simp, rfl, by simp⟩
  rintro Y n vs _ ⟨k, hn, rfl, rfl, he⟩ hY
  simp -dsimp [hlz]
  refine B.zn (fun hc => ?_) (fun hc => ?_) <;> simp -dsimp at hc ⊢
  ·have hk : k < (L.map F.cs ++ zf6 F mk 12).length := by simp; omega
   by_cases hkL : k < L.length
   ·have ew := zfc hkL
    have eu := zfc (L := M) (k := k) (by omega)
    obtain ⟨w, hw⟩ := ew
    obtain ⟨u, hu⟩ := eu
    have hk2 : k < (M.map F.cs).length := by simp; omega
    have hkM : k < M.length := by omega
    have hwz : (L.map F.cs ++ zf6 F mk 12)[k]? = some (F.cs w) := by rw [List.getElem?_append_left (by simpa using hkL)]; exact get_map hw
    by_cases hwu : w = u
    ·subst hwu
     simp -dsimp [hly, hkM, e3.idxN hk, hy.idxN hk2, e3.cell hwz, hy.cell (get_map hu), F.eql, show ¬ M.length ≤ k by omega, zhw (n := k) (by omega)]
     refine hY (L.length + 12 - (k + 1)) _ _ (by omega) ⟨k + 1, by omega, by simp, rfl, ?_⟩
     rw [take_succ hw, take_succ hu, he]
    ·simp -dsimp [hly, hkM, e3.idxN hk, hy.idxN hk2, e3.cell hwz, hy.cell (get_map hu), F.eql, hwu]
     rw [decide_eq_false fun e => by subst e; rw [hw] at hu; cases hu; exact hwu rfl] at hq
     exact hq
   ·have hkM : ¬ k < M.length := by omega
    have hmk : (L.map F.cs ++ zf6 F mk 12)[k]? = some (F.cs (mk ((k - M.length : Nat) : Int))) := by
     rw [List.getElem?_append_right (by simp; omega), List.length_map, show k - L.length = k - M.length by omega]
     exact cmarks_get F mk (by omega)
    have e5 : IntKind.i64.wrap ((k : Int) - M.length) = ((k - M.length : Nat) : Int) := by rw [wrap_i64 (by omega) (by omega)]; omega
    simp -dsimp [hly, hkM, e3.idxN hk, e3.cell hmk, show M.length ≤ k by omega, e5]
    refine s1 _ _ _ ⟨?_, ?_⟩
    ·intro p hp
     rw [List.mem_singleton.1 hp]
     exact ⟨_, e3.cell hmk, e3.cell hmk⟩
    ·simp [F.eql, zhw (n := k) (by omega)]
     refine hY (L.length + 12 - (k + 1)) _ _ (by omega) ⟨k + 1, by omega, by simp, rfl, ?_⟩
     rw [List.take_of_length_le (by omega), List.take_of_length_le (by omega)] at he ⊢
     exact he
  ·rw [List.take_of_length_le (by omega), List.take_of_length_le (by omega)] at he
   rw [decide_eq_true he] at hq
   exact hq
theorem keptS_spec {f : Nat} {m : Int} {mk : Int → T} (s1 : ∀ (i : Int) (h : zb) (Q : AVal → zb → Prop), Q (F.c (mk i)) h → C f [.int .i64 m, .int .i64 i] h Q)
  {x y : AVal} {L M : List T} {R : List (List AVal)} {h : zb} {Q : AVal → zb → Prop} (hx : SlX h 1 x (L.map F.cs) (zf6 F mk 12)) (hy : SlX h 1 y (M.map F.cs) R) (hlen : L.length ≤ 100000000)
  (hq : Q (.bool (decide (L = M))) h) : zq0 C f m x y h Q := keptS_specL F s1 hx hy (by omega) hq
end
@[simp] def zmu.k1 (C : CSem) (es f : Nat) (st : zb → AVal → AVal → (zb → Prop) → Prop) (m : Int) (Q : AVal → zb → Prop) (Y1 : List AVal → zb → Prop) (v2 v3 : AVal) (h : zb) : Prop :=
 B.pv (V.zw v2) fun v11 =>
  B.pv (V.bin .lss v3 v11) fun v12 =>
  B.cond v12
  (B.call C f [(.int .i64 m), v3] h fun v18 h =>
  B.pv (V.idxS es v2 v3) fun v19 =>
  st h v19 v18 fun h =>
  B.pv (V.bin .add v3 (.int .i64 1)) fun v14 =>
  Y1 [v14] h)
  (Q (.tup []) h)
@[simp] def zmu.l3 (C : CSem) (es f : Nat) (st : zb → AVal → AVal → (zb → Prop) → Prop) (m : Int) (Q : AVal → zb → Prop) (v2 : AVal) : List AVal → zb → (List AVal → zb → Prop) → Prop
 | [v3], h, Y1 => zmu.k1 C es f st m Q Y1 v2 v3 h
 | _, _, _ => False
def zmu (C : CSem) (es f : Nat) (st : zb → AVal → AVal → (zb → Prop) → Prop) (m : Int) (v0 : AVal) (h : zb) (Q : AVal → zb → Prop) : Prop :=
 B.pv (V.zw v0) fun v6 =>
  B.pv (V.bin .add v6 (.int .i64 12)) fun v7 =>
  B.pv (V.zfe es v0 none (some v7)) fun v8 =>
  zd (zmu.l3 C es f st m Q v8) [(.int .i64 0)] h
theorem overG_specL {es f : Nat} {st : zb → AVal → AVal → (zb → Prop) → Prop} {m : Int} (hes : 0 < es) {v : Int → AVal} (s1 : ∀ (i : Int) (h : zb) (Q : AVal → zb → Prop), Q (v i) h → C f [.int .i64 m, .int .i64 i] h Q)
  (s2 : ∀ {h0 h : zb} {x : AVal} {L R : List (List AVal)} {i : Nat} {k : Int} {K : zb → Prop}, Owns h0 h [.sl es x L R] → i < L.length → (∀ h' L', L'.length = L.length → Owns h0 h' [.sl es x L' R] → K h') → st h (elp es x i 0) (v k) K)
  {h0 h : zb} {x : AVal} {L R : List (List AVal)} {Q : AVal → zb → Prop} (ho : Owns h0 h [.sl es x L R]) (hR : R.length = 12) (hlen : L.length ≤ 4611686018427387000) (hq : ∀ h', h0.le h' → Q (.tup []) h') : zmu C es f st m x h Q := by
 have hx := ho.slAt 0 rfl
 have hlx := hx.zw
 have e1 : IntKind.i64.wrap ((L.length : Int) + 12) = ((L.length + 12 : Nat) : Int) := by rw [wrap_i64 (by omega) (by omega)]; omega
 obtain ⟨z, e2, e3, e4⟩ := hx.slice hes (lo := 0) (hi := L.length + 12) (a := none) (b := some (.int .i64 ((L.length + 12 : Nat) : Int))) (.inl ⟨rfl, rfl⟩) (.inr ⟨_, rfl⟩) (by omega) (by omega)
 have h1 : ((L ++ R).take (L.length + 12)).drop 0 = L ++ R := by rw [List.drop_zero, List.take_of_length_le]; simp; omega
 rw [h1] at e3
 simp only [zmu, hlx, V.zdi, e1, e2, B.zg]
 have hoz : Owns h0 h [.sl es z (L ++ R) ((L ++ R).drop (L.length + 12))] := ho.turn 0 rfl (o' := .sl es z (L ++ R) ((L ++ R).drop (L.length + 12))) e3 (fun id b hf hb => ho.znl 0 rfl id b (by show foot x = some id; rw [← e4]; exact hf) hb) (fun j b hb _ => hb) (.inl e4)
 refine zd.intro (fun n vs hh => ∃ (k : Nat) (L' : List (List AVal)), k + n = L.length + 12 ∧ vs = [.int .i64 k] ∧ L'.length = L.length + 12 ∧ Owns h0 hh [.sl es z L' ((L ++ R).drop (L.length + 12))]) (L.length + 12) ?_ ⟨0, L ++ R, by simp, by simp, by simp [hR], hoz⟩
 rintro Y n vs hh ⟨k, L', hn, rfl, hl', ho'⟩ hY
 have hlz := (ho'.slAt 0 rfl).zw
 rw [hl'] at hlz
 simp -dsimp [hlz]
 refine B.zn (fun hc => ?_) (fun hc => ?_) <;> simp -dsimp at hc ⊢
 ·have hk : k < L'.length := by omega
  refine s1 _ _ _ ?_
  simp -dsimp only [(ho'.slAt 0 rfl).idxN hk, B.zg]
  refine s2 ho' hk fun h' L2 hl2 ho2 => ?_
  simp -dsimp [zhw (n := k) (by omega)]
  exact hY (L.length + 12 - (k + 1)) _ _ (by omega) ⟨k + 1, L2, by omega, by simp, by omega, ho2⟩
 ·exact hq _ ho'.le
theorem zrx {es f : Nat} {st : zb → AVal → AVal → (zb → Prop) → Prop} {m : Int} (hes : 0 < es) {v : Int → AVal} (s1 : ∀ (i : Int) (h : zb) (Q : AVal → zb → Prop), Q (v i) h → C f [.int .i64 m, .int .i64 i] h Q)
  (s2 : ∀ {h0 h : zb} {x : AVal} {L R : List (List AVal)} {i : Nat} {k : Int} {K : zb → Prop}, Owns h0 h [.sl es x L R] → i < L.length → (∀ h' L', L'.length = L.length → Owns h0 h' [.sl es x L' R] → K h') → st h (elp es x i 0) (v k) K)
  {h0 h : zb} {x : AVal} {L R : List (List AVal)} {Q : AVal → zb → Prop} (ho : Owns h0 h [.sl es x L R]) (hR : R.length = 12) (hlen : L.length ≤ 100000000) (hq : ∀ h', h0.le h' → Q (.tup []) h') : zmu C es f st m x h Q :=
 overG_specL hes s1 s2 ho hR (by omega) hq
theorem over_stS {v : AVal} (hv : v.zd1 = true) {h0 h : zb} {x : AVal} {L R : List (List AVal)} {i : Nat} {K : zb → Prop} (ho : Owns h0 h [.sl 1 x L R]) (hi : i < L.length) (hK : ∀ h' L', L'.length = L.length → Owns h0 h' [.sl 1 x L' R] → K h') : B.st h (elp 1 x i 0) v K := by
 refine ho.st 0 rfl (c := L[i]) (by simp [hi]) (by omega) hv fun h' ho' _ => hK h' _ (by simp) ho'
theorem over_stN {es : Nat} {xs : List AVal} (hxs : xs.length = es) {h0 h : zb} {x : AVal} {L R : List (List AVal)} {i : Nat} {K : zb → Prop} (ho : Owns h0 h [.sl es x L R]) (hi : i < L.length) (hK : ∀ h' L', L'.length = L.length → Owns h0 h' [.sl es x L' R] → K h') : B.stn h (elp es x i 0) es (.agg xs) K := by
 refine ho.stElem 0 rfl (c := L[i]) (by simp [hi]) hxs fun h' ho' _ => hK h' _ (by simp) ho'
def zb.zmc (h : zb) (l : List Ob) : zb := ⟨fun i => bif l.any (fun o => o.foot == some i) then none else h i, by
 obtain ⟨n, k⟩ := h.2
 refine ⟨n, fun i hi => ?_⟩
 show (bif l.any (fun o => o.foot == some i) then none else h i) = none
 cases l.any (fun o => o.foot == some i)
 ·exact k i hi
 ·rfl⟩
theorem zrs {h : zb} {l : List Ob} {i : Nat} {o : Ob} (hm : o ∈ l) (hf : o.foot = some i) : h.zmc l i = none := by
 have : (l.any fun o => o.foot == some i) = true := List.any_eq_true.2 ⟨o, hm, by simp [hf]⟩
 show (bif l.any (fun o => o.foot == some i) then none else h i) = none
 rw [this]; rfl
theorem zmb {h : zb} {l : List Ob} {i : Nat} (hm : ∀ o ∈ l, o.foot ≠ some i) : h.zmc l i = h i := by
 have : (l.any fun o => o.foot == some i) = false := by
  rw [← Bool.not_eq_true, List.any_eq_true]
  rintro ⟨o, h1, h2⟩
  exact hm o h1 (by simpa using h2)
 show (bif l.any (fun o => o.foot == some i) then none else h i) = _
 rw [this]; rfl
theorem without_le (h : zb) (l : List Ob) : (h.zmc l).le h := fun i b e => by
 by_cases hm : ∃ o ∈ l, o.foot = some i
 ·obtain ⟨o, h1, h2⟩ := hm
  rw [zrs h1 h2] at e; cases e
 ·rw [zmb fun o h1 h2 => hm ⟨o, h1, h2⟩] at e; exact e
theorem Owns.out {h0 h : zb} {l1 l2 : List Ob} (ho : Owns h0 h (l1 ++ l2)) : Owns h0 (h.zmc l2) l1 ∧ Owns (h.zmc l2) h l2 := by
 obtain ⟨a1, a2, a3⟩ := List.pairwise_append.1 ho.apart
 have h1 : h0.le (h.zmc l2) := fun i b e => by
  rw [zmb fun o hm hf => by rw [(ho.own o (List.mem_append_right _ hm) i hf).1] at e; cases e]
  exact ho.le i b e
 have keep : ∀ o ∈ l1, ∀ id, o.foot = some id → (h.zmc l2) id = h id := fun o hm id hf => zmb fun o2 hm2 hf2 => a3 o hm o2 hm2 id hf hf2
 refine ⟨⟨h1, fun o hm => (ho.is o (List.mem_append_left _ hm)).keep fun id b hf hb => by rw [keep o hm id hf]; exact hb, fun o hm id hf => ?_, a1⟩,
  ⟨without_le h l2, fun o hm => ho.is o (List.mem_append_right _ hm), fun o hm id hf => ⟨zrs hm hf, (ho.own o (List.mem_append_right _ hm) id hf).2⟩, a2⟩⟩
 obtain ⟨b1, b2⟩ := ho.own o (List.mem_append_left _ hm) id hf
 exact ⟨b1, fun b hb => b2 b (by rw [← keep o hm id hf]; exact hb)⟩
theorem Owns.perm {h0 h : zb} {l l' : List Ob} (ho : Owns h0 h l) (hp : l.Perm l') : Owns h0 h l' :=
 ⟨ho.le, fun o hm => ho.is o (hp.mem_iff.2 hm), fun o hm => ho.own o (hp.mem_iff.2 hm), (hp.pairwise_iff fun {a b} hab id hb ha => hab id ha hb).1 ho.apart⟩
theorem elS {bytes f : Nat} {z : AVal} {mv : Int → Int → AVal} (hc : ∀ k i, (mv k i).zd1 = true) (he : ∀ k i, V.bin .eql (mv k i) (mv k i) = some (.bool true)) (hb : bytes ≤ 1000) (s1 : ∀ (k i : Int) (h : zb) (Q : AVal → zb → Prop), Q (mv k i) h → C f [.int .i64 k, .int .i64 i] h Q) :
  zre C (opsS bytes z f) (fun k i => [mv k i]) mv where
 pos := Nat.one_pos
 small := hb
 len _ _ := rfl
 zlen := rfl
 new k i := by simp [opsS, hc, repL]
 call := s1
 ld hs hc hk := by
  simp only [opsS, B.zg9] at hs ⊢
  rw [hs.cell hc]; exact hk
 kpt hs hc := ⟨_, hs.cell hc⟩
 st {h x L R i c k j K} hs hown hcc hk := by
  have hs' : SlX h 1 x L R := hs
  have hcl : c.length = 1 := hs'.len c (List.mem_append_left _ (List.mem_of_getElem? hcc))
  obtain ⟨u, rfl⟩ := List.length_eq_one_iff.1 hcl
  exact hs'.st hown hcc (by omega) (hc _ _) hk
 eq hk := by simp only [opsS, he, B.zg]; exact hk
structure Part where
 Item : List UInt8
 Qty : Int
 deriving DecidableEq
@[simp] def Part.cs (u : Part) : List AVal := [.str u.Item, .int .i64 u.Qty]
def partF : Flat Part where
 cs := Part.cs
 es := 2
 sh := [.s, .i .i64]
 len _ := rfl
 pos := by omega
 eq a b := by
  cases a; cases b
  simp
theorem u8_eq (a b : UInt8) : decide ((a.toNat : Int) = b.toNat) = decide (a = b) := by
 rw [decide_eq_decide]
 constructor
 ·intro h; exact UInt8.toNat_inj.1 (by omega)
 ·intro h; rw [h]
def bS : Scal UInt8 where
 c b := .int .u8 b.toNat
 cell _ := rfl
 eql a b := by rw [V.zjj, u8_eq]
 neq a b := by rw [V.bin_neq, u8_eq]
abbrev bc : UInt8 → List AVal := bS.cs
def tS : Scal (List UInt8) where
 c b := .str b
 cell _ := rfl
 eql a b := by rw [V.zn2]
 neq a b := by rw [V.bin_sneq]
abbrev tc : List UInt8 → List AVal := tS.cs
theorem wrap_u8 (n : Int) : IntKind.u8.wrap n = n % 256 := by
 simp [IntKind.wrap, IntKind.bits, IntKind.signed]
def byt (m : Int) : UInt8 := UInt8.ofNat (m % 256).toNat
theorem byt_nat (m : Int) : ((byt m).toNat : Int) = m % 256 := by
 have h1 := Int.emod_nonneg m (show (256 : Int) ≠ 0 by omega)
 have h2 := Int.emod_lt_of_pos m (show (0 : Int) < 256 by omega)
 simp [byt]
 omega
theorem u8_byt (m : Int) : IntKind.u8.wrap m = ((byt m).toNat : Int) := by rw [wrap_u8, byt_nat]
theorem bin_shr {k j : IntKind} {a b : Int} (h0 : 0 ≤ b) (h1 : b < k.bits) : V.bin .shr (.int k a) (.int j b) = some (.int k (a.fdiv (2 ^ b.toNat))) := by
 simp only [V.bin, V.shift]
 rw [if_neg (by omega), Nat.min_eq_left (by omega)]
theorem wrap_u64 (n : Int) : IntKind.u64.wrap n = n % 18446744073709551616 := by
 simp [IntKind.wrap, IntKind.bits, IntKind.signed]
theorem zsn : ∀ s : List UInt8, V.zjc (s.map bc).flatten = some s
 | [] => rfl
 | a :: r => by
  have := zsn r
  simp only [List.map_cons, List.flatten_cons, List.cons_append, List.nil_append] at this ⊢
  simp only [V.zjc, this]
  simp [V.byteOf?, bS]
theorem bytesStr_bc {h : zb} {x : AVal} {s : List UInt8} {R : List (List AVal)} (hx : SlX h 1 x (s.map bc) R) (K : AVal → Prop) : (B.zew h x K : Prop) = K (.str s) := by
 have h1 := hx.zf8
 have h2 := hx.rdv
 rw [List.length_map] at h1 h2
 simp only [B.zew, A.zew, h1, h2, zsn]
def cA : Code → Code
 | .seq a _ => a
 | .cond _ a _ => a
 | .block _ b => b
 | .loop b => b
 | .scope b => b
 | _ => .skip
def cB : Code → Code
 | .seq _ b => b
 | .cond _ _ b => b
 | _ => .skip
def cI : Code → Nat
 | .block i _ => i
 | _ => 0
def isS : Code → Bool
 | .seq _ _ => true
 | _ => false
def isC (t : Nat) : Code → Bool
 | .cond (.tmp k) _ _ => Nat.beq k t
 | _ => false
def isK : Code → Bool
 | .block _ _ => true
 | _ => false
def isL : Code → Bool
 | .loop _ => true
 | _ => false
section
variable {P : Program} {C : CSem} {I : Bx}
theorem eS (hC : zlu C) {c : Code} {Q : Ex → zb9 → zb → Prop} {s : zb9} {h : zb} (X : zb9 → zb → Prop) (ha : bwp P C I (cA c) (Ex.then X Q) s h) (hb : ∀ s h, X s h → bwp P C I (cB c) Q s h) (hk : isS c = true := by kernel_rfl) : bwp P C I c Q s h := by
 cases c <;> first | exact seqB hC rfl hb ha | cases hk
theorem eC {c : Code} {Q : Ex → zb9 → zb → Prop} {p q : Prop} {s : zb9} {h : zb} (t : Nat) (hr : A.cond (s t) p q) (hx : p → bwp P C I (cA c) Q s h) (hy : q → bwp P C I (cB c) Q s h) (hk : isC t c = true := by kernel_rfl) : bwp P C I c Q s h := by
 cases c with
 | cond o x y =>
  cases o with
  | tmp k =>
   have e : k = t := Nat.eq_of_beq_eq_true hk
   subst e
   exact condB rfl hx hy hr
  | _ => cases hk
 | _ => cases hk
theorem eK {c : Code} {Q : Ex → zb9 → zb → Prop} {s : zb9} {h : zb} (hb : bwp P C I (cA c) (Ex.inBlock (cI c) Q) s h) (hk : isK c = true := by kernel_rfl) : bwp P C I c Q s h := by
 cases c <;> first | exact hb | cases hk
theorem eL (hC : zlu C) {c : Code} {Q : Ex → zb9 → zb → Prop} {s : zb9} {h : zb} (keep live : List Nat) (G : List AVal → List AVal → zb → (List AVal → zb → Prop) → Prop)
  (hr : zd (G (keep.map s)) (live.map s) h)
  (hG : ∀ (Y : List AVal → zb → Prop) (s : zb9) (h : zb), G (keep.map s) (live.map s) h Y → bwp P C I (cA c) (Ex.then (fun s h => Y (live.map s) h) Q) s h)
  (hk : isL c = true := by kernel_rfl) (hw : (keep.all fun k => !memB (zg5 P I (cA c)) k) = true := by kernel_rfl) : bwp P C I c Q s h := by
 cases c <;> first | exact loopB hC keep live rfl hw hG hr | cases hk
theorem e0 {q p : Prop} (hR : p) (e : q = p := by kernel_rfl) : q := e.mpr hR
theorem e1 {c : Code} {Q : Ex → zb9 → zb → Prop} {s : zb9} {h : zb} {p : Prop} (hR : p) (e : bwp P C I c Q s h = p := by kernel_rfl) : bwp P C I c Q s h := e.mpr hR
theorem eF (hm : P.follows .mixedOrders = true) {f : FuncId} {fn : Func} {c : Code} {I : Bx} {args : List AVal} {h : zb} {Q : AVal → zb → Prop}
  (hx : zlu (AC P) → bwp P (AC P) I c (retB P I fn.results.toList (dn Q)) (zcl args) h) (hf : P.funcs[f]? = some fn := by kernel_rfl) (hb : fn.body = some c := by kernel_rfl) (h1 : (fn.name == "runtime.NumGoroutine") = false := by kernel_rfl)
  (hc : zh8 fn.ntmps c = true := by kernel_rfl) (hne : Nat.beq f zoy = false := by kernel_rfl) (hl : Nat.ble args.length fn.ntmps = true := by kernel_rfl) (hB : Nat.ble args.length I.B = true := by kernel_rfl) (hk : chkC P I c = true := by kernel_rfl) : AC P f args h Q :=
 AC_drop (AC_introB hm hf hb (zl7 hf (by rw [hb]; rfl) h1) hc hne (Nat.le_of_ble_eq_true hl) (Nat.le_of_ble_eq_true hB) hk (hx (AC_cmono P)))
end
@[simp] def zc4.k1 (C : CSem) (N : Nat → Nat) (Q : AVal → zb → Prop) (v0 v1 : AVal) (h : zb) : Prop :=
 B.call C (N 389) [v0] h fun v6 h =>
  B.gd h v6 true (fun K => K v1 h) fun v8 h =>
  B.gd h v6 true (fun K => B.call C (N 389) [v8] h K) fun v9 h =>
  B.gd h v6 true (fun K => B.pv (V.un .not v9) fun v => K v h) fun v10 h =>
  B.pick v6 v10 (.bool false) fun v11 =>
  B.gd h v11 false (fun K => K v0 h) fun v13 h =>
  B.gd h v11 false (fun K => K v1 h) fun v14 h =>
  B.gd h v11 false (fun K => B.pv (V.bin .lss v13 v14) fun v => K v h) fun v15 h =>
  B.pick v11 (.bool true) v15 fun v16 =>
  Q v16 h
@[simp] def zc4.cps (C : CSem) (N : Nat → Nat) (v0 v1 : AVal) (h : zb) (Q : AVal → zb → Prop) : Prop :=
 zc4.k1 C N Q v0 v1 h
def zc4.Imp (C : CSem) (N : Nat → Nat) : Prop := ∀ (v0 v1 : AVal) (h : zb) (Q : AVal → zb → Prop), zc4.cps C N v0 v1 h (dn Q) → C (N 377) [v0, v1] h Q
@[simp] def zc6.cps (C : CSem) (N : Nat → Nat) (v0 : AVal) (h : zb) (Q : AVal → zb → Prop) : Prop :=
 B.pv (V.bin .neq v0 v0) fun v5 =>
  Q v5 h
def zc6.Imp (C : CSem) (N : Nat → Nat) : Prop := ∀ (v0 : AVal) (h : zb) (Q : AVal → zb → Prop), zc6.cps C N v0 h (dn Q) → C (N 389) [v0] h Q
@[simp] def zdb.k1 (C : CSem) (N : Nat → Nat) (Q : AVal → zb → Prop) (v0 : AVal) (h : zb) : Prop :=
 B.pv (V.bin .neq v0 (.str [])) fun v34 =>
  B.gd h v34 true (fun K => K v0 h) fun v36 h =>
  B.gd h v34 true (fun K => B.pv (V.zht v36) fun v => K v h) fun v37 h =>
  B.gd h v34 true (fun K => B.pv (V.bin .leq v37 (.int .i64 12)) fun v => K v h) fun v38 h =>
  B.pick v34 v38 (.bool false) fun v39 =>
  Q v39 h
@[simp] def zdb.k2 (C : CSem) (N : Nat → Nat) (Q : AVal → zb → Prop) (Y1 : List AVal → zb → Prop) (v0 v6 : AVal) (h : zb) : Prop :=
 B.zft h v6 fun v7 h =>
  B.pv (V.ext 0 v7) fun v8 =>
  B.cond v8
  (B.pv (V.ext 1 v7) fun v9 =>
  B.pv (V.ext 2 v7) fun v10 =>
  B.pv (V.bin .geq v10 (.int .i32 65)) fun v13 =>
  B.gd h v13 true (fun K => K v10 h) fun v15 h =>
  B.gd h v13 true (fun K => B.pv (V.bin .leq v15 (.int .i32 90)) fun v => K v h) fun v16 h =>
  B.pick v13 v16 (.bool false) fun v17 =>
  B.cond v17
  (Y1 [] h)
  (B.pv (V.bin .gtr v9 (.int .i64 0)) fun v20 =>
  B.gd h v20 true (fun K => K v10 h) fun v22 h =>
  B.gd h v20 true (fun K => B.pv (V.bin .geq v22 (.int .i32 48)) fun v => K v h) fun v23 h =>
  B.gd h v20 true (fun K => K v23 h) fun v24 h =>
  B.gd h v24 true (fun K => K v10 h) fun v25 h =>
  B.gd h v24 true (fun K => B.pv (V.bin .leq v25 (.int .i32 57)) fun v => K v h) fun v26 h =>
  B.gd h v20 true (fun K => B.pick v24 v26 (.bool false) fun v => K v h) fun v27 h =>
  B.gd h v20 true (fun K => K v27 h) fun v28 h =>
  B.gd h v28 false (fun K => K v10 h) fun v29 h =>
  B.gd h v28 false (fun K => B.pv (V.bin .eql v29 (.int .i32 45)) fun v => K v h) fun v30 h =>
  B.gd h v20 true (fun K => B.pick v28 (.bool true) v30 fun v => K v h) fun v31 h =>
  B.pick v20 v31 (.bool false) fun v32 =>
  B.cond v32
  (Y1 [] h)
  (Q (.bool false) h)))
  (zdb.k1 C N Q v0 h)
@[simp] def zdb.l3 (C : CSem) (N : Nat → Nat) (Q : AVal → zb → Prop) (v0 v6 : AVal) : List AVal → zb → (List AVal → zb → Prop) → Prop
 | [], h, Y1 => zdb.k2 C N Q Y1 v0 v6 h
 | _, _, _ => False
@[simp] def zdb.cps (C : CSem) (N : Nat → Nat) (v0 : AVal) (h : zb) (Q : AVal → zb → Prop) : Prop :=
 B.zgp h v0 fun v6 h =>
  zd (zdb.l3 C N Q v0 v6) [] h
def zdb.Imp (C : CSem) (N : Nat → Nat) : Prop := ∀ (v0 : AVal) (h : zb) (Q : AVal → zb → Prop), zdb.cps C N v0 h (dn Q) → C (N 53) [v0] h Q
@[simp] def zfh.cps (C : CSem) (N : Nat → Nat) (v0 v1 : AVal) (h : zb) (Q : AVal → zb → Prop) : Prop :=
 B.pv (V.bin .add v0 (.int .i64 7)) fun v6 =>
  B.pv (V.bin .mul (.int .i64 1000003) v6) fun v7 =>
  B.pv (V.bin .add v7 v1) fun v9 =>
  Q v9 h
def zfh.Imp (C : CSem) (N : Nat → Nat) : Prop := ∀ (v0 v1 : AVal) (h : zb) (Q : AVal → zb → Prop), zfh.cps C N v0 v1 h (dn Q) → C (N 20) [v0, v1] h Q
@[simp] def zd2.k1 (C : CSem) (N : Nat → Nat) (Q : AVal → zb → Prop) (v0 : AVal) (h : zb) : Prop :=
 B.nilCheck v0 fun v4 =>
  B.pv (V.fieldAddr 0 v4) fun v5 =>
  B.ld h v5 fun v6 =>
  B.call C (N 80) [v6] h fun v7 h =>
  B.gd h v7 true (fun K => K v0 h) fun v9 h =>
  B.gd h v7 true (fun K => B.nilCheck v9 fun v => K v h) fun v10 h =>
  B.gd h v7 true (fun K => B.pv (V.fieldAddr 1 v10) fun v => K v h) fun v11 h =>
  B.gd h v7 true (fun K => B.ld h v11 fun v => K v h) fun v12 h =>
  B.gd h v7 true (fun K => B.call C (N 81) [v12] h K) fun v13 h =>
  B.pick v7 v13 (.bool false) fun v14 =>
  B.gd h v14 true (fun K => K v0 h) fun v16 h =>
  B.gd h v14 true (fun K => B.nilCheck v16 fun v => K v h) fun v17 h =>
  B.gd h v14 true (fun K => B.pv (V.fieldAddr 2 v17) fun v => K v h) fun v18 h =>
  B.gd h v14 true (fun K => B.ld h v18 fun v => K v h) fun v19 h =>
  B.gd h v14 true (fun K => B.call C (N 82) [v19] h K) fun v20 h =>
  B.pick v14 v20 (.bool false) fun v21 =>
  B.gd h v21 true (fun K => K v0 h) fun v23 h =>
  B.gd h v21 true (fun K => B.nilCheck v23 fun v => K v h) fun v24 h =>
  B.gd h v21 true (fun K => B.pv (V.fieldAddr 3 v24) fun v => K v h) fun v25 h =>
  B.gd h v21 true (fun K => B.ld h v25 fun v => K v h) fun v26 h =>
  B.gd h v21 true (fun K => B.call C (N 83) [v26] h K) fun v27 h =>
  B.pick v21 v27 (.bool false) fun v28 =>
  B.gd h v28 true (fun K => K v0 h) fun v30 h =>
  B.gd h v28 true (fun K => B.nilCheck v30 fun v => K v h) fun v31 h =>
  B.gd h v28 true (fun K => B.pv (V.fieldAddr 4 v31) fun v => K v h) fun v32 h =>
  B.gd h v28 true (fun K => B.ld h v32 fun v => K v h) fun v33 h =>
  B.gd h v28 true (fun K => B.call C (N 84) [v33] h K) fun v34 h =>
  B.pick v28 v34 (.bool false) fun v35 =>
  B.gd h v35 true (fun K => K v0 h) fun v37 h =>
  B.gd h v35 true (fun K => B.nilCheck v37 fun v => K v h) fun v38 h =>
  B.gd h v35 true (fun K => B.pv (V.fieldAddr 5 v38) fun v => K v h) fun v39 h =>
  B.gd h v35 true (fun K => B.ld h v39 fun v => K v h) fun v40 h =>
  B.gd h v35 true (fun K => B.call C (N 85) [v40] h K) fun v41 h =>
  B.pick v35 v41 (.bool false) fun v42 =>
  B.gd h v42 true (fun K => K v0 h) fun v44 h =>
  B.gd h v42 true (fun K => B.nilCheck v44 fun v => K v h) fun v45 h =>
  B.gd h v42 true (fun K => B.pv (V.fieldAddr 6 v45) fun v => K v h) fun v46 h =>
  B.gd h v42 true (fun K => B.ld h v46 fun v => K v h) fun v47 h =>
  B.gd h v42 true (fun K => B.call C (N 86) [v47] h K) fun v48 h =>
  B.pick v42 v48 (.bool false) fun v49 =>
  B.gd h v49 true (fun K => K v0 h) fun v51 h =>
  B.gd h v49 true (fun K => B.nilCheck v51 fun v => K v h) fun v52 h =>
  B.gd h v49 true (fun K => B.pv (V.fieldAddr 7 v52) fun v => K v h) fun v53 h =>
  B.gd h v49 true (fun K => B.ld h v53 fun v => K v h) fun v54 h =>
  B.gd h v49 true (fun K => B.call C (N 87) [v54] h K) fun v55 h =>
  B.pick v49 v55 (.bool false) fun v56 =>
  B.gd h v56 true (fun K => K v0 h) fun v58 h =>
  B.gd h v56 true (fun K => B.nilCheck v58 fun v => K v h) fun v59 h =>
  B.gd h v56 true (fun K => B.pv (V.fieldAddr 8 v59) fun v => K v h) fun v60 h =>
  B.gd h v56 true (fun K => B.ld h v60 fun v => K v h) fun v61 h =>
  B.gd h v56 true (fun K => B.call C (N 88) [v61] h K) fun v62 h =>
  B.pick v56 v62 (.bool false) fun v63 =>
  B.gd h v63 true (fun K => K v0 h) fun v65 h =>
  B.gd h v63 true (fun K => B.nilCheck v65 fun v => K v h) fun v66 h =>
  B.gd h v63 true (fun K => B.pv (V.fieldAddr 9 v66) fun v => K v h) fun v67 h =>
  B.gd h v63 true (fun K => B.ld h v67 fun v => K v h) fun v68 h =>
  B.gd h v63 true (fun K => B.call C (N 89) [v68] h K) fun v69 h =>
  B.pick v63 v69 (.bool false) fun v70 =>
  B.gd h v70 true (fun K => K v0 h) fun v72 h =>
  B.gd h v70 true (fun K => B.nilCheck v72 fun v => K v h) fun v73 h =>
  B.gd h v70 true (fun K => B.pv (V.fieldAddr 10 v73) fun v => K v h) fun v74 h =>
  B.gd h v70 true (fun K => B.ld h v74 fun v => K v h) fun v75 h =>
  B.gd h v70 true (fun K => B.call C (N 90) [v75] h K) fun v76 h =>
  B.pick v70 v76 (.bool false) fun v77 =>
  B.gd h v77 true (fun K => K v0 h) fun v79 h =>
  B.gd h v77 true (fun K => B.nilCheck v79 fun v => K v h) fun v80 h =>
  B.gd h v77 true (fun K => B.pv (V.fieldAddr 11 v80) fun v => K v h) fun v81 h =>
  B.gd h v77 true (fun K => B.ld h v81 fun v => K v h) fun v82 h =>
  B.gd h v77 true (fun K => B.call C (N 91) [v82] h K) fun v83 h =>
  B.pick v77 v83 (.bool false) fun v84 =>
  B.gd h v84 true (fun K => K v0 h) fun v86 h =>
  B.gd h v84 true (fun K => B.nilCheck v86 fun v => K v h) fun v87 h =>
  B.gd h v84 true (fun K => B.pv (V.fieldAddr 12 v87) fun v => K v h) fun v88 h =>
  B.gd h v84 true (fun K => B.ld h v88 fun v => K v h) fun v89 h =>
  B.gd h v84 true (fun K => B.call C (N 92) [v89] h K) fun v90 h =>
  B.pick v84 v90 (.bool false) fun v91 =>
  B.gd h v91 true (fun K => K v0 h) fun v93 h =>
  B.gd h v91 true (fun K => B.nilCheck v93 fun v => K v h) fun v94 h =>
  B.gd h v91 true (fun K => B.pv (V.fieldAddr 13 v94) fun v => K v h) fun v95 h =>
  B.gd h v91 true (fun K => B.ld h v95 fun v => K v h) fun v96 h =>
  B.gd h v91 true (fun K => B.call C (N 93) [v96] h K) fun v97 h =>
  B.pick v91 v97 (.bool false) fun v98 =>
  B.gd h v98 true (fun K => K v0 h) fun v100 h =>
  B.gd h v98 true (fun K => B.nilCheck v100 fun v => K v h) fun v101 h =>
  B.gd h v98 true (fun K => B.pv (V.fieldAddr 14 v101) fun v => K v h) fun v102 h =>
  B.gd h v98 true (fun K => B.ld h v102 fun v => K v h) fun v103 h =>
  B.gd h v98 true (fun K => B.call C (N 94) [v103] h K) fun v104 h =>
  B.pick v98 v104 (.bool false) fun v105 =>
  B.gd h v105 true (fun K => K v0 h) fun v107 h =>
  B.gd h v105 true (fun K => B.nilCheck v107 fun v => K v h) fun v108 h =>
  B.gd h v105 true (fun K => B.pv (V.fieldAddr 15 v108) fun v => K v h) fun v109 h =>
  B.gd h v105 true (fun K => B.ld h v109 fun v => K v h) fun v110 h =>
  B.gd h v105 true (fun K => B.call C (N 95) [v110] h K) fun v111 h =>
  B.pick v105 v111 (.bool false) fun v112 =>
  B.gd h v112 true (fun K => K v0 h) fun v114 h =>
  B.gd h v112 true (fun K => B.nilCheck v114 fun v => K v h) fun v115 h =>
  B.gd h v112 true (fun K => B.pv (V.fieldAddr 16 v115) fun v => K v h) fun v116 h =>
  B.gd h v112 true (fun K => B.ld h v116 fun v => K v h) fun v117 h =>
  B.gd h v112 true (fun K => B.call C (N 96) [v117] h K) fun v118 h =>
  B.pick v112 v118 (.bool false) fun v119 =>
  B.gd h v119 true (fun K => K v0 h) fun v121 h =>
  B.gd h v119 true (fun K => B.nilCheck v121 fun v => K v h) fun v122 h =>
  B.gd h v119 true (fun K => B.pv (V.fieldAddr 17 v122) fun v => K v h) fun v123 h =>
  B.gd h v119 true (fun K => B.ld h v123 fun v => K v h) fun v124 h =>
  B.gd h v119 true (fun K => B.call C (N 97) [v124] h K) fun v125 h =>
  B.pick v119 v125 (.bool false) fun v126 =>
  B.gd h v126 true (fun K => K v0 h) fun v128 h =>
  B.gd h v126 true (fun K => B.nilCheck v128 fun v => K v h) fun v129 h =>
  B.gd h v126 true (fun K => B.pv (V.fieldAddr 18 v129) fun v => K v h) fun v130 h =>
  B.gd h v126 true (fun K => B.ld h v130 fun v => K v h) fun v131 h =>
  B.gd h v126 true (fun K => B.call C (N 98) [v131] h K) fun v132 h =>
  B.pick v126 v132 (.bool false) fun v133 =>
  B.gd h v133 true (fun K => K v0 h) fun v135 h =>
  B.gd h v133 true (fun K => B.nilCheck v135 fun v => K v h) fun v136 h =>
  B.gd h v133 true (fun K => B.pv (V.fieldAddr 19 v136) fun v => K v h) fun v137 h =>
  B.gd h v133 true (fun K => B.ld h v137 fun v => K v h) fun v138 h =>
  B.gd h v133 true (fun K => B.call C (N 99) [v138] h K) fun v139 h =>
  B.pick v133 v139 (.bool false) fun v140 =>
  B.gd h v140 true (fun K => K v0 h) fun v142 h =>
  B.gd h v140 true (fun K => B.nilCheck v142 fun v => K v h) fun v143 h =>
  B.gd h v140 true (fun K => B.pv (V.fieldAddr 20 v143) fun v => K v h) fun v144 h =>
  B.gd h v140 true (fun K => B.ld h v144 fun v => K v h) fun v145 h =>
  B.gd h v140 true (fun K => B.call C (N 100) [v145] h K) fun v146 h =>
  B.pick v140 v146 (.bool false) fun v147 =>
  B.gd h v147 true (fun K => K v0 h) fun v149 h =>
  B.gd h v147 true (fun K => B.nilCheck v149 fun v => K v h) fun v150 h =>
  B.gd h v147 true (fun K => B.pv (V.fieldAddr 21 v150) fun v => K v h) fun v151 h =>
  B.gd h v147 true (fun K => B.ld h v151 fun v => K v h) fun v152 h =>
  B.gd h v147 true (fun K => B.call C (N 101) [v152] h K) fun v153 h =>
  B.pick v147 v153 (.bool false) fun v154 =>
  B.gd h v154 true (fun K => K v0 h) fun v156 h =>
  B.gd h v154 true (fun K => B.nilCheck v156 fun v => K v h) fun v157 h =>
  B.gd h v154 true (fun K => B.pv (V.fieldAddr 22 v157) fun v => K v h) fun v158 h =>
  B.gd h v154 true (fun K => B.ld h v158 fun v => K v h) fun v159 h =>
  B.gd h v154 true (fun K => B.call C (N 102) [v159] h K) fun v160 h =>
  B.pick v154 v160 (.bool false) fun v161 =>
  Q v161 h
@[simp] def zd2.cps (C : CSem) (N : Nat → Nat) (v0 : AVal) (h : zb) (Q : AVal → zb → Prop) : Prop :=
 zd2.k1 C N Q v0 h
def zd2.Imp (C : CSem) (N : Nat → Nat) : Prop := ∀ (v0 : AVal) (h : zb) (Q : AVal → zb → Prop), zd2.cps C N v0 h (dn Q) → C (N 62) [v0] h Q
@[simp] def zk.k1 (C : CSem) (N : Nat → Nat) (Q : AVal → zb → Prop) (Y1 : List AVal → zb → Prop) (Y2 : List AVal → zb → Prop) (v0 v5 v14 v15 : AVal) (h : zb) : Prop :=
 B.pv (V.idxS 1 v0 v14) fun v166 =>
  B.ld h v166 fun v167 =>
  B.pv (V.zw v167) fun v168 =>
  B.pv (V.bin .lss v15 v168) fun v169 =>
  B.cond v169
  (B.pv (V.idxS 1 v0 v14) fun v174 =>
  B.ld h v174 fun v175 =>
  B.pv (V.idxS 1 v175 v15) fun v177 =>
  B.ld h v177 fun v178 =>
  B.call C (N 20) [v14, v15] h (B.zhv h [(v174, none), (v177, none)] (fun v181 h => B.pv (V.toInt .u64 v181) fun v182 =>
  B.pv (V.bin .eql v178 v182) fun v183 =>
  B.pv (V.un .not v183) fun v184 =>
  B.gd h v184 false (fun K => K v5 h) fun v186 h =>
  B.gd h v184 false (fun K => K v14 h) fun v187 h =>
  B.gd h v184 false (fun K => B.pv (V.idxS 1 v186 v187) fun v => K v h) fun v188 h =>
  B.gd h v184 false (fun K => B.ld h v188 fun v => K v h) fun v189 h =>
  B.gd h v184 false (fun K => K v15 h) fun v190 h =>
  B.gd h v184 false (fun K => B.pv (V.idxS 1 v189 v190) fun v => K v h) fun v191 h =>
  B.gd h v184 false (fun K => B.ld h v191 fun v => K v h) fun v192 h =>
  B.gd h v184 false (fun K => K v14 h) fun v193 h =>
  B.gd h v184 false (fun K => K v15 h) fun v194 h =>
  B.gd h v184 false (fun K => B.call C (N 20) [v193, v194] h (B.zhv h [(v188, none), (v191, none)] K)) fun v195 h =>
  B.gd h v184 false (fun K => B.pv (V.toInt .u64 v195) fun v => K v h) fun v196 h =>
  B.gd h v184 false (fun K => B.pv (V.bin .eql v192 v196) fun v => K v h) fun v197 h =>
  B.gd h v184 false (fun K => B.pv (V.un .not v197) fun v => K v h) fun v198 h =>
  B.pick v184 (.bool true) v198 fun v199 =>
  B.cond v199
  (Q (.bool false) h)
  (B.pv (V.bin .add v15 (.int .i64 1)) fun v171 =>
  Y2 [v171] h))))
  (B.pv (V.bin .add v14 (.int .i64 1)) fun v162 =>
  Y1 [v162] h)
@[simp] def zk.l2 (C : CSem) (N : Nat → Nat) (Q : AVal → zb → Prop) (Y1 : List AVal → zb → Prop) (v0 v5 v14 : AVal) : List AVal → zb → (List AVal → zb → Prop) → Prop
 | [v15], h, Y2 => zk.k1 C N Q Y1 Y2 v0 v5 v14 v15 h
 | _, _, _ => False
@[simp] def zk.k3 (C : CSem) (N : Nat → Nat) (Q : AVal → zb → Prop) (Y1 : List AVal → zb → Prop) (v0 v5 v14 : AVal) (h : zb) : Prop :=
 B.pv (V.zw v0) fun v159 =>
  B.pv (V.bin .lss v14 v159) fun v160 =>
  B.cond v160
  (zd (zk.l2 C N Q Y1 v0 v5 v14) [(.int .i64 0)] h)
  (Q (.bool true) h)
@[simp] def zk.l4 (C : CSem) (N : Nat → Nat) (Q : AVal → zb → Prop) (v0 v5 : AVal) : List AVal → zb → (List AVal → zb → Prop) → Prop
 | [v14], h, Y1 => zk.k3 C N Q Y1 v0 v5 v14 h
 | _, _, _ => False
@[simp] def zk.k5 (C : CSem) (N : Nat → Nat) (Q : AVal → zb → Prop) (Y3 : List AVal → zb → Prop) (v0 v5 v11 v12 : AVal) (h : zb) : Prop :=
 B.pv (V.idxS 1 v0 v11) fun v152 =>
  B.ld h v152 fun v153 =>
  B.appW h 1 8 v153 v12 fun v155 h =>
  B.pv (V.idxS 1 v5 v11) fun v156 =>
  B.st h v156 v155 fun h =>
  B.pv (V.bin .add v11 (.int .i64 1)) fun v132 =>
  Y3 [v132] h
@[simp] def zk.k6 (C : CSem) (N : Nat → Nat) (Q : AVal → zb → Prop) (Y3 : List AVal → zb → Prop) (Y4 : List AVal → zb → Prop) (v0 v5 v11 v12 v13 : AVal) (h : zb) : Prop :=
 B.pv (V.bin .lss v13 (.int .i64 64)) fun v135 =>
  B.cond v135
  (B.pv (V.zw v0) fun v142 =>
  B.pv (V.bin .add v11 v142) fun v143 =>
  B.call C (N 20) [v143, v13] h fun v145 h =>
  B.pv (V.toInt .u64 v145) fun v146 =>
  B.pv (V.idxS 1 v12 v13) fun v147 =>
  B.st h v147 v146 fun h =>
  B.pv (V.bin .add v13 (.int .i64 1)) fun v137 =>
  Y4 [v137] h)
  (zk.k5 C N Q Y3 v0 v5 v11 v12 h)
@[simp] def zk.l7 (C : CSem) (N : Nat → Nat) (Q : AVal → zb → Prop) (Y3 : List AVal → zb → Prop) (v0 v5 v11 v12 : AVal) : List AVal → zb → (List AVal → zb → Prop) → Prop
 | [v13], h, Y4 => zk.k6 C N Q Y3 Y4 v0 v5 v11 v12 v13 h
 | _, _, _ => False
@[simp] def zk.k8 (C : CSem) (N : Nat → Nat) (Q : AVal → zb → Prop) (Y3 : List AVal → zb → Prop) (v0 v5 v11 : AVal) (h : zb) : Prop :=
 B.pv (V.zw v0) fun v129 =>
  B.pv (V.bin .lss v11 v129) fun v130 =>
  B.cond v130
  (0 < 1 ∧ B.mks h 8 (some [.int .u64 0]) (.int .i64 64) (.int .i64 64) fun v133 h =>
  zd (zk.l7 C N Q Y3 v0 v5 v11 v133) [(.int .i64 0)] h)
  (zd (zk.l4 C N Q v0 v5) [(.int .i64 0)] h)
@[simp] def zk.l9 (C : CSem) (N : Nat → Nat) (Q : AVal → zb → Prop) (v0 v5 : AVal) : List AVal → zb → (List AVal → zb → Prop) → Prop
 | [v11], h, Y3 => zk.k8 C N Q Y3 v0 v5 v11 h
 | _, _, _ => False
@[simp] def zk.k10 (C : CSem) (N : Nat → Nat) (Q : AVal → zb → Prop) (Y5 : List AVal → zb → Prop) (Y6 : List AVal → zb → Prop) (v0 v5 v9 v10 : AVal) (h : zb) : Prop :=
 B.pv (V.idxS 1 v5 v9) fun v84 =>
  B.ld h v84 fun v85 =>
  B.pv (V.zw v85) fun v86 =>
  B.pv (V.bin .lss v10 v86) fun v87 =>
  B.cond v87
  (B.pv (V.idxS 1 v5 v9) fun v92 =>
  B.ld h v92 fun v93 =>
  B.pv (V.idxS 1 v93 v10) fun v95 =>
  B.ld h v95 fun v96 =>
  B.call C (N 20) [v9, v10] h (B.zhv h [(v92, none), (v95, none)] (fun v99 h => B.pv (V.toInt .u64 v99) fun v100 =>
  B.pv (V.bin .eql v96 v100) fun v101 =>
  B.pv (V.un .not v101) fun v102 =>
  B.gd h v102 false (fun K => K v10 h) fun v104 h =>
  B.gd h v102 false (fun K => K v0 h) fun v105 h =>
  B.gd h v102 false (fun K => K v9 h) fun v106 h =>
  B.gd h v102 false (fun K => B.pv (V.idxS 1 v105 v106) fun v => K v h) fun v107 h =>
  B.gd h v102 false (fun K => B.ld h v107 fun v => K v h) fun v108 h =>
  B.gd h v102 false (fun K => B.pv (V.zw v108) fun v => K v h) fun v109 h =>
  B.gd h v102 false (fun K => B.pv (V.bin .lss v104 v109) fun v => K v h) fun v110 h =>
  B.gd h v102 false (fun K => K v110 h) fun v111 h =>
  B.gd h v111 true (fun K => K v0 h) fun v112 h =>
  B.gd h v111 true (fun K => K v9 h) fun v113 h =>
  B.gd h v111 true (fun K => B.pv (V.idxS 1 v112 v113) fun v => K v h) fun v114 h =>
  B.gd h v111 true (fun K => B.ld h v114 fun v => K v h) fun v115 h =>
  B.gd h v111 true (fun K => K v10 h) fun v116 h =>
  B.gd h v111 true (fun K => B.pv (V.idxS 1 v115 v116) fun v => K v h) fun v117 h =>
  B.gd h v111 true (fun K => B.ld h v117 fun v => K v h) fun v118 h =>
  B.gd h v111 true (fun K => K v9 h) fun v119 h =>
  B.gd h v111 true (fun K => K v10 h) fun v120 h =>
  B.gd h v111 true (fun K => B.call C (N 20) [v119, v120] h (B.zhv h [(v114, none), (v117, none)] K)) fun v121 h =>
  B.gd h v111 true (fun K => B.pv (V.toInt .u64 v121) fun v => K v h) fun v122 h =>
  B.gd h v111 true (fun K => B.pv (V.bin .eql v118 v122) fun v => K v h) fun v123 h =>
  B.gd h v111 true (fun K => B.pv (V.un .not v123) fun v => K v h) fun v124 h =>
  B.gd h v102 false (fun K => B.pick v111 v124 (.bool false) fun v => K v h) fun v125 h =>
  B.pick v102 (.bool true) v125 fun v126 =>
  B.cond v126
  (Q (.bool false) h)
  (B.pv (V.bin .add v10 (.int .i64 1)) fun v89 =>
  Y6 [v89] h))))
  (B.pv (V.bin .add v9 (.int .i64 1)) fun v80 =>
  Y5 [v80] h)
@[simp] def zk.l11 (C : CSem) (N : Nat → Nat) (Q : AVal → zb → Prop) (Y5 : List AVal → zb → Prop) (v0 v5 v9 : AVal) : List AVal → zb → (List AVal → zb → Prop) → Prop
 | [v10], h, Y6 => zk.k10 C N Q Y5 Y6 v0 v5 v9 v10 h
 | _, _, _ => False
@[simp] def zk.k12 (C : CSem) (N : Nat → Nat) (Q : AVal → zb → Prop) (Y5 : List AVal → zb → Prop) (v0 v5 v9 : AVal) (h : zb) : Prop :=
 B.pv (V.zw v0) fun v77 =>
  B.pv (V.bin .lss v9 v77) fun v78 =>
  B.cond v78
  (zd (zk.l11 C N Q Y5 v0 v5 v9) [(.int .i64 0)] h)
  (zd (zk.l9 C N Q v0 v5) [(.int .i64 0)] h)
@[simp] def zk.l13 (C : CSem) (N : Nat → Nat) (Q : AVal → zb → Prop) (v0 v5 : AVal) : List AVal → zb → (List AVal → zb → Prop) → Prop
 | [v9], h, Y5 => zk.k12 C N Q Y5 v0 v5 v9 h
 | _, _, _ => False
@[simp] def zk.k14 (C : CSem) (N : Nat → Nat) (Q : AVal → zb → Prop) (Y7 : List AVal → zb → Prop) (Y8 : List AVal → zb → Prop) (v0 v5 v6 v7 v8 : AVal) (h : zb) : Prop :=
 B.pv (V.bin .lss v8 (.int .i64 64)) fun v55 =>
  B.cond v55
  (B.pv (V.idxS 1 v0 v6) fun v62 =>
  B.ld h v62 fun v63 =>
  B.pv (V.zw v63) fun v64 =>
  B.pv (V.bin .add v64 v8) fun v66 =>
  B.call C (N 20) [v6, v66] h fun v67 h =>
  B.pv (V.toInt .u64 v67) fun v68 =>
  B.newO h (zep [(0, none, v68)] (repL 1 [.int .u64 0])) fun i69 h =>
  B.appW h 1 8 v7 (.sl i69 0 0 1 1 1) fun v70 h =>
  B.pv (V.bin .add v8 (.int .i64 1)) fun v57 =>
  Y8 [v70, v57] h)
  (B.pv (V.idxS 1 v5 v6) fun v74 =>
  B.st h v74 v7 fun h =>
  B.pv (V.bin .add v6 (.int .i64 1)) fun v49 =>
  Y7 [v49] h)
@[simp] def zk.l15 (C : CSem) (N : Nat → Nat) (Q : AVal → zb → Prop) (Y7 : List AVal → zb → Prop) (v0 v5 v6 : AVal) : List AVal → zb → (List AVal → zb → Prop) → Prop
 | [v7, v8], h, Y8 => zk.k14 C N Q Y7 Y8 v0 v5 v6 v7 v8 h
 | _, _, _ => False
@[simp] def zk.k16 (C : CSem) (N : Nat → Nat) (Q : AVal → zb → Prop) (Y7 : List AVal → zb → Prop) (v0 v5 v6 : AVal) (h : zb) : Prop :=
 B.pv (V.zw v0) fun v46 =>
  B.pv (V.bin .lss v6 v46) fun v47 =>
  B.cond v47
  (B.pv (V.idxS 1 v0 v6) fun v52 =>
  B.ld h v52 fun v53 =>
  zd (zk.l15 C N Q Y7 v0 v5 v6) [v53, (.int .i64 0)] h)
  (zd (zk.l13 C N Q v0 v5) [(.int .i64 0)] h)
@[simp] def zk.l17 (C : CSem) (N : Nat → Nat) (Q : AVal → zb → Prop) (v0 v5 : AVal) : List AVal → zb → (List AVal → zb → Prop) → Prop
 | [v6], h, Y7 => zk.k16 C N Q Y7 v0 v5 v6 h
 | _, _, _ => False
@[simp] def zk.k18 (C : CSem) (N : Nat → Nat) (Q : AVal → zb → Prop) (Y9 : List AVal → zb → Prop) (Y10 : List AVal → zb → Prop) (v0 v3 v4 : AVal) (h : zb) : Prop :=
 B.pv (V.idxS 1 v0 v3) fun v25 =>
  B.ld h v25 fun v26 =>
  B.pv (V.zw v26) fun v27 =>
  B.pv (V.bin .lss v4 v27) fun v28 =>
  B.cond v28
  (B.pv (V.idxS 1 v0 v3) fun v33 =>
  B.ld h v33 fun v34 =>
  B.call C (N 20) [v3, v4] h (B.zhv h [(v33, none)] (fun v38 h => B.pv (V.toInt .u64 v38) fun v39 =>
  B.pv (V.idxS 1 v34 v4) fun v40 =>
  B.st h v40 v39 fun h =>
  B.pv (V.bin .add v4 (.int .i64 1)) fun v30 =>
  Y10 [v30] h)))
  (B.pv (V.bin .add v3 (.int .i64 1)) fun v21 =>
  Y9 [v21] h)
@[simp] def zk.l19 (C : CSem) (N : Nat → Nat) (Q : AVal → zb → Prop) (Y9 : List AVal → zb → Prop) (v0 v3 : AVal) : List AVal → zb → (List AVal → zb → Prop) → Prop
 | [v4], h, Y10 => zk.k18 C N Q Y9 Y10 v0 v3 v4 h
 | _, _, _ => False
@[simp] def zk.k20 (C : CSem) (N : Nat → Nat) (Q : AVal → zb → Prop) (Y9 : List AVal → zb → Prop) (v0 v3 : AVal) (h : zb) : Prop :=
 B.pv (V.zw v0) fun v18 =>
  B.pv (V.bin .lss v3 v18) fun v19 =>
  B.cond v19
  (zd (zk.l19 C N Q Y9 v0 v3) [(.int .i64 0)] h)
  (B.pv (V.zw v0) fun v42 =>
  0 < 1 ∧ B.mks h 24 (some [.nils]) v42 v42 fun v43 h =>
  zd (zk.l17 C N Q v0 v43) [(.int .i64 0)] h)
@[simp] def zk.l21 (C : CSem) (N : Nat → Nat) (Q : AVal → zb → Prop) (v0 : AVal) : List AVal → zb → (List AVal → zb → Prop) → Prop
 | [v3], h, Y9 => zk.k20 C N Q Y9 v0 v3 h
 | _, _, _ => False
@[simp] def zk.cps (C : CSem) (N : Nat → Nat) (v0 : AVal) (h : zb) (Q : AVal → zb → Prop) : Prop :=
 zd (zk.l21 C N Q v0) [(.int .i64 0)] h
def zk.Imp (C : CSem) (N : Nat → Nat) : Prop := ∀ (v0 : AVal) (h : zb) (Q : AVal → zb → Prop), zk.cps C N v0 h (dn Q) → C (N 80) [v0] h Q
def zen.cps (C : CSem) (N : Nat → Nat) (v0 : AVal) (h : zb) (Q : AVal → zb → Prop) : Prop :=
 zd (ze.l103 (opsS 8 (.int .i64 0) (N 20)) C Q v0) [(.int .i64 0)] h
def zen.Imp (C : CSem) (N : Nat → Nat) : Prop := ∀ (v0 : AVal) (h : zb) (Q : AVal → zb → Prop), zen.cps C N v0 h (dn Q) → C (N 81) [v0] h Q
@[simp] def zl.k1 (C : CSem) (N : Nat → Nat) (Q : AVal → zb → Prop) (Y1 : List AVal → zb → Prop) (Y2 : List AVal → zb → Prop) (v0 v5 v14 v15 : AVal) (h : zb) : Prop :=
 B.pv (V.idxS 1 v0 v14) fun v161 =>
  B.ld h v161 fun v162 =>
  B.pv (V.zw v162) fun v163 =>
  B.pv (V.bin .lss v15 v163) fun v164 =>
  B.cond v164
  (B.pv (V.idxS 1 v0 v14) fun v169 =>
  B.ld h v169 fun v170 =>
  B.pv (V.idxS 1 v170 v15) fun v172 =>
  B.ld h v172 fun v173 =>
  B.call C (N 20) [v14, v15] h (B.zhv h [(v169, none), (v172, none)] (fun v176 h => B.pv (V.bin .eql v173 v176) fun v177 =>
  B.pv (V.un .not v177) fun v178 =>
  B.gd h v178 false (fun K => K v5 h) fun v180 h =>
  B.gd h v178 false (fun K => K v14 h) fun v181 h =>
  B.gd h v178 false (fun K => B.pv (V.idxS 1 v180 v181) fun v => K v h) fun v182 h =>
  B.gd h v178 false (fun K => B.ld h v182 fun v => K v h) fun v183 h =>
  B.gd h v178 false (fun K => K v15 h) fun v184 h =>
  B.gd h v178 false (fun K => B.pv (V.idxS 1 v183 v184) fun v => K v h) fun v185 h =>
  B.gd h v178 false (fun K => B.ld h v185 fun v => K v h) fun v186 h =>
  B.gd h v178 false (fun K => K v14 h) fun v187 h =>
  B.gd h v178 false (fun K => K v15 h) fun v188 h =>
  B.gd h v178 false (fun K => B.call C (N 20) [v187, v188] h (B.zhv h [(v182, none), (v185, none)] K)) fun v189 h =>
  B.gd h v178 false (fun K => B.pv (V.bin .eql v186 v189) fun v => K v h) fun v190 h =>
  B.gd h v178 false (fun K => B.pv (V.un .not v190) fun v => K v h) fun v191 h =>
  B.pick v178 (.bool true) v191 fun v192 =>
  B.cond v192
  (Q (.bool false) h)
  (B.pv (V.bin .add v15 (.int .i64 1)) fun v166 =>
  Y2 [v166] h))))
  (B.pv (V.bin .add v14 (.int .i64 1)) fun v157 =>
  Y1 [v157] h)
@[simp] def zl.l2 (C : CSem) (N : Nat → Nat) (Q : AVal → zb → Prop) (Y1 : List AVal → zb → Prop) (v0 v5 v14 : AVal) : List AVal → zb → (List AVal → zb → Prop) → Prop
 | [v15], h, Y2 => zl.k1 C N Q Y1 Y2 v0 v5 v14 v15 h
 | _, _, _ => False
@[simp] def zl.k3 (C : CSem) (N : Nat → Nat) (Q : AVal → zb → Prop) (Y1 : List AVal → zb → Prop) (v0 v5 v14 : AVal) (h : zb) : Prop :=
 B.pv (V.zw v0) fun v154 =>
  B.pv (V.bin .lss v14 v154) fun v155 =>
  B.cond v155
  (zd (zl.l2 C N Q Y1 v0 v5 v14) [(.int .i64 0)] h)
  (Q (.bool true) h)
@[simp] def zl.l4 (C : CSem) (N : Nat → Nat) (Q : AVal → zb → Prop) (v0 v5 : AVal) : List AVal → zb → (List AVal → zb → Prop) → Prop
 | [v14], h, Y1 => zl.k3 C N Q Y1 v0 v5 v14 h
 | _, _, _ => False
@[simp] def zl.k5 (C : CSem) (N : Nat → Nat) (Q : AVal → zb → Prop) (Y3 : List AVal → zb → Prop) (v0 v5 v11 v12 : AVal) (h : zb) : Prop :=
 B.pv (V.idxS 1 v0 v11) fun v147 =>
  B.ld h v147 fun v148 =>
  B.appW h 1 8 v148 v12 fun v150 h =>
  B.pv (V.idxS 1 v5 v11) fun v151 =>
  B.st h v151 v150 fun h =>
  B.pv (V.bin .add v11 (.int .i64 1)) fun v128 =>
  Y3 [v128] h
@[simp] def zl.k6 (C : CSem) (N : Nat → Nat) (Q : AVal → zb → Prop) (Y3 : List AVal → zb → Prop) (Y4 : List AVal → zb → Prop) (v0 v5 v11 v12 v13 : AVal) (h : zb) : Prop :=
 B.pv (V.bin .lss v13 (.int .i64 64)) fun v131 =>
  B.cond v131
  (B.pv (V.zw v0) fun v138 =>
  B.pv (V.bin .add v11 v138) fun v139 =>
  B.call C (N 20) [v139, v13] h fun v141 h =>
  B.pv (V.idxS 1 v12 v13) fun v142 =>
  B.st h v142 v141 fun h =>
  B.pv (V.bin .add v13 (.int .i64 1)) fun v133 =>
  Y4 [v133] h)
  (zl.k5 C N Q Y3 v0 v5 v11 v12 h)
@[simp] def zl.l7 (C : CSem) (N : Nat → Nat) (Q : AVal → zb → Prop) (Y3 : List AVal → zb → Prop) (v0 v5 v11 v12 : AVal) : List AVal → zb → (List AVal → zb → Prop) → Prop
 | [v13], h, Y4 => zl.k6 C N Q Y3 Y4 v0 v5 v11 v12 v13 h
 | _, _, _ => False
@[simp] def zl.k8 (C : CSem) (N : Nat → Nat) (Q : AVal → zb → Prop) (Y3 : List AVal → zb → Prop) (v0 v5 v11 : AVal) (h : zb) : Prop :=
 B.pv (V.zw v0) fun v125 =>
  B.pv (V.bin .lss v11 v125) fun v126 =>
  B.cond v126
  (0 < 1 ∧ B.mks h 8 (some [.int .i64 0]) (.int .i64 64) (.int .i64 64) fun v129 h =>
  zd (zl.l7 C N Q Y3 v0 v5 v11 v129) [(.int .i64 0)] h)
  (zd (zl.l4 C N Q v0 v5) [(.int .i64 0)] h)
@[simp] def zl.l9 (C : CSem) (N : Nat → Nat) (Q : AVal → zb → Prop) (v0 v5 : AVal) : List AVal → zb → (List AVal → zb → Prop) → Prop
 | [v11], h, Y3 => zl.k8 C N Q Y3 v0 v5 v11 h
 | _, _, _ => False
@[simp] def zl.k10 (C : CSem) (N : Nat → Nat) (Q : AVal → zb → Prop) (Y5 : List AVal → zb → Prop) (Y6 : List AVal → zb → Prop) (v0 v5 v9 v10 : AVal) (h : zb) : Prop :=
 B.pv (V.idxS 1 v5 v9) fun v82 =>
  B.ld h v82 fun v83 =>
  B.pv (V.zw v83) fun v84 =>
  B.pv (V.bin .lss v10 v84) fun v85 =>
  B.cond v85
  (B.pv (V.idxS 1 v5 v9) fun v90 =>
  B.ld h v90 fun v91 =>
  B.pv (V.idxS 1 v91 v10) fun v93 =>
  B.ld h v93 fun v94 =>
  B.call C (N 20) [v9, v10] h (B.zhv h [(v90, none), (v93, none)] (fun v97 h => B.pv (V.bin .eql v94 v97) fun v98 =>
  B.pv (V.un .not v98) fun v99 =>
  B.gd h v99 false (fun K => K v10 h) fun v101 h =>
  B.gd h v99 false (fun K => K v0 h) fun v102 h =>
  B.gd h v99 false (fun K => K v9 h) fun v103 h =>
  B.gd h v99 false (fun K => B.pv (V.idxS 1 v102 v103) fun v => K v h) fun v104 h =>
  B.gd h v99 false (fun K => B.ld h v104 fun v => K v h) fun v105 h =>
  B.gd h v99 false (fun K => B.pv (V.zw v105) fun v => K v h) fun v106 h =>
  B.gd h v99 false (fun K => B.pv (V.bin .lss v101 v106) fun v => K v h) fun v107 h =>
  B.gd h v99 false (fun K => K v107 h) fun v108 h =>
  B.gd h v108 true (fun K => K v0 h) fun v109 h =>
  B.gd h v108 true (fun K => K v9 h) fun v110 h =>
  B.gd h v108 true (fun K => B.pv (V.idxS 1 v109 v110) fun v => K v h) fun v111 h =>
  B.gd h v108 true (fun K => B.ld h v111 fun v => K v h) fun v112 h =>
  B.gd h v108 true (fun K => K v10 h) fun v113 h =>
  B.gd h v108 true (fun K => B.pv (V.idxS 1 v112 v113) fun v => K v h) fun v114 h =>
  B.gd h v108 true (fun K => B.ld h v114 fun v => K v h) fun v115 h =>
  B.gd h v108 true (fun K => K v9 h) fun v116 h =>
  B.gd h v108 true (fun K => K v10 h) fun v117 h =>
  B.gd h v108 true (fun K => B.call C (N 20) [v116, v117] h (B.zhv h [(v111, none), (v114, none)] K)) fun v118 h =>
  B.gd h v108 true (fun K => B.pv (V.bin .eql v115 v118) fun v => K v h) fun v119 h =>
  B.gd h v108 true (fun K => B.pv (V.un .not v119) fun v => K v h) fun v120 h =>
  B.gd h v99 false (fun K => B.pick v108 v120 (.bool false) fun v => K v h) fun v121 h =>
  B.pick v99 (.bool true) v121 fun v122 =>
  B.cond v122
  (Q (.bool false) h)
  (B.pv (V.bin .add v10 (.int .i64 1)) fun v87 =>
  Y6 [v87] h))))
  (B.pv (V.bin .add v9 (.int .i64 1)) fun v78 =>
  Y5 [v78] h)
@[simp] def zl.l11 (C : CSem) (N : Nat → Nat) (Q : AVal → zb → Prop) (Y5 : List AVal → zb → Prop) (v0 v5 v9 : AVal) : List AVal → zb → (List AVal → zb → Prop) → Prop
 | [v10], h, Y6 => zl.k10 C N Q Y5 Y6 v0 v5 v9 v10 h
 | _, _, _ => False
@[simp] def zl.k12 (C : CSem) (N : Nat → Nat) (Q : AVal → zb → Prop) (Y5 : List AVal → zb → Prop) (v0 v5 v9 : AVal) (h : zb) : Prop :=
 B.pv (V.zw v0) fun v75 =>
  B.pv (V.bin .lss v9 v75) fun v76 =>
  B.cond v76
  (zd (zl.l11 C N Q Y5 v0 v5 v9) [(.int .i64 0)] h)
  (zd (zl.l9 C N Q v0 v5) [(.int .i64 0)] h)
@[simp] def zl.l13 (C : CSem) (N : Nat → Nat) (Q : AVal → zb → Prop) (v0 v5 : AVal) : List AVal → zb → (List AVal → zb → Prop) → Prop
 | [v9], h, Y5 => zl.k12 C N Q Y5 v0 v5 v9 h
 | _, _, _ => False
@[simp] def zl.k14 (C : CSem) (N : Nat → Nat) (Q : AVal → zb → Prop) (Y7 : List AVal → zb → Prop) (Y8 : List AVal → zb → Prop) (v0 v5 v6 v7 v8 : AVal) (h : zb) : Prop :=
 B.pv (V.bin .lss v8 (.int .i64 64)) fun v54 =>
  B.cond v54
  (B.pv (V.idxS 1 v0 v6) fun v61 =>
  B.ld h v61 fun v62 =>
  B.pv (V.zw v62) fun v63 =>
  B.pv (V.bin .add v63 v8) fun v65 =>
  B.call C (N 20) [v6, v65] h fun v66 h =>
  B.newO h (zep [(0, none, v66)] (repL 1 [.int .i64 0])) fun i67 h =>
  B.appW h 1 8 v7 (.sl i67 0 0 1 1 1) fun v68 h =>
  B.pv (V.bin .add v8 (.int .i64 1)) fun v56 =>
  Y8 [v68, v56] h)
  (B.pv (V.idxS 1 v5 v6) fun v72 =>
  B.st h v72 v7 fun h =>
  B.pv (V.bin .add v6 (.int .i64 1)) fun v48 =>
  Y7 [v48] h)
@[simp] def zl.l15 (C : CSem) (N : Nat → Nat) (Q : AVal → zb → Prop) (Y7 : List AVal → zb → Prop) (v0 v5 v6 : AVal) : List AVal → zb → (List AVal → zb → Prop) → Prop
 | [v7, v8], h, Y8 => zl.k14 C N Q Y7 Y8 v0 v5 v6 v7 v8 h
 | _, _, _ => False
@[simp] def zl.k16 (C : CSem) (N : Nat → Nat) (Q : AVal → zb → Prop) (Y7 : List AVal → zb → Prop) (v0 v5 v6 : AVal) (h : zb) : Prop :=
 B.pv (V.zw v0) fun v45 =>
  B.pv (V.bin .lss v6 v45) fun v46 =>
  B.cond v46
  (B.pv (V.idxS 1 v0 v6) fun v51 =>
  B.ld h v51 fun v52 =>
  zd (zl.l15 C N Q Y7 v0 v5 v6) [v52, (.int .i64 0)] h)
  (zd (zl.l13 C N Q v0 v5) [(.int .i64 0)] h)
@[simp] def zl.l17 (C : CSem) (N : Nat → Nat) (Q : AVal → zb → Prop) (v0 v5 : AVal) : List AVal → zb → (List AVal → zb → Prop) → Prop
 | [v6], h, Y7 => zl.k16 C N Q Y7 v0 v5 v6 h
 | _, _, _ => False
@[simp] def zl.k18 (C : CSem) (N : Nat → Nat) (Q : AVal → zb → Prop) (Y9 : List AVal → zb → Prop) (Y10 : List AVal → zb → Prop) (v0 v3 v4 : AVal) (h : zb) : Prop :=
 B.pv (V.idxS 1 v0 v3) fun v25 =>
  B.ld h v25 fun v26 =>
  B.pv (V.zw v26) fun v27 =>
  B.pv (V.bin .lss v4 v27) fun v28 =>
  B.cond v28
  (B.pv (V.idxS 1 v0 v3) fun v33 =>
  B.ld h v33 fun v34 =>
  B.call C (N 20) [v3, v4] h (B.zhv h [(v33, none)] (fun v38 h => B.pv (V.idxS 1 v34 v4) fun v39 =>
  B.st h v39 v38 fun h =>
  B.pv (V.bin .add v4 (.int .i64 1)) fun v30 =>
  Y10 [v30] h)))
  (B.pv (V.bin .add v3 (.int .i64 1)) fun v21 =>
  Y9 [v21] h)
@[simp] def zl.l19 (C : CSem) (N : Nat → Nat) (Q : AVal → zb → Prop) (Y9 : List AVal → zb → Prop) (v0 v3 : AVal) : List AVal → zb → (List AVal → zb → Prop) → Prop
 | [v4], h, Y10 => zl.k18 C N Q Y9 Y10 v0 v3 v4 h
 | _, _, _ => False
@[simp] def zl.k20 (C : CSem) (N : Nat → Nat) (Q : AVal → zb → Prop) (Y9 : List AVal → zb → Prop) (v0 v3 : AVal) (h : zb) : Prop :=
 B.pv (V.zw v0) fun v18 =>
  B.pv (V.bin .lss v3 v18) fun v19 =>
  B.cond v19
  (zd (zl.l19 C N Q Y9 v0 v3) [(.int .i64 0)] h)
  (B.pv (V.zw v0) fun v41 =>
  0 < 1 ∧ B.mks h 24 (some [.nils]) v41 v41 fun v42 h =>
  zd (zl.l17 C N Q v0 v42) [(.int .i64 0)] h)
@[simp] def zl.l21 (C : CSem) (N : Nat → Nat) (Q : AVal → zb → Prop) (v0 : AVal) : List AVal → zb → (List AVal → zb → Prop) → Prop
 | [v3], h, Y9 => zl.k20 C N Q Y9 v0 v3 h
 | _, _, _ => False
@[simp] def zl.cps (C : CSem) (N : Nat → Nat) (v0 : AVal) (h : zb) (Q : AVal → zb → Prop) : Prop :=
 zd (zl.l21 C N Q v0) [(.int .i64 0)] h
def zl.Imp (C : CSem) (N : Nat → Nat) : Prop := ∀ (v0 : AVal) (h : zb) (Q : AVal → zb → Prop), zl.cps C N v0 h (dn Q) → C (N 82) [v0] h Q
def zeg.cps (C : CSem) (N : Nat → Nat) (v0 : AVal) (h : zb) (Q : AVal → zb → Prop) : Prop :=
 zd (ze.l103 (opsS 16 (.str []) (N 106)) C Q v0) [(.int .i64 0)] h
def zeg.Imp (C : CSem) (N : Nat → Nat) : Prop := ∀ (v0 : AVal) (h : zb) (Q : AVal → zb → Prop), zeg.cps C N v0 h (dn Q) → C (N 83) [v0] h Q
def zet.cps (C : CSem) (N : Nat → Nat) (v0 : AVal) (h : zb) (Q : AVal → zb → Prop) : Prop :=
 zd (ze.l103 (opsS 1 (.int .u8 0) (N 64)) C Q v0) [(.int .i64 0)] h
def zet.Imp (C : CSem) (N : Nat → Nat) : Prop := ∀ (v0 : AVal) (h : zb) (Q : AVal → zb → Prop), zet.cps C N v0 h (dn Q) → C (N 84) [v0] h Q
def zz.cps (C : CSem) (N : Nat → Nat) (v0 : AVal) (h : zb) (Q : AVal → zb → Prop) : Prop :=
 zd (ze.l103 (opsF 2 16 [.int .i64 0, .int .i64 0] (N 18) [.i .i64, .i .i64]) C Q v0) [(.int .i64 0)] h
def zz.Imp (C : CSem) (N : Nat → Nat) : Prop := ∀ (v0 : AVal) (h : zb) (Q : AVal → zb → Prop), zz.cps C N v0 h (dn Q) → C (N 85) [v0] h Q
def zbt.cps (C : CSem) (N : Nat → Nat) (v0 : AVal) (h : zb) (Q : AVal → zb → Prop) : Prop :=
 zd (ze.l103 (opsF 6 56 [.int .i64 0, .str [], .int .i64 0, .int .i64 0, .int .i64 0, .bool false] (N 77) [.i .i64, .s, .i .i64, .i .i64, .i .i64, .b]) C Q v0) [(.int .i64 0)] h
def zbt.Imp (C : CSem) (N : Nat → Nat) : Prop := ∀ (v0 : AVal) (h : zb) (Q : AVal → zb → Prop), zbt.cps C N v0 h (dn Q) → C (N 86) [v0] h Q
def zbf.cps (C : CSem) (N : Nat → Nat) (v0 : AVal) (h : zb) (Q : AVal → zb → Prop) : Prop :=
 zd (ze.l103 (opsF 3 32 [.str [], .int .i64 0, .int .i64 0] (N 107) [.s, .i .i64, .i .i64]) C Q v0) [(.int .i64 0)] h
def zbf.Imp (C : CSem) (N : Nat → Nat) : Prop := ∀ (v0 : AVal) (h : zb) (Q : AVal → zb → Prop), zbf.cps C N v0 h (dn Q) → C (N 87) [v0] h Q
def zbs.cps (C : CSem) (N : Nat → Nat) (v0 : AVal) (h : zb) (Q : AVal → zb → Prop) : Prop :=
 zd (ze.l103 (opsF 3 24 [.int .i64 0, .int .i64 0, .int .i64 0] (N 78) [.i .i64, .i .i64, .i .i64]) C Q v0) [(.int .i64 0)] h
def zbs.Imp (C : CSem) (N : Nat → Nat) : Prop := ∀ (v0 : AVal) (h : zb) (Q : AVal → zb → Prop), zbs.cps C N v0 h (dn Q) → C (N 88) [v0] h Q
def zbg.cps (C : CSem) (N : Nat → Nat) (v0 : AVal) (h : zb) (Q : AVal → zb → Prop) : Prop :=
 zd (ze.l103 (opsF 2 24 [.str [], .int .i64 0] (N 108) [.s, .i .i64]) C Q v0) [(.int .i64 0)] h
def zbg.Imp (C : CSem) (N : Nat → Nat) : Prop := ∀ (v0 : AVal) (h : zb) (Q : AVal → zb → Prop), zbg.cps C N v0 h (dn Q) → C (N 89) [v0] h Q
def zbd.cps (C : CSem) (N : Nat → Nat) (v0 : AVal) (h : zb) (Q : AVal → zb → Prop) : Prop :=
 zd (ze.l103 (opsD C 4 72 [.str [], .int .i64 0, .nils, .nils] (N 109) (N 110)) C Q v0) [(.int .i64 0)] h
def zbd.Imp (C : CSem) (N : Nat → Nat) : Prop := ∀ (v0 : AVal) (h : zb) (Q : AVal → zb → Prop), zbd.cps C N v0 h (dn Q) → C (N 90) [v0] h Q
def zbh.cps (C : CSem) (N : Nat → Nat) (v0 : AVal) (h : zb) (Q : AVal → zb → Prop) : Prop :=
 zd (ze.l103 (opsF 8 80 [.int .i64 0, .str [], .int .i64 0, .int .i64 0, .int .i64 0, .int .u8 0, .int .i64 0, .str []] (N 111) [.i .i64, .s, .i .i64, .i .i64, .i .i64, .i .u8, .i .i64, .s]) C Q v0) [(.int .i64 0)] h
def zbh.Imp (C : CSem) (N : Nat → Nat) : Prop := ∀ (v0 : AVal) (h : zb) (Q : AVal → zb → Prop), zbh.cps C N v0 h (dn Q) → C (N 91) [v0] h Q
def zbp.cps (C : CSem) (N : Nat → Nat) (v0 : AVal) (h : zb) (Q : AVal → zb → Prop) : Prop :=
 zd (ze.l103 (opsD C 11 128 [.int .u8 0, .int .i64 0, .str [], .int .i64 0, .int .i64 0, .int .i64 0, .int .i64 0, .int .i64 0, .int .i64 0, .nils, .nils] (N 112) (N 113)) C Q v0) [(.int .i64 0)] h
def zbp.Imp (C : CSem) (N : Nat → Nat) : Prop := ∀ (v0 : AVal) (h : zb) (Q : AVal → zb → Prop), zbp.cps C N v0 h (dn Q) → C (N 92) [v0] h Q
def z9.cps (C : CSem) (N : Nat → Nat) (v0 : AVal) (h : zb) (Q : AVal → zb → Prop) : Prop :=
 zd (ze.l103 (opsD C 7 96 [.int .i64 0, .int .i64 0, .int .i64 0, .str [], .int .u8 0, .nils, .nils] (N 114) (N 42)) C Q v0) [(.int .i64 0)] h
def z9.Imp (C : CSem) (N : Nat → Nat) : Prop := ∀ (v0 : AVal) (h : zb) (Q : AVal → zb → Prop), z9.cps C N v0 h (dn Q) → C (N 93) [v0] h Q
def z4.cps (C : CSem) (N : Nat → Nat) (v0 : AVal) (h : zb) (Q : AVal → zb → Prop) : Prop :=
 zd (ze.l103 (opsD C 6 96 [.int .i64 0, .int .i64 0, .int .i64 0, .nils, .nils, .nils] (N 115) (N 116)) C Q v0) [(.int .i64 0)] h
def z4.Imp (C : CSem) (N : Nat → Nat) : Prop := ∀ (v0 : AVal) (h : zb) (Q : AVal → zb → Prop), z4.cps C N v0 h (dn Q) → C (N 94) [v0] h Q
def zbo.cps (C : CSem) (N : Nat → Nat) (v0 : AVal) (h : zb) (Q : AVal → zb → Prop) : Prop :=
 zd (ze.l103 (opsD C 2 48 [.nils, .nils] (N 117) (N 118)) C Q v0) [(.int .i64 0)] h
def zbo.Imp (C : CSem) (N : Nat → Nat) : Prop := ∀ (v0 : AVal) (h : zb) (Q : AVal → zb → Prop), zbo.cps C N v0 h (dn Q) → C (N 95) [v0] h Q
def z8.cps (C : CSem) (N : Nat → Nat) (v0 : AVal) (h : zb) (Q : AVal → zb → Prop) : Prop :=
 zd (ze.l103 (opsD C 3 72 [.nils, .nils, .nils] (N 119) (N 120)) C Q v0) [(.int .i64 0)] h
def z8.Imp (C : CSem) (N : Nat → Nat) : Prop := ∀ (v0 : AVal) (h : zb) (Q : AVal → zb → Prop), z8.cps C N v0 h (dn Q) → C (N 96) [v0] h Q
def zbe.cps (C : CSem) (N : Nat → Nat) (v0 : AVal) (h : zb) (Q : AVal → zb → Prop) : Prop :=
 zd (ze.l103 (opsF 1 8 [.int .i64 0] (N 121) [.i .i64]) C Q v0) [(.int .i64 0)] h
def zbe.Imp (C : CSem) (N : Nat → Nat) : Prop := ∀ (v0 : AVal) (h : zb) (Q : AVal → zb → Prop), zbe.cps C N v0 h (dn Q) → C (N 97) [v0] h Q
def zy.cps (C : CSem) (N : Nat → Nat) (v0 : AVal) (h : zb) (Q : AVal → zb → Prop) : Prop :=
 zd (ze.l103 (opsF 2 16 [.int .i64 0, .int .i64 0] (N 122) [.i .i64, .i .i64]) C Q v0) [(.int .i64 0)] h
def zy.Imp (C : CSem) (N : Nat → Nat) : Prop := ∀ (v0 : AVal) (h : zb) (Q : AVal → zb → Prop), zy.cps C N v0 h (dn Q) → C (N 98) [v0] h Q
def zbc.cps (C : CSem) (N : Nat → Nat) (v0 : AVal) (h : zb) (Q : AVal → zb → Prop) : Prop :=
 zd (ze.l103 (opsF 2 16 [.int .i64 0, .int .i64 0] (N 123) [.i .i64, .i .i64]) C Q v0) [(.int .i64 0)] h
def zbc.Imp (C : CSem) (N : Nat → Nat) : Prop := ∀ (v0 : AVal) (h : zb) (Q : AVal → zb → Prop), zbc.cps C N v0 h (dn Q) → C (N 99) [v0] h Q
def zx.cps (C : CSem) (N : Nat → Nat) (v0 : AVal) (h : zb) (Q : AVal → zb → Prop) : Prop :=
 zd (ze.l103 (opsD C 11 168 [.int .i64 0, .int .i64 0, .int .i64 0, .int .i64 0, .int .u8 0, .int .i64 0, .nils, .nils, .nils, .nils, .nils] (N 124) (N 125)) C Q v0) [(.int .i64 0)] h
def zx.Imp (C : CSem) (N : Nat → Nat) : Prop := ∀ (v0 : AVal) (h : zb) (Q : AVal → zb → Prop), zx.cps C N v0 h (dn Q) → C (N 100) [v0] h Q
def zbb.cps (C : CSem) (N : Nat → Nat) (v0 : AVal) (h : zb) (Q : AVal → zb → Prop) : Prop :=
 zd (ze.l103 (opsD C 15 176 [.int .u8 0, .int .i64 0, .int .i64 0, .int .u8 0, .int .i64 0, .str [], .int .i64 0, .int .i64 0, .int .i64 0, .int .i64 0, .int .i64 0, .int .i64 0, .nils, .nils, .nils] (N 126) (N 127)) C Q v0) [(.int .i64 0)] h
def zbb.Imp (C : CSem) (N : Nat → Nat) : Prop := ∀ (v0 : AVal) (h : zb) (Q : AVal → zb → Prop), zbb.cps C N v0 h (dn Q) → C (N 101) [v0] h Q
def zba.cps (C : CSem) (N : Nat → Nat) (v0 : AVal) (h : zb) (Q : AVal → zb → Prop) : Prop :=
 zd (ze.l103 (opsD C 21 248 [.int .u8 0, .int .i64 0, .int .i64 0, .int .u8 0, .int .i64 0, .str [], .int .i64 0, .int .i64 0, .int .i64 0, .int .i64 0, .int .i64 0, .int .i64 0, .nils, .nils, .int .i64 0, .int .i64 0, .int .i64 0, .str [], .int .u8 0, .nils, .nils] (N 128) (N 129)) C Q v0) [(.int .i64 0)] h
def zba.Imp (C : CSem) (N : Nat → Nat) : Prop := ∀ (v0 : AVal) (h : zb) (Q : AVal → zb → Prop), zba.cps C N v0 h (dn Q) → C (N 102) [v0] h Q
@[simp] def zdj.k1 (C : CSem) (N : Nat → Nat) (Q : AVal → zb → Prop) (v0 v1 : AVal) (h : zb) : Prop :=
 B.pv (V.toInt .u8 v0) fun v6 =>
  B.pv (V.bin .shr v0 (.int .u64 8)) fun v8 =>
  B.pv (V.toInt .u8 v8) fun v9 =>
  B.pv (V.bin .shr v0 (.int .u64 16)) fun v11 =>
  B.pv (V.toInt .u8 v11) fun v12 =>
  B.pv (V.toInt .u8 v1) fun v14 =>
  B.pv (V.bin .shr v1 (.int .u64 8)) fun v16 =>
  B.pv (V.toInt .u8 v16) fun v17 =>
  B.pv (V.bin .shr v1 (.int .u64 16)) fun v19 =>
  B.pv (V.toInt .u8 v19) fun v20 =>
  B.newO h (zep [(0, none, (.int .u8 35)), (1, none, v6), (2, none, v9), (3, none, v12), (4, none, (.int .u8 47)), (5, none, v14), (6, none, v17), (7, none, v20)] (repL 8 [.int .u8 0])) fun i21 h =>
  B.zew h (.sl i21 0 0 8 1 8) fun v22 =>
  Q v22 h
@[simp] def zdj.cps (C : CSem) (N : Nat → Nat) (v0 v1 : AVal) (h : zb) (Q : AVal → zb → Prop) : Prop :=
 zdj.k1 C N Q v0 v1 h
def zdj.Imp (C : CSem) (N : Nat → Nat) : Prop := ∀ (v0 v1 : AVal) (h : zb) (Q : AVal → zb → Prop), zdj.cps C N v0 v1 h (dn Q) → C (N 106) [v0, v1] h Q
@[simp] def zdo.k1 (C : CSem) (N : Nat → Nat) (Q : AVal → zb → Prop) (v0 v1 : AVal) (h : zb) : Prop :=
 B.call C (N 20) [v0, v1] h fun v7 h =>
  B.pv (A.bld [(1, none, v7)] [.str [], .int .i64 0]) fun v8 =>
  B.pv (V.setN 0 2 v8 (.agg [.str [], .int .i64 0])) fun c4 =>
  B.pv (oneOf (zlt (V.zfu 0 2 c4) (some []))) fun v => Q v h
@[simp] def zdo.cps (C : CSem) (N : Nat → Nat) (v0 v1 : AVal) (h : zb) (Q : AVal → zb → Prop) : Prop :=
 zdo.k1 C N Q v0 v1 h
def zdo.Imp (C : CSem) (N : Nat → Nat) : Prop := ∀ (v0 v1 : AVal) (h : zb) (Q : AVal → zb → Prop), zdo.cps C N v0 v1 h (dn Q) → C (N 108) [v0, v1] h Q
@[simp] def zdp.k1 (C : CSem) (N : Nat → Nat) (Q : AVal → zb → Prop) (v0 v1 : AVal) (h : zb) : Prop :=
 B.call C (N 20) [v0, v1] h fun v7 h =>
  B.pv (A.bld [(1, none, v7)] [.str [], .int .i64 0, .nils, .nils]) fun v8 =>
  B.pv (V.setN 0 4 v8 (.agg [.str [], .int .i64 0, .nils, .nils])) fun c4 =>
  B.pv (oneOf (zlt (V.zfu 0 4 c4) (some []))) fun v => Q v h
@[simp] def zdp.cps (C : CSem) (N : Nat → Nat) (v0 v1 : AVal) (h : zb) (Q : AVal → zb → Prop) : Prop :=
 zdp.k1 C N Q v0 v1 h
def zdp.Imp (C : CSem) (N : Nat → Nat) : Prop := ∀ (v0 v1 : AVal) (h : zb) (Q : AVal → zb → Prop), zdp.cps C N v0 v1 h (dn Q) → C (N 109) [v0, v1] h Q
@[simp] def zdt.k1 (C : CSem) (N : Nat → Nat) (Q : AVal → zb → Prop) (v0 v1 : AVal) (h : zb) : Prop :=
 B.pv (A.boxN 4 v0) fun c2 =>
  B.pv (A.boxN 4 v1) fun c3 =>
  B.al c2 (B.pv (V.zc7 0 c2) fun v6 =>
  B.al c3 (B.pv (V.zc7 0 c3) fun v8 =>
  B.pv (V.bin .eql v6 v8) fun v9 =>
  B.al c2 (B.gd h v9 true (fun K => K .undef h) fun _ h =>
  B.gd h v9 true (fun K => B.pv (V.zc7 1 c2) fun v => K v h) fun v12 h =>
  B.al c3 (B.gd h v9 true (fun K => K .undef h) fun _ h =>
  B.gd h v9 true (fun K => B.pv (V.zc7 1 c3) fun v => K v h) fun v14 h =>
  B.gd h v9 true (fun K => B.pv (V.bin .eql v12 v14) fun v => K v h) fun v15 h =>
  B.pick v9 v15 (.bool false) fun v16 =>
  B.al c2 (B.gd h v16 true (fun K => K .undef h) fun _ h =>
  B.gd h v16 true (fun K => B.pv (V.zc7 2 c2) fun v => K v h) fun v19 h =>
  B.al c3 (B.gd h v16 true (fun K => K .undef h) fun _ h =>
  B.gd h v16 true (fun K => B.pv (V.zc7 2 c3) fun v => K v h) fun v21 h =>
  B.gd h v16 true (fun K => B.call C (N 132) [v19, v21] h K) fun v22 h =>
  B.pick v16 v22 (.bool false) fun v23 =>
  B.al c2 (B.gd h v23 true (fun K => K .undef h) fun _ h =>
  B.gd h v23 true (fun K => B.pv (V.zc7 3 c2) fun v => K v h) fun v26 h =>
  B.al c3 (B.gd h v23 true (fun K => K .undef h) fun _ h =>
  B.gd h v23 true (fun K => B.pv (V.zc7 3 c3) fun v => K v h) fun v28 h =>
  B.gd h v23 true (fun K => B.call C (N 133) [v26, v28] h K) fun v29 h =>
  B.pick v23 v29 (.bool false) fun v30 =>
  Q v30 h))))))))
@[simp] def zdt.cps (C : CSem) (N : Nat → Nat) (v0 v1 : AVal) (h : zb) (Q : AVal → zb → Prop) : Prop :=
 zdt.k1 C N Q v0 v1 h
def zdt.Imp (C : CSem) (N : Nat → Nat) : Prop := ∀ (v0 v1 : AVal) (h : zb) (Q : AVal → zb → Prop), zdt.cps C N v0 v1 h (dn Q) → C (N 110) [v0, v1] h Q
@[simp] def zde.k3 (C : CSem) (N : Nat → Nat) (Q : AVal → zb → Prop) (v0 v1 : AVal) (h : zb) : Prop :=
 B.pv (V.zw v0) fun v7 =>
  B.pv (V.zw v1) fun v9 =>
  B.pv (V.bin .neq v7 v9) fun v10 =>
  B.cond v10
  (Q (.bool false) h)
  (zd (zrj.l4 2 [.s, .i .i64] Q v0 v1) [(.int .i64 0)] h)
def zde.cps (C : CSem) (N : Nat → Nat) (v0 v1 : AVal) (h : zb) (Q : AVal → zb → Prop) : Prop :=
 zde.k3 C N Q v0 v1 h
def zde.Imp (C : CSem) (N : Nat → Nat) : Prop := ∀ (v0 v1 : AVal) (h : zb) (Q : AVal → zb → Prop), zde.cps C N v0 v1 h (dn Q) → C (N 132) [v0, v1] h Q
@[simp] def zc8.k3 (C : CSem) (N : Nat → Nat) (Q : AVal → zb → Prop) (v0 v1 : AVal) (h : zb) : Prop :=
 B.pv (V.zw v0) fun v7 =>
  B.pv (V.zw v1) fun v9 =>
  B.pv (V.bin .neq v7 v9) fun v10 =>
  B.cond v10
  (Q (.bool false) h)
  (zd (zri.l4  Q v0 v1) [(.int .i64 0)] h)
def zc8.cps (C : CSem) (N : Nat → Nat) (v0 v1 : AVal) (h : zb) (Q : AVal → zb → Prop) : Prop :=
 zc8.k3 C N Q v0 v1 h
def zc8.Imp (C : CSem) (N : Nat → Nat) : Prop := ∀ (v0 v1 : AVal) (h : zb) (Q : AVal → zb → Prop), zc8.cps C N v0 v1 h (dn Q) → C (N 133) [v0, v1] h Q
@[simp] def zdg.k3 (C : CSem) (N : Nat → Nat) (Q : AVal → zb → Prop) (v0 : AVal) (h : zb) : Prop :=
 B.pv (V.zw v0) fun v6 =>
  B.pv (V.bin .add v6 (.int .i64 12)) fun v7 =>
  0 < 2 ∧ B.mks h 24 (some [.str [], .int .i64 0]) (.int .i64 0) v7 fun v8 h =>
  B.appW h 2 24 v8 v0 fun v11 h =>
  zd (zqw.l4 C 2 24 (N 108) [.str [], .int .i64 0] 1 Q v0) [v11, (.int .i64 0)] h
def zdg.cps (C : CSem) (N : Nat → Nat) (v0 : AVal) (h : zb) (Q : AVal → zb → Prop) : Prop :=
 zdg.k3 C N Q v0 h
def zdg.Imp (C : CSem) (N : Nat → Nat) : Prop := ∀ (v0 : AVal) (h : zb) (Q : AVal → zb → Prop), zdg.cps C N v0 h (dn Q) → C (N 319) [v0] h Q
@[simp] def zc3.k3 (C : CSem) (N : Nat → Nat) (Q : AVal → zb → Prop) (v0 v1 : AVal) (h : zb) : Prop :=
 B.pv (V.zw v1) fun v14 =>
  B.pv (V.bin .add v14 (.int .i64 12)) fun v15 =>
  B.pv (V.zfe 2 v0 none (some v15)) fun v16 =>
  zd (zrn.l4 C 2 (N 108) [.s, .i .i64] 1 Q v1 v16) [(.int .i64 0)] h
@[simp] def zc3.k4 (C : CSem) (N : Nat → Nat) (Q : AVal → zb → Prop) (v0 v1 : AVal) (h : zb) : Prop :=
 B.pv (V.zw v0) fun v8 =>
  B.pv (V.zw v1) fun v10 =>
  B.pv (V.bin .neq v8 v10) fun v11 =>
  B.cond v11
  (Q (.bool false) h)
  (zc3.k3 C N Q v0 v1 h)
def zc3.cps (C : CSem) (N : Nat → Nat) (v0 v1 : AVal) (h : zb) (Q : AVal → zb → Prop) : Prop :=
 zc3.k4 C N Q v0 v1 h
def zc3.Imp (C : CSem) (N : Nat → Nat) : Prop := ∀ (v0 v1 : AVal) (h : zb) (Q : AVal → zb → Prop), zc3.cps C N v0 v1 h (dn Q) → C (N 324) [v0, v1] h Q
@[simp] def ze2.cps (C : CSem) (N : Nat → Nat) (v0 : AVal) (h : zb) (Q : AVal → zb → Prop) : Prop :=
 B.call C (N 362) [v0] h fun v8 h =>
  B.pv (V.ext 0 v8) fun v9 =>
  B.pv (V.ext 1 v8) fun v10 =>
  B.pv (V.ext 2 v8) fun v11 =>
  Q v11 h
def ze2.Imp (C : CSem) (N : Nat → Nat) : Prop := ∀ (v0 : AVal) (h : zb) (Q : AVal → zb → Prop), ze2.cps C N v0 h (dn Q) → C (N 356) [v0] h Q
@[simp] def zbw.k1 (C : CSem) (N : Nat → Nat) (Q : AVal → zb → Prop) (Y1 : List AVal → zb → Prop) (v7 v12 v82 : AVal) (h : zb) : Prop :=
 B.zfa h v82 fun v83 h =>
  B.pv (V.ext 0 v83) fun v84 =>
  B.cond v84
  (B.pv (A.zh0 h v82) fun v85 =>
  B.pv (V.ext 1 v85) fun v86 =>
  B.pv (V.bin .gtr v86 (.int .i64 8)) fun v88 =>
  B.cond v88
  (Q (.tup [.nilm, .nilm, (.int .i64 3)]) h)
  (Y1 [] h))
  (Q (.tup [v7, v12, (.int .i64 0)]) h)
@[simp] def zbw.l2 (C : CSem) (N : Nat → Nat) (Q : AVal → zb → Prop) (v7 v12 v82 : AVal) : List AVal → zb → (List AVal → zb → Prop) → Prop
 | [], h, Y1 => zbw.k1 C N Q Y1 v7 v12 v82 h
 | _, _, _ => False
@[simp] def zbw.k3 (C : CSem) (N : Nat → Nat) (Q : AVal → zb → Prop) (v7 v12 v13 : AVal) (h : zb) : Prop :=
 B.pv (V.un .not v13) fun v80 =>
  B.cond v80
  (Q (.tup [.nilm, .nilm, (.int .i64 152)]) h)
  (B.rangeMap h v12 fun v82 h =>
  zd (zbw.l2 C N Q v7 v12 v82) [] h)
@[simp] def zbw.k4 (C : CSem) (N : Nat → Nat) (Q : AVal → zb → Prop) (Y2 : List AVal → zb → Prop) (Y3 : List AVal → zb → Prop) (v7 v53 v54 v55 v60 v61 v62 : AVal) (h : zb) : Prop :=
 B.pv (V.bin .lss v62 v61) fun v63 =>
  B.cond v63
  (B.pv (V.idxS 2 v60 v62) fun v64 =>
  B.ldn h v64 2 fun v65 =>
  B.pv (V.setN 0 2 v65 (.agg [.str [], .int .i64 0])) fun c11 =>
  B.al c11 (B.pv (V.zc7 0 c11) fun v68 =>
  B.pv (A.lkp h (some .s) (some (.agg [.str [], .int .i64 0, .nils, .nils])) false v7 v68) fun v69 =>
  B.pv (V.zc7 0 v69) fun v70 =>
  B.pv (V.bin .eql v70 (.str [])) fun v71 =>
  B.cond v71
  (Q (.tup [.nilm, .nilm, (.int .i64 150)]) h)
  (B.pv (V.bin .add v62 (.int .i64 1)) fun v72 =>
  Y3 [v72] h)))
  (B.pv (V.bin .add v55 (.int .i64 1)) fun v73 =>
  Y2 [v73] h)
@[simp] def zbw.l5 (C : CSem) (N : Nat → Nat) (Q : AVal → zb → Prop) (Y2 : List AVal → zb → Prop) (v7 v53 v54 v55 v60 v61 : AVal) : List AVal → zb → (List AVal → zb → Prop) → Prop
 | [v62], h, Y3 => zbw.k4 C N Q Y2 Y3 v7 v53 v54 v55 v60 v61 v62 h
 | _, _, _ => False
@[simp] def zbw.k6 (C : CSem) (N : Nat → Nat) (Q : AVal → zb → Prop) (Y2 : List AVal → zb → Prop) (v7 v53 v54 v55 : AVal) (h : zb) : Prop :=
 B.pv (V.idxS 4 v53 v55) fun v57 =>
  B.ldn h v57 4 fun v58 =>
  B.pv (V.setN 0 4 v58 (.agg [.str [], .int .i64 0, .nils, .nils])) fun c9 =>
  B.al c9 (B.pv (V.zc7 2 c9) fun v60 =>
  B.pv (V.zw v60) fun v61 =>
  zd (zbw.l5 C N Q Y2 v7 v53 v54 v55 v60 v61) [(.int .i64 0)] h)
@[simp] def zbw.k7 (C : CSem) (N : Nat → Nat) (Q : AVal → zb → Prop) (Y2 : List AVal → zb → Prop) (v7 v53 v54 v55 v56 : AVal) (h : zb) : Prop :=
 B.cond v56
  (zbw.k6 C N Q Y2 v7 v53 v54 v55 h)
  (B.call C (N 370) [v7] h fun v76 h =>
  B.pv (V.ext 0 v76) fun v77 =>
  B.pv (V.ext 1 v76) fun v78 =>
  zbw.k3 C N Q v7 v77 v78 h)
@[simp] def zbw.l8 (C : CSem) (N : Nat → Nat) (Q : AVal → zb → Prop) (v7 v53 v54 : AVal) : List AVal → zb → (List AVal → zb → Prop) → Prop
 | [v55], h, Y2 => B.pv (V.bin .lss v55 v54) fun v56 =>
  zbw.k7 C N Q Y2 v7 v53 v54 v55 v56 h
 | _, _, _ => False
@[simp] def zbw.k9 (C : CSem) (N : Nat → Nat) (Q : AVal → zb → Prop) (Y4 : List AVal → zb → Prop) (v0 v19 v20 v21 : AVal) (h : zb) : Prop :=
 B.pv (V.bin .lss v21 v20) fun v22 =>
  B.cond v22
  (B.pv (V.idxS 4 v19 v21) fun v24 =>
  B.ldn h v24 4 fun v25 =>
  B.pv (V.setN 0 4 v25 (.agg [.str [], .int .i64 0, .nils, .nils])) fun c6 =>
  B.al c6 (B.pv (V.zc7 0 c6) fun v27 =>
  B.call C (N 53) [v27] h fun v28 h =>
  B.pv (V.un .not v28) fun v29 =>
  B.gd h v29 false (fun K => K v21 h) fun v31 h =>
  B.gd h v29 false (fun K => B.pv (V.bin .gtr v31 (.int .i64 0)) fun v => K v h) fun v32 h =>
  B.gd h v29 false (fun K => K v32 h) fun v33 h =>
  B.gd h v33 true (fun K => K v0 h) fun v34 h =>
  B.gd h v33 true (fun K => K v21 h) fun v35 h =>
  B.gd h v33 true (fun K => B.pv (V.bin .sub v35 (.int .i64 1)) fun v => K v h) fun v36 h =>
  B.gd h v33 true (fun K => B.pv (V.idxS 4 v34 v36) fun v => K v h) fun v37 h =>
  B.gd h v33 true (fun K => B.pv (V.fieldAddr 0 v37) fun v => K v h) fun v38 h =>
  B.gd h v33 true (fun K => B.ld h v38 fun v => K v h) fun v39 h =>
  B.al c6 (B.gd h v33 true (fun K => K .undef h) fun _ h =>
  B.gd h v33 true (fun K => B.pv (V.zc7 0 c6) fun v => K v h) fun v41 h =>
  B.gd h v33 true (fun K => B.pv (V.bin .geq v39 v41) fun v => K v h) fun v42 h =>
  B.gd h v29 false (fun K => B.pick v33 v42 (.bool false) fun v => K v h) fun v43 h =>
  B.pick v29 (.bool true) v43 fun v44 =>
  B.gd h v44 false (fun K => B.pv (V.zfu 0 4 c6) fun v => K v h) fun v46 h =>
  B.gd h v44 false (fun K => B.call C (N 372) [v46] h K) fun v47 h =>
  B.gd h v44 false (fun K => B.pv (V.un .not v47) fun v => K v h) fun v48 h =>
  B.pick v44 (.bool true) v48 fun v49 =>
  B.cond v49
  (Q (.tup [.nilm, .nilm, (.int .i64 4)]) h)
  (B.pv (V.bin .add v21 (.int .i64 1)) fun v50 =>
  Y4 [v50] h))))
  (B.call C (N 371) [v0] h fun v52 h =>
  B.pv (V.zw v0) fun v54 =>
  zd (zbw.l8 C N Q v52 v0 v54) [(.int .i64 0)] h)
@[simp] def zbw.l10 (C : CSem) (N : Nat → Nat) (Q : AVal → zb → Prop) (v0 v19 v20 : AVal) : List AVal → zb → (List AVal → zb → Prop) → Prop
 | [v21], h, Y4 => zbw.k9 C N Q Y4 v0 v19 v20 v21 h
 | _, _, _ => False
@[simp] def zbw.k11 (C : CSem) (N : Nat → Nat) (Q : AVal → zb → Prop) (v0 : AVal) (h : zb) : Prop :=
 B.pv (V.zw v0) fun v17 =>
  B.pv (V.bin .gtr v17 (.int .i64 60)) fun v18 =>
  B.cond v18
  (Q (.tup [.nilm, .nilm, (.int .i64 3)]) h)
  (B.pv (V.zw v0) fun v20 =>
  zd (zbw.l10 C N Q v0 v0 v20) [(.int .i64 0)] h)
@[simp] def zbw.cps (C : CSem) (N : Nat → Nat) (v0 : AVal) (h : zb) (Q : AVal → zb → Prop) : Prop :=
 zbw.k11 C N Q v0 h
def zbw.Imp (C : CSem) (N : Nat → Nat) : Prop := ∀ (v0 : AVal) (h : zb) (Q : AVal → zb → Prop), zbw.cps C N v0 h (dn Q) → C (N 362) [v0] h Q
@[simp] def zc5.k1 (C : CSem) (N : Nat → Nat) (Q : AVal → zb → Prop) (Y1 : List AVal → zb → Prop) (v4 v5 v10 : AVal) (h : zb) : Prop :=
 B.zfa h v10 fun v11 h =>
  B.pv (V.ext 0 v11) fun v12 =>
  B.cond v12
  (B.pv (A.zh0 h v10) fun v13 =>
  B.pv (V.ext 0 v13) fun v14 =>
  B.ld h v5 fun v15 =>
  B.znz h C v15 [v14] fun v17 h =>
  B.pv (V.un .not v17) fun v18 =>
  B.cond v18
  (Q (.tup [.nilm, (.bool false)]) h)
  (Y1 [] h))
  (B.ld h v4 fun v19 =>
  Q (.tup [v19, (.bool true)]) h)
@[simp] def zc5.l2 (C : CSem) (N : Nat → Nat) (Q : AVal → zb → Prop) (v4 v5 v10 : AVal) : List AVal → zb → (List AVal → zb → Prop) → Prop
 | [], h, Y1 => zc5.k1 C N Q Y1 v4 v5 v10 h
 | _, _, _ => False
@[simp] def zc5.k3 (C : CSem) (N : Nat → Nat) (Q : AVal → zb → Prop) (v1 v4 : AVal) (h : zb) : Prop :=
 B.newO h (some [.nilf]) fun i5 h =>
  B.st h (.ptr i5 0 0) (.fn (N 374) [] [v4, v1, (.ptr i5 0 0)]) fun h =>
  B.ld h v1 fun v9 =>
  B.rangeMap h v9 fun v10 h =>
  zd (zc5.l2 C N Q v4 (.ptr i5 0 0) v10) [] h
@[simp] def zc5.k4 (C : CSem) (N : Nat → Nat) (Q : AVal → zb → Prop) (v0 : AVal) (h : zb) : Prop :=
 B.newO h (A.zny v0) fun i1 h =>
  B.zjq h fun v7 h =>
  B.newO h (some [.nilm]) fun i4 h =>
  B.st h (.ptr i4 0 0) v7 fun h =>
  zc5.k3 C N Q (.ptr i1 0 0) (.ptr i4 0 0) h
@[simp] def zc5.cps (C : CSem) (N : Nat → Nat) (v0 : AVal) (h : zb) (Q : AVal → zb → Prop) : Prop :=
 zc5.k4 C N Q v0 h
def zc5.Imp (C : CSem) (N : Nat → Nat) : Prop := ∀ (v0 : AVal) (h : zb) (Q : AVal → zb → Prop), zc5.cps C N v0 h (dn Q) → C (N 370) [v0] h Q
@[simp] def zeh.k1 (C : CSem) (N : Nat → Nat) (Q : AVal → zb → Prop) (Y1 : List AVal → zb → Prop) (v3 v7 v8 v9 : AVal) (h : zb) : Prop :=
 B.pv (V.bin .lss v9 v8) fun v10 =>
  B.cond v10
  (B.pv (V.idxS 4 v7 v9) fun v11 =>
  B.ldn h v11 4 fun v12 =>
  B.pv (V.setN 0 4 v12 (.agg [.str [], .int .i64 0, .nils, .nils])) fun c5 =>
  B.al c5 (B.pv (V.zc7 0 c5) fun v15 =>
  B.pv (V.zfu 0 4 c5) fun v16 =>
  B.mset h .s v3 v15 v16 fun h =>
  B.pv (V.bin .add v9 (.int .i64 1)) fun v17 =>
  Y1 [v17] h))
  (Q v3 h)
@[simp] def zeh.l2 (C : CSem) (N : Nat → Nat) (Q : AVal → zb → Prop) (v3 v7 v8 : AVal) : List AVal → zb → (List AVal → zb → Prop) → Prop
 | [v9], h, Y1 => zeh.k1 C N Q Y1 v3 v7 v8 v9 h
 | _, _, _ => False
@[simp] def zeh.cps (C : CSem) (N : Nat → Nat) (v0 : AVal) (h : zb) (Q : AVal → zb → Prop) : Prop :=
 B.zjq h fun v6 h =>
  B.pv (V.zw v0) fun v8 =>
  zd (zeh.l2 C N Q v6 v0 v8) [(.int .i64 0)] h
def zeh.Imp (C : CSem) (N : Nat → Nat) : Prop := ∀ (v0 : AVal) (h : zb) (Q : AVal → zb → Prop), zeh.cps C N v0 h (dn Q) → C (N 371) [v0] h Q
@[simp] def zdc.k1 (C : CSem) (N : Nat → Nat) (Q : AVal → zb → Prop) (c1 : AVal) (h : zb) : Prop :=
 B.al c1 (B.pv (V.zc7 1 c1) fun v48 =>
  B.pv (V.bin .eql v48 (.int .i64 0)) fun v49 =>
  B.al c1 (B.gd h v49 true (fun K => K .undef h) fun _ h =>
  B.gd h v49 true (fun K => B.pv (V.zc7 2 c1) fun v => K v h) fun v52 h =>
  B.gd h v49 true (fun K => B.pv (V.zw v52) fun v => K v h) fun v53 h =>
  B.gd h v49 true (fun K => B.pv (V.bin .leq v53 (.int .i64 8)) fun v => K v h) fun v54 h =>
  B.pick v49 v54 (.bool false) fun v55 =>
  Q v55 h))
@[simp] def zdc.k2 (C : CSem) (N : Nat → Nat) (Q : AVal → zb → Prop) (Y1 : List AVal → zb → Prop) (v3 v20 v21 v22 c1 : AVal) (h : zb) : Prop :=
 B.pv (V.bin .lss v22 v21) fun v23 =>
  B.cond v23
  (B.pv (V.idxS 2 v20 v22) fun v24 =>
  B.ldn h v24 2 fun v25 =>
  B.pv (V.setN 0 2 v25 (.agg [.str [], .int .i64 0])) fun c5 =>
  B.al c5 (B.pv (V.zc7 0 c5) fun v28 =>
  B.pv (A.lkp h (some .s) (some (.int .i64 0)) false v3 v28) fun v29 =>
  B.pv (V.bin .add v29 (.int .i64 1)) fun v30 =>
  B.mset h .s v3 v28 v30 fun h =>
  B.al c5 (B.pv (V.zc7 1 c5) fun v32 =>
  B.pv (V.bin .lss v32 (.int .i64 1)) fun v33 =>
  B.al c5 (B.gd h v33 false (fun K => K .undef h) fun _ h =>
  B.gd h v33 false (fun K => B.pv (V.zc7 1 c5) fun v => K v h) fun v36 h =>
  B.gd h v33 false (fun K => B.pv (V.bin .gtr v36 (.int .i64 1073741824)) fun v => K v h) fun v37 h =>
  B.pick v33 (.bool true) v37 fun v38 =>
  B.gd h v38 false (fun K => K v3 h) fun v40 h =>
  B.al c5 (B.gd h v38 false (fun K => K .undef h) fun _ h =>
  B.gd h v38 false (fun K => B.pv (V.zc7 0 c5) fun v => K v h) fun v42 h =>
  B.gd h v38 false (fun K => B.pv (A.lkp h (some .s) (some (.int .i64 0)) false v40 v42) fun v => K v h) fun v43 h =>
  B.gd h v38 false (fun K => B.pv (V.bin .gtr v43 (.int .i64 1)) fun v => K v h) fun v44 h =>
  B.pick v38 (.bool true) v44 fun v45 =>
  B.cond v45
  (Q (.bool false) h)
  (B.pv (V.bin .add v22 (.int .i64 1)) fun v46 =>
  Y1 [v46] h))))))
  (zdc.k1 C N Q c1 h)
@[simp] def zdc.l3 (C : CSem) (N : Nat → Nat) (Q : AVal → zb → Prop) (v3 v20 v21 c1 : AVal) : List AVal → zb → (List AVal → zb → Prop) → Prop
 | [v22], h, Y1 => zdc.k2 C N Q Y1 v3 v20 v21 v22 c1 h
 | _, _, _ => False
@[simp] def zdc.k4 (C : CSem) (N : Nat → Nat) (Q : AVal → zb → Prop) (c1 : AVal) (h : zb) : Prop :=
 B.zjq h fun v18 h =>
  B.al c1 (B.pv (V.zc7 2 c1) fun v20 =>
  B.pv (V.zw v20) fun v21 =>
  zd (zdc.l3 C N Q v18 v20 v21 c1) [(.int .i64 0)] h)
@[simp] def zdc.k5 (C : CSem) (N : Nat → Nat) (Q : AVal → zb → Prop) (c1 : AVal) (h : zb) : Prop :=
 B.al c1 (B.pv (V.zc7 2 c1) fun v7 =>
  B.pv (V.zw v7) fun v8 =>
  B.pv (V.bin .eql v8 (.int .i64 0)) fun v9 =>
  B.cond v9
  (B.al c1 (B.pv (V.zc7 1 c1) fun v11 =>
  B.pv (V.bin .gtr v11 (.int .i64 0)) fun v12 =>
  B.al c1 (B.gd h v12 true (fun K => K .undef h) fun _ h =>
  B.gd h v12 true (fun K => B.pv (V.zc7 1 c1) fun v => K v h) fun v15 h =>
  B.gd h v12 true (fun K => B.pv (V.bin .leq v15 (.int .i64 2000)) fun v => K v h) fun v16 h =>
  B.pick v12 v16 (.bool false) fun v17 =>
  Q v17 h)))
  (zdc.k4 C N Q c1 h))
@[simp] def zdc.cps (C : CSem) (N : Nat → Nat) (v0 : AVal) (h : zb) (Q : AVal → zb → Prop) : Prop :=
 B.pv (A.boxN 4 v0) fun c1 =>
  zdc.k5 C N Q c1 h
def zdc.Imp (C : CSem) (N : Nat → Nat) : Prop := ∀ (v0 : AVal) (h : zb) (Q : AVal → zb → Prop), zdc.cps C N v0 h (dn Q) → C (N 372) [v0] h Q
@[simp] def zct.k1 (C : CSem) (N : Nat → Nat) (Q : AVal → zb → Prop) (Y1 : List AVal → zb → Prop) (v0 v1 v3 v7 v22 v23 v24 : AVal) (h : zb) : Prop :=
 B.pv (V.bin .lss v24 v23) fun v25 =>
  B.cond v25
  (B.pv (V.idxS 2 v22 v24) fun v26 =>
  B.ldn h v26 2 fun v27 =>
  B.pv (V.setN 0 2 v27 (.agg [.str [], .int .i64 0])) fun c9 =>
  B.ld h v3 fun v28 =>
  B.al c9 (B.pv (V.zc7 0 c9) fun v30 =>
  B.znz h C v28 [v30] fun v31 h =>
  B.pv (V.un .not v31) fun v32 =>
  B.cond v32
  (Q (.bool false) h)
  (B.ld h v1 fun v34 =>
  B.al c9 (B.pv (V.zc7 0 c9) fun v36 =>
  B.pv (A.lkp h (some .s) (some (.int .i64 0)) false v34 v36) fun v37 =>
  B.pv (V.bin .add (.int .i64 1) v37) fun v38 =>
  B.pv (V.max2 v7 v38) fun v39 =>
  B.pv (V.bin .add v24 (.int .i64 1)) fun v40 =>
  Y1 [v39, v40] h))))
  (B.ld h v1 fun v41 =>
  B.mset h .s v41 v0 v7 fun h =>
  Q (.bool true) h)
@[simp] def zct.l2 (C : CSem) (N : Nat → Nat) (Q : AVal → zb → Prop) (v0 v1 v3 v22 v23 : AVal) : List AVal → zb → (List AVal → zb → Prop) → Prop
 | [v7, v24], h, Y1 => zct.k1 C N Q Y1 v0 v1 v3 v7 v22 v23 v24 h
 | _, _, _ => False
@[simp] def zct.k3 (C : CSem) (N : Nat → Nat) (Q : AVal → zb → Prop) (v0 v1 v2 v3 v7 : AVal) (h : zb) : Prop :=
 B.ld h v2 fun v19 =>
  B.pv (A.lkp h (some .s) (some (.agg [.str [], .int .i64 0, .nils, .nils])) false v19 v0) fun v21 =>
  B.pv (V.zc7 2 v21) fun v22 =>
  B.pv (V.zw v22) fun v23 =>
  zd (zct.l2 C N Q v0 v1 v3 v22 v23) [v7, (.int .i64 0)] h
@[simp] def zct.k4 (C : CSem) (N : Nat → Nat) (Q : AVal → zb → Prop) (v0 v1 v2 v3 : AVal) (h : zb) : Prop :=
 B.ld h v1 fun v10 =>
  B.pv (A.lkp h (some .s) (some (.int .i64 0)) false v10 v0) fun v12 =>
  B.pv (V.bin .neq v12 (.int .i64 0)) fun v14 =>
  B.cond v14
  (B.pv (V.bin .gtr v12 (.int .i64 0)) fun v16 =>
  Q v16 h)
  (B.ld h v1 fun v17 =>
  B.mset h .s v17 v0 (.int .i64 (-1)) fun h =>
  zct.k3 C N Q v0 v1 v2 v3 (.int .i64 1) h)
@[simp] def zct.cps (C : CSem) (N : Nat → Nat) (v0 v1 v2 v3 : AVal) (h : zb) (Q : AVal → zb → Prop) : Prop :=
 zct.k4 C N Q v0 v1 v2 v3 h
def zct.Imp (C : CSem) (N : Nat → Nat) : Prop := ∀ (v0 v1 v2 v3 : AVal) (h : zb) (Q : AVal → zb → Prop), zct.cps C N v0 v1 v2 v3 h (dn Q) → C (N 374) [v0, v1, v2, v3] h Q
@[simp] def zca.k1 (C : CSem) (N : Nat → Nat) (Q : AVal → zb → Prop) (Y1 : List AVal → zb → Prop) (v0 v3 v6 : AVal) (h : zb) : Prop :=
 B.pv (V.bin .lss v6 (.int .i64 12)) fun v27 =>
  B.cond v27
  (B.call C (N 109) [(.int .i64 1), v6] h fun v32 h =>
  B.newO h (zep [(0, some 4, v32)] (repL 1 [.str [], .int .i64 0, .nils, .nils])) fun i33 h =>
  B.appW h 4 72 v3 (.sl i33 0 0 1 4 1) fun v34 h =>
  B.pv (V.bin .add v6 (.int .i64 1)) fun v29 =>
  Y1 [v34, v29] h)
  (B.pv (V.zw v0) fun v37 =>
  B.pv (V.zfe 4 v3 none (some v37)) fun v38 =>
  Q v38 h)
@[simp] def zca.l2 (C : CSem) (N : Nat → Nat) (Q : AVal → zb → Prop) (v0 : AVal) : List AVal → zb → (List AVal → zb → Prop) → Prop
 | [v3, v6], h, Y1 => zca.k1 C N Q Y1 v0 v3 v6 h
 | _, _, _ => False
@[simp] def zca.k3 (C : CSem) (N : Nat → Nat) (Q : AVal → zb → Prop) (Y2 : List AVal → zb → Prop) (v0 v3 v4 : AVal) (h : zb) : Prop :=
 B.pv (V.zw v0) fun v13 =>
  B.pv (V.bin .lss v4 v13) fun v14 =>
  B.cond v14
  (B.pv (V.idxS 4 v0 v4) fun v19 =>
  B.ldn h v19 4 fun v20 =>
  B.call C (N 399) [v20] h fun v21 h =>
  B.pv (V.setN 0 4 v21 (.agg [.str [], .int .i64 0, .nils, .nils])) fun c5 =>
  B.pv (V.zfu 0 4 c5) fun v23 =>
  B.newO h (zep [(0, some 4, v23)] (repL 1 [.str [], .int .i64 0, .nils, .nils])) fun i24 h =>
  B.appW h 4 72 v3 (.sl i24 0 0 1 4 1) fun v25 h =>
  B.pv (V.bin .add v4 (.int .i64 1)) fun v16 =>
  Y2 [v25, v16] h)
  (zd (zca.l2 C N Q v0) [v3, (.int .i64 0)] h)
@[simp] def zca.l4 (C : CSem) (N : Nat → Nat) (Q : AVal → zb → Prop) (v0 : AVal) : List AVal → zb → (List AVal → zb → Prop) → Prop
 | [v3, v4], h, Y2 => zca.k3 C N Q Y2 v0 v3 v4 h
 | _, _, _ => False
@[simp] def zca.k5 (C : CSem) (N : Nat → Nat) (Q : AVal → zb → Prop) (v0 : AVal) (h : zb) : Prop :=
 B.pv (V.zw v0) fun v8 =>
  B.pv (V.bin .add v8 (.int .i64 12)) fun v9 =>
  0 < 4 ∧ B.mks h 72 (some [.str [], .int .i64 0, .nils, .nils]) (.int .i64 0) v9 fun v10 h =>
  zd (zca.l4 C N Q v0) [v10, (.int .i64 0)] h
@[simp] def zca.cps (C : CSem) (N : Nat → Nat) (v0 : AVal) (h : zb) (Q : AVal → zb → Prop) : Prop :=
 zca.k5 C N Q v0 h
def zca.Imp (C : CSem) (N : Nat → Nat) : Prop := ∀ (v0 : AVal) (h : zb) (Q : AVal → zb → Prop), zca.cps C N v0 h (dn Q) → C (N 391) [v0] h Q
@[simp] def zck.k1 (C : CSem) (N : Nat → Nat) (Q : AVal → zb → Prop) (Y1 : List AVal → zb → Prop) (v1 v5 v6 : AVal) (h : zb) : Prop :=
 B.pv (V.zw v5) fun v19 =>
  B.pv (V.bin .lss v6 v19) fun v20 =>
  B.cond v20
  (B.pv (V.zw v1) fun v25 =>
  B.pv (V.bin .lss v6 v25) fun v26 =>
  B.gd h v26 true (fun K => K v5 h) fun v28 h =>
  B.gd h v26 true (fun K => K v6 h) fun v29 h =>
  B.gd h v26 true (fun K => B.pv (V.idxS 4 v28 v29) fun v => K v h) fun v30 h =>
  B.gd h v26 true (fun K => B.ldn h v30 4 fun v => K v h) fun v31 h =>
  B.gd h v26 true (fun K => K v1 h) fun v32 h =>
  B.gd h v26 true (fun K => K v6 h) fun v33 h =>
  B.gd h v26 true (fun K => B.pv (V.idxS 4 v32 v33) fun v => K v h) fun v34 h =>
  B.gd h v26 true (fun K => B.ldn h v34 4 fun v => K v h) fun v35 h =>
  B.gd h v26 true (fun K => B.call C (N 400) [v31, v35] h K) fun v36 h =>
  B.gd h v26 true (fun K => B.pv (V.un .not v36) fun v => K v h) fun v37 h =>
  B.pick v26 v37 (.bool false) fun v38 =>
  B.gd h v38 false (fun K => K v6 h) fun v40 h =>
  B.gd h v38 false (fun K => K v1 h) fun v41 h =>
  B.gd h v38 false (fun K => B.pv (V.zw v41) fun v => K v h) fun v42 h =>
  B.gd h v38 false (fun K => B.pv (V.bin .geq v40 v42) fun v => K v h) fun v43 h =>
  B.gd h v38 false (fun K => K v43 h) fun v44 h =>
  B.gd h v44 true (fun K => K v5 h) fun v45 h =>
  B.gd h v44 true (fun K => K v6 h) fun v46 h =>
  B.gd h v44 true (fun K => B.pv (V.idxS 4 v45 v46) fun v => K v h) fun v47 h =>
  B.gd h v44 true (fun K => B.ldn h v47 4 fun v => K v h) fun v48 h =>
  B.gd h v44 true (fun K => K v6 h) fun v49 h =>
  B.gd h v44 true (fun K => K v1 h) fun v50 h =>
  B.gd h v44 true (fun K => B.pv (V.zw v50) fun v => K v h) fun v51 h =>
  B.gd h v44 true (fun K => B.pv (V.bin .sub v49 v51) fun v => K v h) fun v52 h =>
  B.gd h v44 true (fun K => B.call C (N 109) [(.int .i64 1), v52] h (B.zhv h [(v47, some 4)] K)) fun v53 h =>
  B.gd h v44 true (fun K => B.call C (N 110) [v48, v53] h K) fun v54 h =>
  B.gd h v44 true (fun K => B.pv (V.un .not v54) fun v => K v h) fun v55 h =>
  B.gd h v38 false (fun K => B.pick v44 v55 (.bool false) fun v => K v h) fun v56 h =>
  B.pick v38 (.bool true) v56 fun v57 =>
  B.cond v57
  (Q (.bool false) h)
  (B.pv (V.bin .add v6 (.int .i64 1)) fun v22 =>
  Y1 [v22] h))
  (Q (.bool true) h)
@[simp] def zck.l2 (C : CSem) (N : Nat → Nat) (Q : AVal → zb → Prop) (v1 v5 : AVal) : List AVal → zb → (List AVal → zb → Prop) → Prop
 | [v6], h, Y1 => zck.k1 C N Q Y1 v1 v5 v6 h
 | _, _, _ => False
@[simp] def zck.k3 (C : CSem) (N : Nat → Nat) (Q : AVal → zb → Prop) (v0 v1 : AVal) (h : zb) : Prop :=
 B.pv (V.zw v1) fun v14 =>
  B.pv (V.bin .add v14 (.int .i64 12)) fun v15 =>
  B.pv (V.zfe 4 v0 none (some v15)) fun v16 =>
  zd (zck.l2 C N Q v1 v16) [(.int .i64 0)] h
@[simp] def zck.k4 (C : CSem) (N : Nat → Nat) (Q : AVal → zb → Prop) (v0 v1 : AVal) (h : zb) : Prop :=
 B.pv (V.zw v0) fun v8 =>
  B.pv (V.zw v1) fun v10 =>
  B.pv (V.bin .neq v8 v10) fun v11 =>
  B.cond v11
  (Q (.bool false) h)
  (zck.k3 C N Q v0 v1 h)
@[simp] def zck.cps (C : CSem) (N : Nat → Nat) (v0 v1 : AVal) (h : zb) (Q : AVal → zb → Prop) : Prop :=
 zck.k4 C N Q v0 v1 h
def zck.Imp (C : CSem) (N : Nat → Nat) : Prop := ∀ (v0 v1 : AVal) (h : zb) (Q : AVal → zb → Prop), zck.cps C N v0 v1 h (dn Q) → C (N 392) [v0, v1] h Q
@[simp] def zcd.k1 (C : CSem) (N : Nat → Nat) (Q : AVal → zb → Prop) (Y1 : List AVal → zb → Prop) (v3 v4 : AVal) (h : zb) : Prop :=
 B.pv (V.zw v3) fun v23 =>
  B.pv (V.bin .lss v4 v23) fun v24 =>
  B.cond v24
  (B.call C (N 109) [(.int .i64 2), v4] h fun v30 h =>
  B.pv (V.idxS 4 v3 v4) fun v31 =>
  B.stn h v31 4 v30 fun h =>
  B.pv (V.bin .add v4 (.int .i64 1)) fun v26 =>
  Y1 [v26] h)
  (Q (.tup []) h)
@[simp] def zcd.l2 (C : CSem) (N : Nat → Nat) (Q : AVal → zb → Prop) (v3 : AVal) : List AVal → zb → (List AVal → zb → Prop) → Prop
 | [v4], h, Y1 => zcd.k1 C N Q Y1 v3 v4 h
 | _, _, _ => False
@[simp] def zcd.k3 (C : CSem) (N : Nat → Nat) (Q : AVal → zb → Prop) (v0 : AVal) (h : zb) : Prop :=
 B.pv (V.zw v0) fun v18 =>
  B.pv (V.bin .add v18 (.int .i64 12)) fun v19 =>
  B.pv (V.zfe 4 v0 none (some v19)) fun v20 =>
  zd (zcd.l2 C N Q v20) [(.int .i64 0)] h
@[simp] def zcd.k4 (C : CSem) (N : Nat → Nat) (Q : AVal → zb → Prop) (Y2 : List AVal → zb → Prop) (v0 v2 : AVal) (h : zb) : Prop :=
 B.pv (V.zw v0) fun v7 =>
  B.pv (V.bin .lss v2 v7) fun v8 =>
  B.cond v8
  (B.pv (V.idxS 4 v0 v2) fun v13 =>
  B.ldn h v13 4 fun v14 =>
  B.call C (N 401) [v14] h fun v15 h =>
  B.pv (V.bin .add v2 (.int .i64 1)) fun v10 =>
  Y2 [v10] h)
  (zcd.k3 C N Q v0 h)
@[simp] def zcd.l5 (C : CSem) (N : Nat → Nat) (Q : AVal → zb → Prop) (v0 : AVal) : List AVal → zb → (List AVal → zb → Prop) → Prop
 | [v2], h, Y2 => zcd.k4 C N Q Y2 v0 v2 h
 | _, _, _ => False
@[simp] def zcd.cps (C : CSem) (N : Nat → Nat) (v0 : AVal) (h : zb) (Q : AVal → zb → Prop) : Prop :=
 zd (zcd.l5 C N Q v0) [(.int .i64 0)] h
def zcd.Imp (C : CSem) (N : Nat → Nat) : Prop := ∀ (v0 : AVal) (h : zb) (Q : AVal → zb → Prop), zcd.cps C N v0 h (dn Q) → C (N 393) [v0] h Q
@[simp] def zcx.k1 (C : CSem) (N : Nat → Nat) (Q : AVal → zb → Prop) (Y1 : List AVal → zb → Prop) (v0 v3 v4 : AVal) (h : zb) : Prop :=
 B.pv (V.zw v0) fun v9 =>
  B.pv (V.bin .lss v4 v9) fun v10 =>
  B.cond v10
  (B.pv (V.idxS 1 v0 v4) fun v16 =>
  B.ld h v16 fun v17 =>
  B.call C (N 405) [v3, v17] h fun v18 h =>
  B.pv (V.bin .add v4 (.int .i64 1)) fun v12 =>
  Y1 [v12] h)
  (B.call C (N 62) [v3] h fun v20 h =>
  Q v20 h)
@[simp] def zcx.l2 (C : CSem) (N : Nat → Nat) (Q : AVal → zb → Prop) (v0 v3 : AVal) : List AVal → zb → (List AVal → zb → Prop) → Prop
 | [v4], h, Y1 => zcx.k1 C N Q Y1 v0 v3 v4 h
 | _, _, _ => False
@[simp] def zcx.k3 (C : CSem) (N : Nat → Nat) (Q : AVal → zb → Prop) (v0 : AVal) (h : zb) : Prop :=
 B.pv (A.bld [] [.nils, .nils, .nils, .nils, .nils, .nils, .nils, .nils, .nils, .nils, .nils, .nils, .nils, .nils, .nils, .nils, .nils, .nils, .nils, .nils, .nils, .nils, .nils]) fun v5 =>
  B.newO h (A.znx 23 v5) fun i6 h =>
  zd (zcx.l2 C N Q v0 (.ptr i6 0 0)) [(.int .i64 0)] h
@[simp] def zcx.cps (C : CSem) (N : Nat → Nat) (v0 : AVal) (h : zb) (Q : AVal → zb → Prop) : Prop :=
 zcx.k3 C N Q v0 h
def zcx.Imp (C : CSem) (N : Nat → Nat) : Prop := ∀ (v0 : AVal) (h : zb) (Q : AVal → zb → Prop), zcx.cps C N v0 h (dn Q) → C (N 396) [v0] h Q
@[simp] def zdy.k1 (C : CSem) (N : Nat → Nat) (Q : AVal → zb → Prop) (v0 : AVal) (h : zb) : Prop :=
 B.pv (A.boxN 4 v0) fun c1 =>
  B.al c1 (B.pv (V.zc7 2 c1) fun v4 =>
  B.call C (N 319) [v4] h fun v5 h =>
  B.al c1 (B.pv (V.setF 2 v5 c1) fun c1 =>
  B.al c1 (B.pv (V.zc7 3 c1) fun v8 =>
  B.call C (N 406) [v8] h fun v9 h =>
  B.al c1 (B.pv (V.setF 3 v9 c1) fun c1 =>
  B.pv (V.zfu 0 4 c1) fun v11 =>
  B.pv (V.setN 0 4 v11 (.agg [.str [], .int .i64 0, .nils, .nils])) fun c2 =>
  B.pv (oneOf (zlt (V.zfu 0 4 c2) (some []))) fun v => Q v h))))
@[simp] def zdy.cps (C : CSem) (N : Nat → Nat) (v0 : AVal) (h : zb) (Q : AVal → zb → Prop) : Prop :=
 zdy.k1 C N Q v0 h
def zdy.Imp (C : CSem) (N : Nat → Nat) : Prop := ∀ (v0 : AVal) (h : zb) (Q : AVal → zb → Prop), zdy.cps C N v0 h (dn Q) → C (N 399) [v0] h Q
@[simp] def zdz.k1 (C : CSem) (N : Nat → Nat) (Q : AVal → zb → Prop) (v0 v1 : AVal) (h : zb) : Prop :=
 B.pv (A.boxN 4 v0) fun c2 =>
  B.pv (A.boxN 4 v1) fun c3 =>
  B.pv (V.zfu 0 4 c2) fun v5 =>
  B.pv (V.zfu 0 4 c3) fun v6 =>
  B.call C (N 110) [v5, v6] h fun v7 h =>
  B.al c2 (B.gd h v7 true (fun K => K .undef h) fun _ h =>
  B.gd h v7 true (fun K => B.pv (V.zc7 2 c2) fun v => K v h) fun v10 h =>
  B.al c3 (B.gd h v7 true (fun K => K .undef h) fun _ h =>
  B.gd h v7 true (fun K => B.pv (V.zc7 2 c3) fun v => K v h) fun v12 h =>
  B.gd h v7 true (fun K => B.call C (N 324) [v10, v12] h K) fun v13 h =>
  B.pick v7 v13 (.bool false) fun v14 =>
  B.al c2 (B.gd h v14 true (fun K => K .undef h) fun _ h =>
  B.gd h v14 true (fun K => B.pv (V.zc7 3 c2) fun v => K v h) fun v17 h =>
  B.al c3 (B.gd h v14 true (fun K => K .undef h) fun _ h =>
  B.gd h v14 true (fun K => B.pv (V.zc7 3 c3) fun v => K v h) fun v19 h =>
  B.gd h v14 true (fun K => B.call C (N 407) [v17, v19] h K) fun v20 h =>
  B.pick v14 v20 (.bool false) fun v21 =>
  Q v21 h))))
@[simp] def zdz.cps (C : CSem) (N : Nat → Nat) (v0 v1 : AVal) (h : zb) (Q : AVal → zb → Prop) : Prop :=
 zdz.k1 C N Q v0 v1 h
def zdz.Imp (C : CSem) (N : Nat → Nat) : Prop := ∀ (v0 v1 : AVal) (h : zb) (Q : AVal → zb → Prop), zdz.cps C N v0 v1 h (dn Q) → C (N 400) [v0, v1] h Q
@[simp] def zdx.k1 (C : CSem) (N : Nat → Nat) (Q : AVal → zb → Prop) (v0 : AVal) (h : zb) : Prop :=
 B.pv (A.boxN 4 v0) fun c1 =>
  B.al c1 (B.pv (V.zc7 2 c1) fun v3 =>
  B.call C (N 408) [v3] h fun v4 h =>
  B.al c1 (B.pv (V.zc7 3 c1) fun v6 =>
  B.call C (N 409) [v6] h fun v7 h =>
  Q (.tup []) h))
@[simp] def zdx.cps (C : CSem) (N : Nat → Nat) (v0 : AVal) (h : zb) (Q : AVal → zb → Prop) : Prop :=
 zdx.k1 C N Q v0 h
def zdx.Imp (C : CSem) (N : Nat → Nat) : Prop := ∀ (v0 : AVal) (h : zb) (Q : AVal → zb → Prop), zdx.cps C N v0 h (dn Q) → C (N 401) [v0] h Q
@[simp] def zdh.k1 (C : CSem) (N : Nat → Nat) (Q : AVal → zb → Prop) (v0 v1 : AVal) (h : zb) : Prop :=
 B.nilCheck v0 fun v6 =>
  B.pv (V.fieldAddr 3 v6) fun v7 =>
  B.ld h v7 fun v8 =>
  B.newO h (zep [(0, none, v1)] (repL 1 [.nils])) fun i10 h =>
  B.appW h 1 24 v8 (.sl i10 0 0 1 1 1) fun v11 h =>
  B.nilCheck v0 fun v12 =>
  B.pv (V.fieldAddr 3 v12) fun v13 =>
  B.st h v13 v11 fun h =>
  Q (.tup []) h
@[simp] def zdh.cps (C : CSem) (N : Nat → Nat) (v0 v1 : AVal) (h : zb) (Q : AVal → zb → Prop) : Prop :=
 zdh.k1 C N Q v0 v1 h
def zdh.Imp (C : CSem) (N : Nat → Nat) : Prop := ∀ (v0 v1 : AVal) (h : zb) (Q : AVal → zb → Prop), zdh.cps C N v0 v1 h (dn Q) → C (N 405) [v0, v1] h Q
@[simp] def zdf.k3 (C : CSem) (N : Nat → Nat) (Q : AVal → zb → Prop) (v0 : AVal) (h : zb) : Prop :=
 B.pv (V.zw v0) fun v6 =>
  B.pv (V.bin .add v6 (.int .i64 12)) fun v7 =>
  0 < 1 ∧ B.mks h 16 (some [.str []]) (.int .i64 0) v7 fun v8 h =>
  B.appW h 1 16 v8 v0 fun v11 h =>
  zd (zpk.l4 C 16 (N 106) (.str []) 1 Q v0) [v11, (.int .i64 0)] h
def zdf.cps (C : CSem) (N : Nat → Nat) (v0 : AVal) (h : zb) (Q : AVal → zb → Prop) : Prop :=
 zdf.k3 C N Q v0 h
def zdf.Imp (C : CSem) (N : Nat → Nat) : Prop := ∀ (v0 : AVal) (h : zb) (Q : AVal → zb → Prop), zdf.cps C N v0 h (dn Q) → C (N 406) [v0] h Q
@[simp] def zc2.k3 (C : CSem) (N : Nat → Nat) (Q : AVal → zb → Prop) (v0 v1 : AVal) (h : zb) : Prop :=
 B.pv (V.zw v1) fun v14 =>
  B.pv (V.bin .add v14 (.int .i64 12)) fun v15 =>
  B.pv (V.zfe 1 v0 none (some v15)) fun v16 =>
  zd (zq0.l4 C (N 106) 1 Q v1 v16) [(.int .i64 0)] h
@[simp] def zc2.k4 (C : CSem) (N : Nat → Nat) (Q : AVal → zb → Prop) (v0 v1 : AVal) (h : zb) : Prop :=
 B.pv (V.zw v0) fun v8 =>
  B.pv (V.zw v1) fun v10 =>
  B.pv (V.bin .neq v8 v10) fun v11 =>
  B.cond v11
  (Q (.bool false) h)
  (zc2.k3 C N Q v0 v1 h)
def zc2.cps (C : CSem) (N : Nat → Nat) (v0 v1 : AVal) (h : zb) (Q : AVal → zb → Prop) : Prop :=
 zc2.k4 C N Q v0 v1 h
def zc2.Imp (C : CSem) (N : Nat → Nat) : Prop := ∀ (v0 v1 : AVal) (h : zb) (Q : AVal → zb → Prop), zc2.cps C N v0 v1 h (dn Q) → C (N 407) [v0, v1] h Q
@[simp] def zdn.k3 (C : CSem) (N : Nat → Nat) (Q : AVal → zb → Prop) (v0 : AVal) (h : zb) : Prop :=
 B.pv (V.zw v0) fun v6 =>
  B.pv (V.bin .add v6 (.int .i64 12)) fun v7 =>
  B.pv (V.zfe 2 v0 none (some v7)) fun v8 =>
  zd (zmu.l3 C 2 (N 108) (fun h p v K => B.stn h p 2 v K) 2 Q v8) [(.int .i64 0)] h
def zdn.cps (C : CSem) (N : Nat → Nat) (v0 : AVal) (h : zb) (Q : AVal → zb → Prop) : Prop :=
 zdn.k3 C N Q v0 h
def zdn.Imp (C : CSem) (N : Nat → Nat) : Prop := ∀ (v0 : AVal) (h : zb) (Q : AVal → zb → Prop), zdn.cps C N v0 h (dn Q) → C (N 408) [v0] h Q
@[simp] def zdm.k3 (C : CSem) (N : Nat → Nat) (Q : AVal → zb → Prop) (v0 : AVal) (h : zb) : Prop :=
 B.pv (V.zw v0) fun v6 =>
  B.pv (V.bin .add v6 (.int .i64 12)) fun v7 =>
  B.pv (V.zfe 1 v0 none (some v7)) fun v8 =>
  zd (zmu.l3 C 1 (N 106) (fun h p v K => B.st h p v K) 2 Q v8) [(.int .i64 0)] h
def zdm.cps (C : CSem) (N : Nat → Nat) (v0 : AVal) (h : zb) (Q : AVal → zb → Prop) : Prop :=
 zdm.k3 C N Q v0 h
def zdm.Imp (C : CSem) (N : Nat → Nat) : Prop := ∀ (v0 : AVal) (h : zb) (Q : AVal → zb → Prop), zdm.cps C N v0 h (dn Q) → C (N 409) [v0] h Q
@[simp] def z7.k1 (C : CSem) (N : Nat → Nat) (Q : AVal → zb → Prop) (v0 v3 : AVal) (h : zb) : Prop :=
 B.pv (V.bin .gtr v3 (.int .i64 4000)) fun v95 =>
  B.gd h v95 false (fun K => K v0 h) fun v97 h =>
  B.gd h v95 false (fun K => B.pv (V.zw v97) fun v => K v h) fun v98 h =>
  B.gd h v95 false (fun K => B.pv (V.bin .gtr v98 (.int .i64 70)) fun v => K v h) fun v99 h =>
  B.pick v95 (.bool true) v99 fun v100 =>
  Q v100 h
@[simp] def z7.k2 (C : CSem) (N : Nat → Nat) (Q : AVal → zb → Prop) (Y1 : List AVal → zb → Prop) (Y2 : List AVal → zb → Prop) (v0 v3 v4 v6 : AVal) (h : zb) : Prop :=
 B.pv (V.idxS 4 v0 v4) fun v71 =>
  B.pv (V.fieldAddr 3 v71) fun v72 =>
  B.ld h v72 fun v73 =>
  B.pv (V.zw v73) fun v74 =>
  B.pv (V.bin .lss v6 v74) fun v75 =>
  B.gd h v75 true (fun K => K v3 h) fun v77 h =>
  B.gd h v75 true (fun K => B.pv (V.bin .leq v77 (.int .i64 4000)) fun v => K v h) fun v78 h =>
  B.pick v75 v78 (.bool false) fun v79 =>
  B.cond v79
  (B.pv (V.idxS 4 v0 v4) fun v85 =>
  B.pv (V.fieldAddr 3 v85) fun v86 =>
  B.ld h v86 fun v87 =>
  B.pv (V.idxS 1 v87 v6) fun v89 =>
  B.ld h v89 fun v90 =>
  B.pv (V.zht v90) fun v91 =>
  B.pv (V.bin .quo v91 (.int .i64 20)) fun v92 =>
  B.pv (V.bin .add v3 v92) fun v93 =>
  B.pv (V.bin .add v6 (.int .i64 1)) fun v81 =>
  Y2 [v93, v81] h)
  (B.pv (V.bin .add v4 (.int .i64 1)) fun v16 =>
  Y1 [v3, v16] h)
@[simp] def z7.l3 (C : CSem) (N : Nat → Nat) (Q : AVal → zb → Prop) (Y1 : List AVal → zb → Prop) (v0 v4 : AVal) : List AVal → zb → (List AVal → zb → Prop) → Prop
 | [v3, v6], h, Y2 => z7.k2 C N Q Y1 Y2 v0 v3 v4 v6 h
 | _, _, _ => False
@[simp] def z7.k4 (C : CSem) (N : Nat → Nat) (Q : AVal → zb → Prop) (Y1 : List AVal → zb → Prop) (Y3 : List AVal → zb → Prop) (v0 v3 v4 v5 : AVal) (h : zb) : Prop :=
 B.pv (V.idxS 4 v0 v4) fun v44 =>
  B.pv (V.fieldAddr 2 v44) fun v45 =>
  B.ld h v45 fun v46 =>
  B.pv (V.zw v46) fun v47 =>
  B.pv (V.bin .lss v5 v47) fun v48 =>
  B.gd h v48 true (fun K => K v3 h) fun v50 h =>
  B.gd h v48 true (fun K => B.pv (V.bin .leq v50 (.int .i64 4000)) fun v => K v h) fun v51 h =>
  B.pick v48 v51 (.bool false) fun v52 =>
  B.cond v52
  (B.pv (V.idxS 4 v0 v4) fun v58 =>
  B.pv (V.fieldAddr 2 v58) fun v59 =>
  B.ld h v59 fun v60 =>
  B.pv (V.idxS 2 v60 v5) fun v62 =>
  B.pv (V.fieldAddr 0 v62) fun v63 =>
  B.ld h v63 fun v64 =>
  B.pv (V.zht v64) fun v65 =>
  B.pv (V.bin .quo v65 (.int .i64 20)) fun v66 =>
  B.pv (V.bin .add v3 v66) fun v67 =>
  B.pv (V.bin .add v5 (.int .i64 1)) fun v54 =>
  Y3 [v67, v54] h)
  (zd (z7.l3 C N Q Y1 v0 v4) [v3, (.int .i64 0)] h)
@[simp] def z7.l5 (C : CSem) (N : Nat → Nat) (Q : AVal → zb → Prop) (Y1 : List AVal → zb → Prop) (v0 v4 : AVal) : List AVal → zb → (List AVal → zb → Prop) → Prop
 | [v3, v5], h, Y3 => z7.k4 C N Q Y1 Y3 v0 v3 v4 v5 h
 | _, _, _ => False
@[simp] def z7.k6 (C : CSem) (N : Nat → Nat) (Q : AVal → zb → Prop) (Y1 : List AVal → zb → Prop) (v0 v3 v4 : AVal) (h : zb) : Prop :=
 B.pv (V.bin .add v3 (.int .i64 1)) fun v18 =>
  B.pv (V.idxS 4 v0 v4) fun v21 =>
  B.pv (V.fieldAddr 0 v21) fun v22 =>
  B.ld h v22 fun v23 =>
  B.pv (V.zht v23) fun v24 =>
  B.pv (V.bin .quo v24 (.int .i64 20)) fun v25 =>
  B.pv (V.bin .add v18 v25) fun v26 =>
  B.pv (V.idxS 4 v0 v4) fun v29 =>
  B.pv (V.fieldAddr 2 v29) fun v30 =>
  B.ld h v30 fun v31 =>
  B.pv (V.zw v31) fun v32 =>
  B.pv (V.bin .add v26 v32) fun v33 =>
  B.pv (V.idxS 4 v0 v4) fun v36 =>
  B.pv (V.fieldAddr 3 v36) fun v37 =>
  B.ld h v37 fun v38 =>
  B.pv (V.zw v38) fun v39 =>
  B.pv (V.bin .add v33 v39) fun v40 =>
  zd (z7.l5 C N Q Y1 v0 v4) [v40, (.int .i64 0)] h
@[simp] def z7.k7 (C : CSem) (N : Nat → Nat) (Q : AVal → zb → Prop) (Y1 : List AVal → zb → Prop) (v0 v3 v4 : AVal) (h : zb) : Prop :=
 B.pv (V.zw v0) fun v9 =>
  B.pv (V.bin .lss v4 v9) fun v10 =>
  B.gd h v10 true (fun K => K v3 h) fun v12 h =>
  B.gd h v10 true (fun K => B.pv (V.bin .leq v12 (.int .i64 4000)) fun v => K v h) fun v13 h =>
  B.pick v10 v13 (.bool false) fun v14 =>
  B.cond v14
  (z7.k6 C N Q Y1 v0 v3 v4 h)
  (z7.k1 C N Q v0 v3 h)
@[simp] def z7.l8 (C : CSem) (N : Nat → Nat) (Q : AVal → zb → Prop) (v0 : AVal) : List AVal → zb → (List AVal → zb → Prop) → Prop
 | [v3, v4], h, Y1 => z7.k7 C N Q Y1 v0 v3 v4 h
 | _, _, _ => False
@[simp] def z7.cps (C : CSem) (N : Nat → Nat) (v0 : AVal) (h : zb) (Q : AVal → zb → Prop) : Prop :=
 zd (z7.l8 C N Q v0) [(.int .i64 0), (.int .i64 0)] h
def z7.Imp (C : CSem) (N : Nat → Nat) : Prop := ∀ (v0 : AVal) (h : zb) (Q : AVal → zb → Prop), z7.cps C N v0 h (dn Q) → C (N 357) [v0] h Q
@[simp] def zd4.k1 (C : CSem) (N : Nat → Nat) (Q : AVal → zb → Prop) (h : zb) : Prop :=
 B.newO h (zep [(0, none, (.str [67])), (1, none, (.str [66]))] (repL 2 [.str []])) fun i1 h =>
  B.call C (N 360) [(.sl i1 0 0 2 1 2)] h fun v2 h =>
  B.call C (N 355) [v2, (.str [65])] h fun v3 h =>
  B.newO h (zep [(0, none, (.str [65])), (1, none, (.str [67])), (2, none, (.str [66]))] (repL 3 [.str []])) fun i4 h =>
  B.call C (N 133) [v3, (.sl i4 0 0 3 1 3)] h fun v5 h =>
  B.gd h v5 true (fun K => B.call C (N 360) [.nils] h K) fun v7 h =>
  B.gd h v5 true (fun K => B.call C (N 355) [v7, (.str [90])] h K) fun v8 h =>
  B.gd h v5 true (fun K => B.pv (V.zw v8) fun v => K v h) fun v9 h =>
  B.gd h v5 true (fun K => B.pv (V.bin .eql v9 (.int .i64 0)) fun v => K v h) fun v10 h =>
  B.pick v5 v10 (.bool false) fun v11 =>
  B.gd h v11 true (fun K => B.newO h (zep [(0, none, (.str [67])), (1, none, (.str [66]))] (repL 2 [.str []])) fun i h => K (.sl i 0 0 2 1 2) h) fun v13 h =>
  B.gd h v11 true (fun K => B.call C (N 360) [v13] h K) fun v14 h =>
  B.gd h v11 true (fun K => B.call C (N 353) [v14] h K) fun v15 h =>
  B.gd h v11 true (fun K => B.pv (V.bin .eql v15 (.int .i64 0)) fun v => K v h) fun v16 h =>
  B.pick v11 v16 (.bool false) fun v17 =>
  B.gd h v17 true (fun K => B.newO h (zep [(0, none, (.str [65]))] (repL 1 [.str []])) fun i h => K (.sl i 0 0 1 1 1) h) fun v19 h =>
  B.gd h v17 true (fun K => B.call C (N 360) [v19] h K) fun v20 h =>
  B.gd h v17 true (fun K => B.call C (N 353) [v20] h K) fun v21 h =>
  B.gd h v17 true (fun K => B.pv (V.bin .eql v21 (.int .i64 4)) fun v => K v h) fun v22 h =>
  B.pick v17 v22 (.bool false) fun v23 =>
  B.gd h v23 true (fun K => B.newO h (zep [(0, none, (.str [90]))] (repL 1 [.str []])) fun i h => K (.sl i 0 0 1 1 1) h) fun v25 h =>
  B.gd h v23 true (fun K => B.call C (N 360) [v25] h K) fun v26 h =>
  B.gd h v23 true (fun K => B.call C (N 353) [v26] h K) fun v27 h =>
  B.gd h v23 true (fun K => B.pv (V.bin .eql v27 (.int .i64 150)) fun v => K v h) fun v28 h =>
  B.pick v23 v28 (.bool false) fun v29 =>
  Q v29 h
@[simp] def zd4.cps (C : CSem) (N : Nat → Nat) (h : zb) (Q : AVal → zb → Prop) : Prop :=
 zd4.k1 C N Q h
def zd4.Imp (C : CSem) (N : Nat → Nat) : Prop := ∀ (h : zb) (Q : AVal → zb → Prop), zd4.cps C N h (dn Q) → C (N 358) [] h Q
@[simp] def zd0.k1 (C : CSem) (N : Nat → Nat) (Q : AVal → zb → Prop) (v0 : AVal) (h : zb) : Prop :=
 B.pv (A.bld [(0, none, (.str [65])), (1, none, (.int .i64 1)), (3, none, v0)] [.str [], .int .i64 0, .nils, .nils]) fun v4 =>
  B.pv (A.bld [(0, none, (.str [66])), (1, none, (.int .i64 1))] [.str [], .int .i64 0, .nils, .nils]) fun v5 =>
  B.pv (A.bld [(0, none, (.str [67])), (1, none, (.int .i64 1))] [.str [], .int .i64 0, .nils, .nils]) fun v6 =>
  B.newO h (zep [(0, some 4, v4), (4, some 4, v5), (8, some 4, v6)] (repL 3 [.str [], .int .i64 0, .nils, .nils])) fun i7 h =>
  Q (.sl i7 0 0 3 4 3) h
@[simp] def zd0.cps (C : CSem) (N : Nat → Nat) (v0 : AVal) (h : zb) (Q : AVal → zb → Prop) : Prop :=
 zd0.k1 C N Q v0 h
def zd0.Imp (C : CSem) (N : Nat → Nat) : Prop := ∀ (v0 : AVal) (h : zb) (Q : AVal → zb → Prop), zd0.cps C N v0 h (dn Q) → C (N 360) [v0] h Q
@[simp] def zcu.k1 (C : CSem) (N : Nat → Nat) (Q : AVal → zb → Prop) (v0 v1 : AVal) (h : zb) : Prop :=
 B.call C (N 357) [v0] h fun v10 h =>
  B.gd h v10 false (fun K => K v1 h) fun v12 h =>
  B.gd h v10 false (fun K => B.pv (V.zht v12) fun v => K v h) fun v13 h =>
  B.gd h v10 false (fun K => B.pv (V.bin .gtr v13 (.int .i64 10000)) fun v => K v h) fun v14 h =>
  B.pick v10 (.bool true) v14 fun v15 =>
  B.cond v15
  (B.call C (N 358) [] h fun v16 h =>
  Q v16 h)
  (B.call C (N 391) [v0] h fun v18 h =>
  B.call C (N 353) [v18] h fun v20 h =>
  B.call C (N 355) [v18, v1] h fun v23 h =>
  B.call C (N 355) [v18, v1] h fun v26 h =>
  B.call C (N 392) [v18, v0] h fun v29 h =>
  B.pv (V.un .not v29) fun v30 =>
  B.cond v30
  (Q (.bool false) h)
  (B.call C (N 393) [v18] h fun v32 h =>
  B.call C (N 394) [v0] h fun v35 h =>
  B.pv (V.bin .eql v20 v35) fun v36 =>
  B.gd h v36 true (fun K => K v23 h) fun v38 h =>
  B.gd h v36 true (fun K => K v0 h) fun v39 h =>
  B.gd h v36 true (fun K => K v1 h) fun v40 h =>
  B.gd h v36 true (fun K => B.call C (N 395) [v39, v40] h K) fun v41 h =>
  B.gd h v36 true (fun K => B.call C (N 133) [v38, v41] h K) fun v42 h =>
  B.pick v36 v42 (.bool false) fun v43 =>
  B.gd h v43 true (fun K => K v23 h) fun v45 h =>
  B.gd h v43 true (fun K => K v26 h) fun v46 h =>
  B.gd h v43 true (fun K => B.newO h (zep [(0, none, v45), (1, none, v46)] (repL 2 [.nils])) fun i h => K (.sl i 0 0 2 1 2) h) fun v47 h =>
  B.gd h v43 true (fun K => B.call C (N 396) [v47] h K) fun v48 h =>
  B.pick v43 v48 (.bool false) fun v49 =>
  B.gd h v49 true (fun K => B.call C (N 358) [] h K) fun v51 h =>
  B.pick v49 v51 (.bool false) fun v52 =>
  Q v52 h))
@[simp] def zcu.cps (C : CSem) (N : Nat → Nat) (v0 v1 : AVal) (h : zb) (Q : AVal → zb → Prop) : Prop :=
 zcu.k1 C N Q v0 v1 h
def zcu.Imp (C : CSem) (N : Nat → Nat) : Prop := ∀ (v0 v1 : AVal) (h : zb) (Q : AVal → zb → Prop), zcu.cps C N v0 v1 h (dn Q) → C (N 397) [v0, v1] h Q
@[simp] def zj.k1 (C : CSem) (N : Nat → Nat) (Q : AVal → zb → Prop) (Y1 : List AVal → zb → Prop) (v4 v5 : AVal) (h : zb) : Prop :=
 B.pv (V.zw v4) fun v89 =>
  B.pv (V.bin .lss v5 v89) fun v90 =>
  B.cond v90
  (B.pv (V.idxS 1 v4 v5) fun v95 =>
  B.ld h v95 fun v96 =>
  B.call C (N 360) [v96] h fun v97 h =>
  B.call C (N 397) [v97, (.str [65])] h fun v99 h =>
  B.pv (V.un .not v99) fun v100 =>
  B.gd h v100 false (fun K => K v97 h) fun v102 h =>
  B.gd h v100 false (fun K => B.call C (N 397) [v102, (.str [66])] h K) fun v103 h =>
  B.gd h v100 false (fun K => B.pv (V.un .not v103) fun v => K v h) fun v104 h =>
  B.pick v100 (.bool true) v104 fun v105 =>
  B.gd h v105 false (fun K => K v97 h) fun v107 h =>
  B.gd h v105 false (fun K => B.call C (N 397) [v107, (.str [])] h K) fun v108 h =>
  B.gd h v105 false (fun K => B.pv (V.un .not v108) fun v => K v h) fun v109 h =>
  B.pick v105 (.bool true) v109 fun v110 =>
  B.gd h v110 false (fun K => K v97 h) fun v112 h =>
  B.gd h v110 false (fun K => B.pv (V.zfe 4 v112 (some (.int .i64 1)) none) fun v => K v h) fun v113 h =>
  B.gd h v110 false (fun K => B.call C (N 397) [v113, (.str [65])] h K) fun v114 h =>
  B.gd h v110 false (fun K => B.pv (V.un .not v114) fun v => K v h) fun v115 h =>
  B.pick v110 (.bool true) v115 fun v116 =>
  B.cond v116
  (Q (.bool false) h)
  (B.pv (A.bld [(0, none, (.str [67])), (1, none, (.int .i64 1))] [.str [], .int .i64 0]) fun v118 =>
  B.newO h (zep [(0, some 2, v118)] (repL 1 [.str [], .int .i64 0])) fun i119 h =>
  B.pv (V.idxS 4 v97 (.int .i64 1)) fun v120 =>
  B.pv (V.fieldAddr 2 v120) fun v121 =>
  B.st h v121 (.sl i119 0 0 1 2 1) fun h =>
  B.call C (N 397) [v97, (.str [65])] h fun v123 h =>
  B.pv (V.un .not v123) fun v124 =>
  B.cond v124
  (Q (.bool false) h)
  (B.pv (V.idxS 4 v97 (.int .i64 1)) fun v126 =>
  B.pv (V.fieldAddr 1 v126) fun v127 =>
  B.st h v127 (.int .i64 0) fun h =>
  B.call C (N 397) [v97, (.str [65])] h fun v129 h =>
  B.pv (V.un .not v129) fun v130 =>
  B.cond v130
  (Q (.bool false) h)
  (B.pv (V.bin .add v5 (.int .i64 1)) fun v92 =>
  Y1 [v92] h))))
  (B.call C (N 358) [] h fun v131 h =>
  Q v131 h)
@[simp] def zj.l2 (C : CSem) (N : Nat → Nat) (Q : AVal → zb → Prop) (v4 : AVal) : List AVal → zb → (List AVal → zb → Prop) → Prop
 | [v5], h, Y1 => zj.k1 C N Q Y1 v4 v5 h
 | _, _, _ => False
@[simp] def zj.k3 (C : CSem) (N : Nat → Nat) (Q : AVal → zb → Prop) (h : zb) : Prop :=
 B.newO h (zep [(0, none, (.str [65]))] (repL 1 [.str []])) fun i79 h =>
  B.newO h (zep [(0, none, (.str [66]))] (repL 1 [.str []])) fun i80 h =>
  B.newO h (zep [(0, none, (.str [67])), (1, none, (.str [66]))] (repL 2 [.str []])) fun i81 h =>
  B.newO h (zep [(0, none, (.str [66])), (1, none, (.str [67])), (2, none, (.str [66]))] (repL 3 [.str []])) fun i82 h =>
  B.newO h (zep [(0, none, (.str [90]))] (repL 1 [.str []])) fun i83 h =>
  B.newO h (zep [(0, none, (.str []))] (repL 1 [.str []])) fun i84 h =>
  B.newO h (zep [(0, none, (.str [66])), (1, none, (.str [90])), (2, none, (.str [90]))] (repL 3 [.str []])) fun i85 h =>
  B.newO h (zep [(0, none, .nils), (1, none, (.sl i79 0 0 1 1 1)), (2, none, (.sl i80 0 0 1 1 1)), (3, none, (.sl i81 0 0 2 1 2)), (4, none, (.sl i82 0 0 3 1 3)), (5, none, (.sl i83 0 0 1 1 1)), (6, none, (.sl i84 0 0 1 1 1)), (7, none, (.sl i85 0 0 3 1 3))] (repL 8 [.nils])) fun i86 h =>
  zd (zj.l2 C N Q (.sl i86 0 0 8 1 8)) [(.int .i64 0)] h
@[simp] def zj.k4 (C : CSem) (N : Nat → Nat) (Q : AVal → zb → Prop) (v1 v2 v3 : AVal) (h : zb) : Prop :=
 B.call C (N 353) [v1] h fun v39 h =>
  B.pv (V.bin .neq v39 (.int .i64 4)) fun v40 =>
  B.gd h v40 false (fun K => B.newO h (zep [(0, none, (.str [66])), (1, none, (.str [66]))] (repL 2 [.str []])) fun i h => K (.sl i 0 0 2 1 2) h) fun v42 h =>
  B.gd h v40 false (fun K => B.call C (N 360) [v42] h K) fun v43 h =>
  B.gd h v40 false (fun K => B.call C (N 353) [v43] h K) fun v44 h =>
  B.gd h v40 false (fun K => B.pv (V.bin .neq v44 (.int .i64 4)) fun v => K v h) fun v45 h =>
  B.pick v40 (.bool true) v45 fun v46 =>
  B.gd h v46 false (fun K => B.newO h (zep [(0, none, (.str [65]))] (repL 1 [.str []])) fun i h => K (.sl i 0 0 1 1 1) h) fun v48 h =>
  B.gd h v46 false (fun K => B.call C (N 360) [v48] h K) fun v49 h =>
  B.gd h v46 false (fun K => B.call C (N 353) [v49] h K) fun v50 h =>
  B.gd h v46 false (fun K => B.pv (V.bin .neq v50 (.int .i64 4)) fun v => K v h) fun v51 h =>
  B.pick v46 (.bool true) v51 fun v52 =>
  B.gd h v52 false (fun K => B.newO h (zep [(0, none, (.str []))] (repL 1 [.str []])) fun i h => K (.sl i 0 0 1 1 1) h) fun v54 h =>
  B.gd h v52 false (fun K => B.call C (N 360) [v54] h K) fun v55 h =>
  B.gd h v52 false (fun K => B.call C (N 353) [v55] h K) fun v56 h =>
  B.gd h v52 false (fun K => B.pv (V.bin .neq v56 (.int .i64 150)) fun v => K v h) fun v57 h =>
  B.pick v52 (.bool true) v57 fun v58 =>
  B.gd h v58 false (fun K => K v2 h) fun v60 h =>
  B.gd h v58 false (fun K => B.call C (N 353) [v60] h K) fun v61 h =>
  B.gd h v58 false (fun K => B.pv (V.bin .neq v61 (.int .i64 4)) fun v => K v h) fun v62 h =>
  B.pick v58 (.bool true) v62 fun v63 =>
  B.gd h v63 false (fun K => K v3 h) fun v65 h =>
  B.gd h v63 false (fun K => B.call C (N 353) [v65] h K) fun v66 h =>
  B.gd h v63 false (fun K => B.pv (V.bin .neq v66 (.int .i64 4)) fun v => K v h) fun v67 h =>
  B.pick v63 (.bool true) v67 fun v68 =>
  B.gd h v68 false (fun K => K v3 h) fun v70 h =>
  B.gd h v68 false (fun K => B.call C (N 355) [v70, (.str [65])] h K) fun v71 h =>
  B.gd h v68 false (fun K => B.pv (V.zw v71) fun v => K v h) fun v72 h =>
  B.gd h v68 false (fun K => B.pv (V.bin .neq v72 (.int .i64 2)) fun v => K v h) fun v73 h =>
  B.pick v68 (.bool true) v73 fun v74 =>
  B.gd h v74 false (fun K => B.call C (N 353) [.nils] h K) fun v76 h =>
  B.gd h v74 false (fun K => B.pv (V.bin .neq v76 (.int .i64 0)) fun v => K v h) fun v77 h =>
  B.pick v74 (.bool true) v77 fun v78 =>
  B.cond v78
  (Q (.bool false) h)
  (zj.k3 C N Q h)
@[simp] def zj.k5 (C : CSem) (N : Nat → Nat) (Q : AVal → zb → Prop) (v1 v2 : AVal) (h : zb) : Prop :=
 B.newO h (zep [(0, none, (.str [67]))] (repL 1 [.str []])) fun i33 h =>
  B.call C (N 360) [(.sl i33 0 0 1 1 1)] h fun v34 h =>
  B.newO h (zep [(0, none, (.str [66]))] (repL 1 [.str []])) fun i35 h =>
  B.call C (N 360) [(.sl i35 0 0 1 1 1)] h fun v36 h =>
  B.appW h 4 72 v34 v36 fun v37 h =>
  zj.k4 C N Q v1 v2 v37 h
@[simp] def zj.k6 (C : CSem) (N : Nat → Nat) (Q : AVal → zb → Prop) (v1 v2 : AVal) (h : zb) : Prop :=
 B.newO h (zep [(0, none, (.str [66]))] (repL 1 [.str []])) fun i30 h =>
  B.pv (V.idxS 4 v2 (.int .i64 1)) fun v31 =>
  B.pv (V.fieldAddr 3 v31) fun v32 =>
  B.st h v32 (.sl i30 0 0 1 1 1) fun h =>
  zj.k5 C N Q v1 v2 h
@[simp] def zj.k7 (C : CSem) (N : Nat → Nat) (Q : AVal → zb → Prop) (v1 : AVal) (h : zb) : Prop :=
 B.newO h (zep [(0, none, (.str [90]))] (repL 1 [.str []])) fun i27 h =>
  B.call C (N 360) [(.sl i27 0 0 1 1 1)] h fun v28 h =>
  zj.k6 C N Q v1 v28 h
@[simp] def zj.k8 (C : CSem) (N : Nat → Nat) (Q : AVal → zb → Prop) (v1 : AVal) (h : zb) : Prop :=
 B.newO h (zep [(0, none, (.str [65])), (1, none, (.str [66])), (2, none, (.str [67])), (3, none, (.str [68])), (4, none, (.str [69]))] (repL 5 [.str []])) fun i24 h =>
  B.pv (V.idxS 4 v1 (.int .i64 5)) fun v25 =>
  B.pv (V.fieldAddr 3 v25) fun v26 =>
  B.st h v26 (.sl i24 0 0 5 1 5) fun h =>
  zj.k7 C N Q v1 h
@[simp] def zj.k9 (C : CSem) (N : Nat → Nat) (Q : AVal → zb → Prop) (v1 : AVal) (h : zb) : Prop :=
 B.call C (N 353) [v1] h fun v16 h =>
  B.pv (V.bin .neq v16 (.int .i64 0)) fun v17 =>
  B.gd h v17 false (fun K => K v1 h) fun v19 h =>
  B.gd h v17 false (fun K => B.call C (N 397) [v19, (.str [70])] h K) fun v20 h =>
  B.gd h v17 false (fun K => B.pv (V.un .not v20) fun v => K v h) fun v21 h =>
  B.pick v17 (.bool true) v21 fun v22 =>
  B.cond v22
  (Q (.bool false) h)
  (zj.k8 C N Q v1 h)
@[simp] def zj.k10 (C : CSem) (N : Nat → Nat) (Q : AVal → zb → Prop) (h : zb) : Prop :=
 B.pv (A.bld [(0, none, (.str [65])), (1, none, (.int .i64 1))] [.str [], .int .i64 0, .nils, .nils]) fun v7 =>
  B.pv (A.bld [(0, none, (.str [66])), (1, none, (.int .i64 1))] [.str [], .int .i64 0, .nils, .nils]) fun v8 =>
  B.pv (A.bld [(0, none, (.str [67])), (1, none, (.int .i64 1))] [.str [], .int .i64 0, .nils, .nils]) fun v9 =>
  B.pv (A.bld [(0, none, (.str [68])), (1, none, (.int .i64 1))] [.str [], .int .i64 0, .nils, .nils]) fun v10 =>
  B.pv (A.bld [(0, none, (.str [69])), (1, none, (.int .i64 1))] [.str [], .int .i64 0, .nils, .nils]) fun v11 =>
  B.newO h (zep [(0, none, (.str [65])), (1, none, (.str [66])), (2, none, (.str [67])), (3, none, (.str [68]))] (repL 4 [.str []])) fun i12 h =>
  B.pv (A.bld [(0, none, (.str [70])), (1, none, (.int .i64 1)), (3, none, (.sl i12 0 0 4 1 4))] [.str [], .int .i64 0, .nils, .nils]) fun v13 =>
  B.newO h (zep [(0, some 4, v7), (4, some 4, v8), (8, some 4, v9), (12, some 4, v10), (16, some 4, v11), (20, some 4, v13)] (repL 6 [.str [], .int .i64 0, .nils, .nils])) fun i14 h =>
  zj.k9 C N Q (.sl i14 0 0 6 4 6) h
@[simp] def zj.cps (C : CSem) (N : Nat → Nat) (h : zb) (Q : AVal → zb → Prop) : Prop :=
 zj.k10 C N Q h
def zj.Imp (C : CSem) (N : Nat → Nat) : Prop := ∀ (h : zb) (Q : AVal → zb → Prop), zj.cps C N h (dn Q) → C (N 398) [] h Q
@[simp] def zds.k1 (C : CSem) (N : Nat → Nat) (Q : AVal → zb → Prop) (v0 : AVal) (h : zb) : Prop :=
 B.cond (.bool false)
  (B.pv (V.toInt .u32 v0) fun v4 =>
  B.call C (N 304) [v4] h fun v5 h =>
  Q v5 h)
  (B.call C (N 305) [v0] h fun v7 h =>
  Q v7 h)
@[simp] def zds.cps (C : CSem) (N : Nat → Nat) (v0 : AVal) (h : zb) (Q : AVal → zb → Prop) : Prop :=
 zds.k1 C N Q v0 h
def zds.Imp (C : CSem) (N : Nat → Nat) : Prop := ∀ (v0 : AVal) (h : zb) (Q : AVal → zb → Prop), zds.cps C N v0 h (dn Q) → C (N 287) [v0] h Q
@[simp] def zbr.k1 (C : CSem) (N : Nat → Nat) (Q : AVal → zb → Prop) (v0 v2 : AVal) (h : zb) : Prop :=
 B.pv (V.toInt .u8 v0) fun v21 =>
  B.pv (V.zh6 (.str [0, 1, 2, 2, 3, 3, 3, 3, 4, 4, 4, 4, 4, 4, 4, 4, 5, 5, 5, 5, 5, 5, 5, 5, 5, 5, 5, 5, 5, 5, 5, 5, 6, 6, 6, 6, 6, 6, 6, 6, 6, 6, 6, 6, 6, 6, 6, 6, 6, 6, 6, 6, 6, 6, 6, 6, 6, 6, 6, 6, 6, 6, 6, 6, 7, 7, 7, 7, 7, 7, 7, 7, 7, 7, 7, 7, 7, 7, 7, 7, 7, 7, 7, 7, 7, 7, 7, 7, 7, 7, 7, 7, 7, 7, 7, 7, 7, 7, 7, 7, 7, 7, 7, 7, 7, 7, 7, 7, 7, 7, 7, 7, 7, 7, 7, 7, 7, 7, 7, 7, 7, 7, 7, 7, 7, 7, 7, 7, 8, 8, 8, 8, 8, 8, 8, 8, 8, 8, 8, 8, 8, 8, 8, 8, 8, 8, 8, 8, 8, 8, 8, 8, 8, 8, 8, 8, 8, 8, 8, 8, 8, 8, 8, 8, 8, 8, 8, 8, 8, 8, 8, 8, 8, 8, 8, 8, 8, 8, 8, 8, 8, 8, 8, 8, 8, 8, 8, 8, 8, 8, 8, 8, 8, 8, 8, 8, 8, 8, 8, 8, 8, 8, 8, 8, 8, 8, 8, 8, 8, 8, 8, 8, 8, 8, 8, 8, 8, 8, 8, 8, 8, 8, 8, 8, 8, 8, 8, 8, 8, 8, 8, 8, 8, 8, 8, 8, 8, 8, 8, 8, 8, 8, 8, 8, 8, 8, 8, 8, 8, 8, 8, 8, 8, 8, 8, 8]) v21) fun v22 =>
  B.pv (V.toInt .i64 v22) fun v23 =>
  B.pv (V.bin .add v2 v23) fun v24 =>
  Q v24 h
@[simp] def zbr.k2 (C : CSem) (N : Nat → Nat) (Q : AVal → zb → Prop) (v0 v2 : AVal) (h : zb) : Prop :=
 B.pv (V.bin .geq v0 (.int .u64 256)) fun v14 =>
  B.cond v14
  (B.pv (V.bin .shr v0 (.int .u64 8)) fun v16 =>
  B.pv (V.bin .add v2 (.int .i64 8)) fun v18 =>
  zbr.k1 C N Q v16 v18 h)
  (zbr.k1 C N Q v0 v2 h)
@[simp] def zbr.k3 (C : CSem) (N : Nat → Nat) (Q : AVal → zb → Prop) (v0 v2 : AVal) (h : zb) : Prop :=
 B.pv (V.bin .geq v0 (.int .u64 65536)) fun v8 =>
  B.cond v8
  (B.pv (V.bin .shr v0 (.int .u64 16)) fun v10 =>
  B.pv (V.bin .add v2 (.int .i64 16)) fun v12 =>
  zbr.k2 C N Q v10 v12 h)
  (zbr.k2 C N Q v0 v2 h)
@[simp] def zbr.k4 (C : CSem) (N : Nat → Nat) (Q : AVal → zb → Prop) (v0 v2 : AVal) (h : zb) : Prop :=
 B.pv (V.bin .geq v0 (.int .u64 4294967296)) fun v4 =>
  B.cond v4
  (B.pv (V.bin .shr v0 (.int .u64 32)) fun v6 =>
  zbr.k3 C N Q v6 (.int .i64 32) h)
  (zbr.k3 C N Q v0 v2 h)
@[simp] def zbr.cps (C : CSem) (N : Nat → Nat) (v0 : AVal) (h : zb) (Q : AVal → zb → Prop) : Prop :=
 zbr.k4 C N Q v0 (.int .i64 0) h
def zbr.Imp (C : CSem) (N : Nat → Nat) : Prop := ∀ (v0 : AVal) (h : zb) (Q : AVal → zb → Prop), zbr.cps C N v0 h (dn Q) → C (N 305) [v0] h Q
@[simp] def zc9.k1 (C : CSem) (N : Nat → Nat) (Q : AVal → zb → Prop) (Y1 : List AVal → zb → Prop) (v0 v3 : AVal) (h : zb) : Prop :=
 B.pv (V.zht v0) fun v16 =>
  B.pv (V.bin .lss v3 v16) fun v17 =>
  B.cond v17
  (B.pv (V.zh6 v0 v3) fun v22 =>
  B.pv (V.bin .geq v22 (.int .u8 65)) fun v23 =>
  B.gd h v23 true (fun K => K v0 h) fun v25 h =>
  B.gd h v23 true (fun K => K v3 h) fun v26 h =>
  B.gd h v23 true (fun K => B.pv (V.zh6 v25 v26) fun v => K v h) fun v27 h =>
  B.gd h v23 true (fun K => B.pv (V.bin .leq v27 (.int .u8 90)) fun v => K v h) fun v28 h =>
  B.pick v23 v28 (.bool false) fun v29 =>
  B.pv (V.zh6 v0 v3) fun v32 =>
  B.pv (V.bin .geq v32 (.int .u8 48)) fun v33 =>
  B.gd h v33 true (fun K => K v0 h) fun v35 h =>
  B.gd h v33 true (fun K => K v3 h) fun v36 h =>
  B.gd h v33 true (fun K => B.pv (V.zh6 v35 v36) fun v => K v h) fun v37 h =>
  B.gd h v33 true (fun K => B.pv (V.bin .leq v37 (.int .u8 57)) fun v => K v h) fun v38 h =>
  B.pick v33 v38 (.bool false) fun v39 =>
  B.gd h v39 false (fun K => K v0 h) fun v41 h =>
  B.gd h v39 false (fun K => K v3 h) fun v42 h =>
  B.gd h v39 false (fun K => B.pv (V.zh6 v41 v42) fun v => K v h) fun v43 h =>
  B.gd h v39 false (fun K => B.pv (V.bin .eql v43 (.int .u8 45)) fun v => K v h) fun v44 h =>
  B.pick v39 (.bool true) v44 fun v45 =>
  B.pv (V.un .not v29) fun v47 =>
  B.gd h v47 true (fun K => K v3 h) fun v49 h =>
  B.gd h v47 true (fun K => B.pv (V.bin .eql v49 (.int .i64 0)) fun v => K v h) fun v50 h =>
  B.gd h v47 true (fun K => K v50 h) fun v51 h =>
  B.gd h v51 false (fun K => K v45 h) fun v52 h =>
  B.gd h v51 false (fun K => B.pv (V.un .not v52) fun v => K v h) fun v53 h =>
  B.gd h v47 true (fun K => B.pick v51 (.bool true) v53 fun v => K v h) fun v54 h =>
  B.pick v47 v54 (.bool false) fun v55 =>
  B.cond v55
  (Q (.bool false) h)
  (B.pv (V.bin .add v3 (.int .i64 1)) fun v19 =>
  Y1 [v19] h))
  (Q (.bool true) h)
@[simp] def zc9.l2 (C : CSem) (N : Nat → Nat) (Q : AVal → zb → Prop) (v0 : AVal) : List AVal → zb → (List AVal → zb → Prop) → Prop
 | [v3], h, Y1 => zc9.k1 C N Q Y1 v0 v3 h
 | _, _, _ => False
@[simp] def zc9.k3 (C : CSem) (N : Nat → Nat) (Q : AVal → zb → Prop) (v0 : AVal) (h : zb) : Prop :=
 B.pv (V.zht v0) fun v7 =>
  B.pv (V.bin .lss v7 (.int .i64 1)) fun v8 =>
  B.gd h v8 false (fun K => K v0 h) fun v10 h =>
  B.gd h v8 false (fun K => B.pv (V.zht v10) fun v => K v h) fun v11 h =>
  B.gd h v8 false (fun K => B.pv (V.bin .gtr v11 (.int .i64 12)) fun v => K v h) fun v12 h =>
  B.pick v8 (.bool true) v12 fun v13 =>
  B.cond v13
  (Q (.bool false) h)
  (zd (zc9.l2 C N Q v0) [(.int .i64 0)] h)
@[simp] def zc9.cps (C : CSem) (N : Nat → Nat) (v0 : AVal) (h : zb) (Q : AVal → zb → Prop) : Prop :=
 zc9.k3 C N Q v0 h
def zc9.Imp (C : CSem) (N : Nat → Nat) : Prop := ∀ (v0 : AVal) (h : zb) (Q : AVal → zb → Prop), zc9.cps C N v0 h (dn Q) → C (N 61) [v0] h Q
@[simp] def zdd.k1 (C : CSem) (N : Nat → Nat) (Q : AVal → zb → Prop) (Y1 : List AVal → zb → Prop) (v0 v1 v5 : AVal) (h : zb) : Prop :=
 B.pv (V.zw v0) fun v8 =>
  B.pv (V.bin .lss v5 v8) fun v9 =>
  B.cond v9
  (B.pv (V.idxS 4 v0 v5) fun v14 =>
  B.pv (V.fieldAddr 0 v14) fun v15 =>
  B.ld h v15 fun v16 =>
  B.pv (V.bin .eql v16 v1) fun v18 =>
  B.cond v18
  (Q v5 h)
  (B.pv (V.bin .add v5 (.int .i64 1)) fun v11 =>
  Y1 [v11] h))
  (Q (.int .i64 (-1)) h)
@[simp] def zdd.l2 (C : CSem) (N : Nat → Nat) (Q : AVal → zb → Prop) (v0 v1 : AVal) : List AVal → zb → (List AVal → zb → Prop) → Prop
 | [v5], h, Y1 => zdd.k1 C N Q Y1 v0 v1 v5 h
 | _, _, _ => False
@[simp] def zdd.cps (C : CSem) (N : Nat → Nat) (v0 v1 : AVal) (h : zb) (Q : AVal → zb → Prop) : Prop :=
 zd (zdd.l2 C N Q v0 v1) [(.int .i64 0)] h
def zdd.Imp (C : CSem) (N : Nat → Nat) : Prop := ∀ (v0 v1 : AVal) (h : zb) (Q : AVal → zb → Prop), zdd.cps C N v0 v1 h (dn Q) → C (N 402) [v0, v1] h Q
@[simp] def z3.k1 (C : CSem) (N : Nat → Nat) (Q : AVal → zb → Prop) (Y1 : List AVal → zb → Prop) (v6 v8 : AVal) (h : zb) : Prop :=
 B.pv (V.zw v6) fun v94 =>
  B.pv (V.bin .lss v8 v94) fun v95 =>
  B.cond v95
  (B.pv (V.idxS 1 v6 v8) fun v100 =>
  B.ld h v100 fun v101 =>
  B.pv (V.bin .gtr v101 (.int .i64 8)) fun v102 =>
  B.cond v102
  (Q (.int .i64 3) h)
  (B.pv (V.bin .add v8 (.int .i64 1)) fun v97 =>
  Y1 [v97] h))
  (Q (.int .i64 0) h)
@[simp] def z3.l2 (C : CSem) (N : Nat → Nat) (Q : AVal → zb → Prop) (v6 : AVal) : List AVal → zb → (List AVal → zb → Prop) → Prop
 | [v8], h, Y1 => z3.k1 C N Q Y1 v6 v8 h
 | _, _, _ => False
@[simp] def z3.k3 (C : CSem) (N : Nat → Nat) (Q : AVal → zb → Prop) (Y2 : List AVal → zb → Prop) (v6 v7 : AVal) (h : zb) : Prop :=
 B.pv (V.zw v6) fun v83 =>
  B.pv (V.bin .lss v7 v83) fun v84 =>
  B.cond v84
  (B.pv (V.idxS 1 v6 v7) fun v89 =>
  B.ld h v89 fun v90 =>
  B.pv (V.bin .eql v90 (.int .i64 0)) fun v91 =>
  B.cond v91
  (Q (.int .i64 152) h)
  (B.pv (V.bin .add v7 (.int .i64 1)) fun v86 =>
  Y2 [v86] h))
  (zd (z3.l2 C N Q v6) [(.int .i64 0)] h)
@[simp] def z3.l4 (C : CSem) (N : Nat → Nat) (Q : AVal → zb → Prop) (v6 : AVal) : List AVal → zb → (List AVal → zb → Prop) → Prop
 | [v7], h, Y2 => z3.k3 C N Q Y2 v6 v7 h
 | _, _, _ => False
@[simp] def z3.k5 (C : CSem) (N : Nat → Nat) (Q : AVal → zb → Prop) (Y3 : List AVal → zb → Prop) (Y4 : List AVal → zb → Prop) (v0 v4 v5 : AVal) (h : zb) : Prop :=
 B.pv (V.idxS 4 v0 v4) fun v60 =>
  B.pv (V.fieldAddr 2 v60) fun v61 =>
  B.ld h v61 fun v62 =>
  B.pv (V.zw v62) fun v63 =>
  B.pv (V.bin .lss v5 v63) fun v64 =>
  B.cond v64
  (B.pv (V.idxS 4 v0 v4) fun v70 =>
  B.pv (V.fieldAddr 2 v70) fun v71 =>
  B.ld h v71 fun v72 =>
  B.pv (V.idxS 2 v72 v5) fun v74 =>
  B.pv (V.fieldAddr 0 v74) fun v75 =>
  B.ld h v75 fun v76 =>
  B.call C (N 402) [v0, v76] h fun v77 h =>
  B.pv (V.bin .lss v77 (.int .i64 0)) fun v78 =>
  B.cond v78
  (Q (.int .i64 150) h)
  (B.pv (V.bin .add v5 (.int .i64 1)) fun v66 =>
  Y4 [v66] h))
  (B.pv (V.bin .add v4 (.int .i64 1)) fun v56 =>
  Y3 [v56] h)
@[simp] def z3.l6 (C : CSem) (N : Nat → Nat) (Q : AVal → zb → Prop) (Y3 : List AVal → zb → Prop) (v0 v4 : AVal) : List AVal → zb → (List AVal → zb → Prop) → Prop
 | [v5], h, Y4 => z3.k5 C N Q Y3 Y4 v0 v4 v5 h
 | _, _, _ => False
@[simp] def z3.k7 (C : CSem) (N : Nat → Nat) (Q : AVal → zb → Prop) (Y3 : List AVal → zb → Prop) (v0 v4 : AVal) (h : zb) : Prop :=
 B.pv (V.zw v0) fun v53 =>
  B.pv (V.bin .lss v4 v53) fun v54 =>
  B.cond v54
  (zd (z3.l6 C N Q Y3 v0 v4) [(.int .i64 0)] h)
  (B.call C (N 410) [v0] h fun v80 h =>
  zd (z3.l4 C N Q v80) [(.int .i64 0)] h)
@[simp] def z3.l8 (C : CSem) (N : Nat → Nat) (Q : AVal → zb → Prop) (v0 : AVal) : List AVal → zb → (List AVal → zb → Prop) → Prop
 | [v4], h, Y3 => z3.k7 C N Q Y3 v0 v4 h
 | _, _, _ => False
@[simp] def z3.k9 (C : CSem) (N : Nat → Nat) (Q : AVal → zb → Prop) (Y5 : List AVal → zb → Prop) (v0 v3 : AVal) (h : zb) : Prop :=
 B.pv (V.zw v0) fun v14 =>
  B.pv (V.bin .lss v3 v14) fun v15 =>
  B.cond v15
  (B.pv (V.idxS 4 v0 v3) fun v20 =>
  B.pv (V.fieldAddr 0 v20) fun v21 =>
  B.ld h v21 fun v22 =>
  B.call C (N 61) [v22] h fun v23 h =>
  B.pv (V.un .not v23) fun v24 =>
  B.gd h v24 false (fun K => K v3 h) fun v26 h =>
  B.gd h v24 false (fun K => B.pv (V.bin .gtr v26 (.int .i64 0)) fun v => K v h) fun v27 h =>
  B.gd h v24 false (fun K => K v27 h) fun v28 h =>
  B.gd h v28 true (fun K => K v0 h) fun v29 h =>
  B.gd h v28 true (fun K => K v3 h) fun v30 h =>
  B.gd h v28 true (fun K => B.pv (V.bin .sub v30 (.int .i64 1)) fun v => K v h) fun v31 h =>
  B.gd h v28 true (fun K => B.pv (V.idxS 4 v29 v31) fun v => K v h) fun v32 h =>
  B.gd h v28 true (fun K => B.pv (V.fieldAddr 0 v32) fun v => K v h) fun v33 h =>
  B.gd h v28 true (fun K => B.ld h v33 fun v => K v h) fun v34 h =>
  B.gd h v28 true (fun K => K v0 h) fun v35 h =>
  B.gd h v28 true (fun K => K v3 h) fun v36 h =>
  B.gd h v28 true (fun K => B.pv (V.idxS 4 v35 v36) fun v => K v h) fun v37 h =>
  B.gd h v28 true (fun K => B.pv (V.fieldAddr 0 v37) fun v => K v h) fun v38 h =>
  B.gd h v28 true (fun K => B.ld h v38 fun v => K v h) fun v39 h =>
  B.gd h v28 true (fun K => B.pv (V.bin .geq v34 v39) fun v => K v h) fun v40 h =>
  B.gd h v24 false (fun K => B.pick v28 v40 (.bool false) fun v => K v h) fun v41 h =>
  B.pick v24 (.bool true) v41 fun v42 =>
  B.gd h v42 false (fun K => K v0 h) fun v44 h =>
  B.gd h v42 false (fun K => K v3 h) fun v45 h =>
  B.gd h v42 false (fun K => B.pv (V.idxS 4 v44 v45) fun v => K v h) fun v46 h =>
  B.gd h v42 false (fun K => B.ldn h v46 4 fun v => K v h) fun v47 h =>
  B.gd h v42 false (fun K => B.call C (N 411) [v47] h K) fun v48 h =>
  B.gd h v42 false (fun K => B.pv (V.un .not v48) fun v => K v h) fun v49 h =>
  B.pick v42 (.bool true) v49 fun v50 =>
  B.cond v50
  (Q (.int .i64 4) h)
  (B.pv (V.bin .add v3 (.int .i64 1)) fun v17 =>
  Y5 [v17] h))
  (zd (z3.l8 C N Q v0) [(.int .i64 0)] h)
@[simp] def z3.l10 (C : CSem) (N : Nat → Nat) (Q : AVal → zb → Prop) (v0 : AVal) : List AVal → zb → (List AVal → zb → Prop) → Prop
 | [v3], h, Y5 => z3.k9 C N Q Y5 v0 v3 h
 | _, _, _ => False
@[simp] def z3.k11 (C : CSem) (N : Nat → Nat) (Q : AVal → zb → Prop) (v0 : AVal) (h : zb) : Prop :=
 B.pv (V.zw v0) fun v10 =>
  B.pv (V.bin .gtr v10 (.int .i64 60)) fun v11 =>
  B.cond v11
  (Q (.int .i64 3) h)
  (zd (z3.l10 C N Q v0) [(.int .i64 0)] h)
@[simp] def z3.cps (C : CSem) (N : Nat → Nat) (v0 : AVal) (h : zb) (Q : AVal → zb → Prop) : Prop :=
 z3.k11 C N Q v0 h
def z3.Imp (C : CSem) (N : Nat → Nat) : Prop := ∀ (v0 : AVal) (h : zb) (Q : AVal → zb → Prop), z3.cps C N v0 h (dn Q) → C (N 404) [v0] h Q
@[simp] def zch.k1 (C : CSem) (N : Nat → Nat) (Q : AVal → zb → Prop) (Y1 : List AVal → zb → Prop) (Y2 : List AVal → zb → Prop) (Y3 : List AVal → zb → Prop) (v0 v3 v4 v5 v6 v7 : AVal) (h : zb) : Prop :=
 B.pv (V.idxS 4 v0 v5) fun v27 =>
  B.pv (V.fieldAddr 2 v27) fun v28 =>
  B.ld h v28 fun v29 =>
  B.pv (V.zw v29) fun v30 =>
  B.pv (V.bin .lss v7 v30) fun v31 =>
  B.cond v31
  (B.pv (V.idxS 4 v0 v5) fun v38 =>
  B.pv (V.fieldAddr 2 v38) fun v39 =>
  B.ld h v39 fun v40 =>
  B.pv (V.idxS 2 v40 v7) fun v42 =>
  B.pv (V.fieldAddr 0 v42) fun v43 =>
  B.ld h v43 fun v44 =>
  B.call C (N 402) [v0, v44] h fun v45 h =>
  B.pv (V.idxS 1 v3 v45) fun v46 =>
  B.ld h v46 fun v47 =>
  B.pv (V.bin .eql v47 (.int .i64 0)) fun v49 =>
  B.cond v49
  (B.pv (V.idxS 1 v3 v5) fun v57 =>
  B.st h v57 (.int .i64 0) fun h =>
  B.pv (V.bin .add v5 (.int .i64 1)) fun v23 =>
  Y2 [v23] h)
  (B.pv (V.bin .add v47 (.int .i64 1)) fun v52 =>
  B.pv (V.max2 v6 v52) fun v53 =>
  B.pv (V.bin .add v7 (.int .i64 1)) fun v33 =>
  Y3 [v53, v33] h))
  (B.pv (V.idxS 1 v3 v5) fun v57 =>
  B.st h v57 v6 fun h =>
  B.pv (V.bin .add v5 (.int .i64 1)) fun v23 =>
  Y2 [v23] h)
@[simp] def zch.l2 (C : CSem) (N : Nat → Nat) (Q : AVal → zb → Prop) (Y1 : List AVal → zb → Prop) (Y2 : List AVal → zb → Prop) (v0 v3 v4 v5 : AVal) : List AVal → zb → (List AVal → zb → Prop) → Prop
 | [v6, v7], h, Y3 => zch.k1 C N Q Y1 Y2 Y3 v0 v3 v4 v5 v6 v7 h
 | _, _, _ => False
@[simp] def zch.k3 (C : CSem) (N : Nat → Nat) (Q : AVal → zb → Prop) (Y1 : List AVal → zb → Prop) (Y2 : List AVal → zb → Prop) (v0 v3 v4 v5 : AVal) (h : zb) : Prop :=
 B.pv (V.zw v0) fun v20 =>
  B.pv (V.bin .lss v5 v20) fun v21 =>
  B.cond v21
  (zd (zch.l2 C N Q Y1 Y2 v0 v3 v4 v5) [(.int .i64 1), (.int .i64 0)] h)
  (B.pv (V.bin .add v4 (.int .i64 1)) fun v17 =>
  Y1 [v17] h)
@[simp] def zch.l4 (C : CSem) (N : Nat → Nat) (Q : AVal → zb → Prop) (Y1 : List AVal → zb → Prop) (v0 v3 v4 : AVal) : List AVal → zb → (List AVal → zb → Prop) → Prop
 | [v5], h, Y2 => zch.k3 C N Q Y1 Y2 v0 v3 v4 v5 h
 | _, _, _ => False
@[simp] def zch.l5 (C : CSem) (N : Nat → Nat) (Q : AVal → zb → Prop) (v0 v3 : AVal) : List AVal → zb → (List AVal → zb → Prop) → Prop
 | [v4], h, Y1 => B.pv (V.zw v0) fun v14 =>
  B.pv (V.bin .leq v4 v14) fun v15 =>
  B.cond v15
  (zd (zch.l4 C N Q Y1 v0 v3 v4) [(.int .i64 0)] h)
  (Q v3 h)
 | _, _, _ => False
@[simp] def zch.cps (C : CSem) (N : Nat → Nat) (v0 : AVal) (h : zb) (Q : AVal → zb → Prop) : Prop :=
 B.pv (V.zw v0) fun v10 =>
  0 < 1 ∧ B.mks h 8 (some [.int .i64 0]) v10 v10 fun v11 h =>
  zd (zch.l5 C N Q v0 v11) [(.int .i64 0)] h
def zch.Imp (C : CSem) (N : Nat → Nat) : Prop := ∀ (v0 : AVal) (h : zb) (Q : AVal → zb → Prop), zch.cps C N v0 h (dn Q) → C (N 410) [v0] h Q
@[simp] def zcc.k1 (C : CSem) (N : Nat → Nat) (Q : AVal → zb → Prop) (Y1 : List AVal → zb → Prop) (Y2 : List AVal → zb → Prop) (v3 v4 c1 : AVal) (h : zb) : Prop :=
 B.pv (V.bin .lss v4 v3) fun v51 =>
  B.cond v51
  (B.al c1 (B.pv (V.zc7 2 c1) fun v55 =>
  B.pv (V.idxS 2 v55 v4) fun v57 =>
  B.pv (V.fieldAddr 0 v57) fun v58 =>
  B.ld h v58 fun v59 =>
  B.al c1 (B.pv (V.zc7 2 c1) fun v61 =>
  B.pv (V.idxS 2 v61 v3) fun v63 =>
  B.pv (V.fieldAddr 0 v63) fun v64 =>
  B.ld h v64 fun v65 =>
  B.pv (V.bin .eql v59 v65) fun v66 =>
  B.cond v66
  (Q (.bool false) h)
  (B.pv (V.bin .add v4 (.int .i64 1)) fun v53 =>
  Y2 [v53] h))))
  (B.pv (V.bin .add v3 (.int .i64 1)) fun v32 =>
  Y1 [v32] h)
@[simp] def zcc.l2 (C : CSem) (N : Nat → Nat) (Q : AVal → zb → Prop) (Y1 : List AVal → zb → Prop) (v3 c1 : AVal) : List AVal → zb → (List AVal → zb → Prop) → Prop
 | [v4], h, Y2 => zcc.k1 C N Q Y1 Y2 v3 v4 c1 h
 | _, _, _ => False
@[simp] def zcc.k3 (C : CSem) (N : Nat → Nat) (Q : AVal → zb → Prop) (Y1 : List AVal → zb → Prop) (v3 c1 : AVal) (h : zb) : Prop :=
 B.al c1 (B.pv (V.zc7 2 c1) fun v34 =>
  B.pv (V.idxS 2 v34 v3) fun v36 =>
  B.pv (V.fieldAddr 1 v36) fun v37 =>
  B.ld h v37 fun v38 =>
  B.pv (V.bin .lss v38 (.int .i64 1)) fun v39 =>
  B.al c1 (B.gd h v39 false (fun K => K .undef h) fun _ h =>
  B.gd h v39 false (fun K => B.pv (V.zc7 2 c1) fun v => K v h) fun v42 h =>
  B.gd h v39 false (fun K => K v3 h) fun v43 h =>
  B.gd h v39 false (fun K => B.pv (V.idxS 2 v42 v43) fun v => K v h) fun v44 h =>
  B.gd h v39 false (fun K => B.pv (V.fieldAddr 1 v44) fun v => K v h) fun v45 h =>
  B.gd h v39 false (fun K => B.ld h v45 fun v => K v h) fun v46 h =>
  B.gd h v39 false (fun K => B.pv (V.bin .gtr v46 (.int .i64 1073741824)) fun v => K v h) fun v47 h =>
  B.pick v39 (.bool true) v47 fun v48 =>
  B.cond v48
  (Q (.bool false) h)
  (zd (zcc.l2 C N Q Y1 v3 c1) [(.int .i64 0)] h)))
@[simp] def zcc.k4 (C : CSem) (N : Nat → Nat) (Q : AVal → zb → Prop) (Y1 : List AVal → zb → Prop) (v3 c1 : AVal) (h : zb) : Prop :=
 B.al c1 (B.pv (V.zc7 2 c1) fun v28 =>
  B.pv (V.zw v28) fun v29 =>
  B.pv (V.bin .lss v3 v29) fun v30 =>
  B.cond v30
  (zcc.k3 C N Q Y1 v3 c1 h)
  (Q (.bool true) h))
@[simp] def zcc.l5 (C : CSem) (N : Nat → Nat) (Q : AVal → zb → Prop) (c1 : AVal) : List AVal → zb → (List AVal → zb → Prop) → Prop
 | [v3], h, Y1 => zcc.k4 C N Q Y1 v3 c1 h
 | _, _, _ => False
@[simp] def zcc.k6 (C : CSem) (N : Nat → Nat) (Q : AVal → zb → Prop) (c1 : AVal) (h : zb) : Prop :=
 B.al c1 (B.pv (V.zc7 1 c1) fun v18 =>
  B.pv (V.bin .neq v18 (.int .i64 0)) fun v19 =>
  B.al c1 (B.gd h v19 false (fun K => K .undef h) fun _ h =>
  B.gd h v19 false (fun K => B.pv (V.zc7 2 c1) fun v => K v h) fun v22 h =>
  B.gd h v19 false (fun K => B.pv (V.zw v22) fun v => K v h) fun v23 h =>
  B.gd h v19 false (fun K => B.pv (V.bin .gtr v23 (.int .i64 8)) fun v => K v h) fun v24 h =>
  B.pick v19 (.bool true) v24 fun v25 =>
  B.cond v25
  (Q (.bool false) h)
  (zd (zcc.l5 C N Q c1) [(.int .i64 0)] h)))
@[simp] def zcc.k7 (C : CSem) (N : Nat → Nat) (Q : AVal → zb → Prop) (c1 : AVal) (h : zb) : Prop :=
 B.al c1 (B.pv (V.zc7 2 c1) fun v6 =>
  B.pv (V.zw v6) fun v7 =>
  B.pv (V.bin .eql v7 (.int .i64 0)) fun v8 =>
  B.cond v8
  (B.al c1 (B.pv (V.zc7 1 c1) fun v10 =>
  B.pv (V.bin .geq v10 (.int .i64 1)) fun v11 =>
  B.al c1 (B.gd h v11 true (fun K => K .undef h) fun _ h =>
  B.gd h v11 true (fun K => B.pv (V.zc7 1 c1) fun v => K v h) fun v14 h =>
  B.gd h v11 true (fun K => B.pv (V.bin .leq v14 (.int .i64 2000)) fun v => K v h) fun v15 h =>
  B.pick v11 v15 (.bool false) fun v16 =>
  Q v16 h)))
  (zcc.k6 C N Q c1 h))
@[simp] def zcc.cps (C : CSem) (N : Nat → Nat) (v0 : AVal) (h : zb) (Q : AVal → zb → Prop) : Prop :=
 B.pv (A.boxN 4 v0) fun c1 =>
  zcc.k7 C N Q c1 h
def zcc.Imp (C : CSem) (N : Nat → Nat) : Prop := ∀ (v0 : AVal) (h : zb) (Q : AVal → zb → Prop), zcc.cps C N v0 h (dn Q) → C (N 411) [v0] h Q
@[simp] def zbx.k1 (C : CSem) (N : Nat → Nat) (Q : AVal → zb → Prop) (Y1 : List AVal → zb → Prop) (Y2 : List AVal → zb → Prop) (v0 v5 v6 : AVal) (h : zb) : Prop :=
 B.pv (V.idxS 4 v0 v5) fun v33 =>
  B.pv (V.fieldAddr 3 v33) fun v34 =>
  B.ld h v34 fun v35 =>
  B.pv (V.zw v35) fun v36 =>
  B.pv (V.bin .lss v6 v36) fun v37 =>
  B.cond v37
  (B.pv (V.idxS 4 v0 v5) fun v43 =>
  B.pv (V.fieldAddr 3 v43) fun v44 =>
  B.ld h v44 fun v45 =>
  B.pv (V.idxS 1 v45 v6) fun v47 =>
  B.ld h v47 fun v48 =>
  B.call C (N 402) [v0, v48] h fun v49 h =>
  B.pv (V.bin .lss v49 (.int .i64 0)) fun v50 =>
  B.cond v50
  (Q (.int .i64 150) h)
  (B.pv (V.bin .add v6 (.int .i64 1)) fun v39 =>
  Y2 [v39] h))
  (B.pv (V.bin .add v5 (.int .i64 1)) fun v29 =>
  Y1 [v29] h)
@[simp] def zbx.l2 (C : CSem) (N : Nat → Nat) (Q : AVal → zb → Prop) (Y1 : List AVal → zb → Prop) (v0 v5 : AVal) : List AVal → zb → (List AVal → zb → Prop) → Prop
 | [v6], h, Y2 => zbx.k1 C N Q Y1 Y2 v0 v5 v6 h
 | _, _, _ => False
@[simp] def zbx.k3 (C : CSem) (N : Nat → Nat) (Q : AVal → zb → Prop) (Y1 : List AVal → zb → Prop) (v0 v5 : AVal) (h : zb) : Prop :=
 B.pv (V.zw v0) fun v26 =>
  B.pv (V.bin .lss v5 v26) fun v27 =>
  B.cond v27
  (zd (zbx.l2 C N Q Y1 v0 v5) [(.int .i64 0)] h)
  (Q (.int .i64 0) h)
@[simp] def zbx.l4 (C : CSem) (N : Nat → Nat) (Q : AVal → zb → Prop) (v0 : AVal) : List AVal → zb → (List AVal → zb → Prop) → Prop
 | [v5], h, Y1 => zbx.k3 C N Q Y1 v0 v5 h
 | _, _, _ => False
@[simp] def zbx.k5 (C : CSem) (N : Nat → Nat) (Q : AVal → zb → Prop) (Y3 : List AVal → zb → Prop) (v0 v4 : AVal) (h : zb) : Prop :=
 B.pv (V.zw v0) fun v14 =>
  B.pv (V.bin .lss v4 v14) fun v15 =>
  B.cond v15
  (B.pv (V.idxS 4 v0 v4) fun v20 =>
  B.ldn h v20 4 fun v21 =>
  B.call C (N 403) [v21] h fun v22 h =>
  B.pv (V.un .not v22) fun v23 =>
  B.cond v23
  (Q (.int .i64 4) h)
  (B.pv (V.bin .add v4 (.int .i64 1)) fun v17 =>
  Y3 [v17] h))
  (zd (zbx.l4 C N Q v0) [(.int .i64 0)] h)
@[simp] def zbx.l6 (C : CSem) (N : Nat → Nat) (Q : AVal → zb → Prop) (v0 : AVal) : List AVal → zb → (List AVal → zb → Prop) → Prop
 | [v4], h, Y3 => zbx.k5 C N Q Y3 v0 v4 h
 | _, _, _ => False
@[simp] def zbx.k7 (C : CSem) (N : Nat → Nat) (Q : AVal → zb → Prop) (v0 : AVal) (h : zb) : Prop :=
 B.call C (N 404) [v0] h fun v8 h =>
  B.pv (V.bin .neq v8 (.int .i64 0)) fun v10 =>
  B.cond v10
  (Q v8 h)
  (zd (zbx.l6 C N Q v0) [(.int .i64 0)] h)
@[simp] def zbx.cps (C : CSem) (N : Nat → Nat) (v0 : AVal) (h : zb) (Q : AVal → zb → Prop) : Prop :=
 zbx.k7 C N Q v0 h
def zbx.Imp (C : CSem) (N : Nat → Nat) : Prop := ∀ (v0 : AVal) (h : zb) (Q : AVal → zb → Prop), zbx.cps C N v0 h (dn Q) → C (N 394) [v0] h Q
@[simp] def zer.k1 (C : CSem) (N : Nat → Nat) (Q : AVal → zb → Prop) (v0 v1 : AVal) (h : zb) : Prop :=
 B.call C (N 402) [v0, v1] h fun v8 h =>
  B.pv (V.bin .lss v8 (.int .i64 0)) fun v10 =>
  B.cond v10
  (Q .nils h)
  (B.newO h (zep [(0, none, v1)] (repL 1 [.str []])) fun i12 h =>
  B.pv (V.idxS 4 v0 v8) fun v15 =>
  B.pv (V.fieldAddr 3 v15) fun v16 =>
  B.ld h v16 fun v17 =>
  B.appW h 1 16 (.sl i12 0 0 1 1 1) v17 fun v18 h =>
  Q v18 h)
@[simp] def zer.cps (C : CSem) (N : Nat → Nat) (v0 v1 : AVal) (h : zb) (Q : AVal → zb → Prop) : Prop :=
 zer.k1 C N Q v0 v1 h
def zer.Imp (C : CSem) (N : Nat → Nat) : Prop := ∀ (v0 v1 : AVal) (h : zb) (Q : AVal → zb → Prop), zer.cps C N v0 v1 h (dn Q) → C (N 395) [v0, v1] h Q
@[simp] def zco.k1 (C : CSem) (N : Nat → Nat) (Q : AVal → zb → Prop) (Y1 : List AVal → zb → Prop) (Y2 : List AVal → zb → Prop) (v3 v4 c1 : AVal) (h : zb) : Prop :=
 B.pv (V.bin .lss v4 v3) fun v22 =>
  B.cond v22
  (B.al c1 (B.pv (V.zc7 3 c1) fun v26 =>
  B.pv (V.idxS 1 v26 v4) fun v28 =>
  B.ld h v28 fun v29 =>
  B.al c1 (B.pv (V.zc7 3 c1) fun v31 =>
  B.pv (V.idxS 1 v31 v3) fun v33 =>
  B.ld h v33 fun v34 =>
  B.pv (V.bin .eql v29 v34) fun v35 =>
  B.cond v35
  (Q (.bool false) h)
  (B.pv (V.bin .add v4 (.int .i64 1)) fun v24 =>
  Y2 [v24] h))))
  (B.pv (V.bin .add v3 (.int .i64 1)) fun v11 =>
  Y1 [v11] h)
@[simp] def zco.l2 (C : CSem) (N : Nat → Nat) (Q : AVal → zb → Prop) (Y1 : List AVal → zb → Prop) (v3 c1 : AVal) : List AVal → zb → (List AVal → zb → Prop) → Prop
 | [v4], h, Y2 => zco.k1 C N Q Y1 Y2 v3 v4 c1 h
 | _, _, _ => False
@[simp] def zco.k3 (C : CSem) (N : Nat → Nat) (Q : AVal → zb → Prop) (Y1 : List AVal → zb → Prop) (v3 c1 : AVal) (h : zb) : Prop :=
 B.al c1 (B.pv (V.zc7 3 c1) fun v13 =>
  B.pv (V.idxS 1 v13 v3) fun v15 =>
  B.ld h v15 fun v16 =>
  B.al c1 (B.pv (V.zc7 0 c1) fun v18 =>
  B.pv (V.bin .eql v16 v18) fun v19 =>
  B.cond v19
  (Q (.bool false) h)
  (zd (zco.l2 C N Q Y1 v3 c1) [(.int .i64 0)] h)))
@[simp] def zco.k4 (C : CSem) (N : Nat → Nat) (Q : AVal → zb → Prop) (Y1 : List AVal → zb → Prop) (v3 c1 : AVal) (h : zb) : Prop :=
 B.al c1 (B.pv (V.zc7 3 c1) fun v7 =>
  B.pv (V.zw v7) fun v8 =>
  B.pv (V.bin .lss v3 v8) fun v9 =>
  B.cond v9
  (zco.k3 C N Q Y1 v3 c1 h)
  (B.al c1 (B.pv (V.zc7 3 c1) fun v37 =>
  B.pv (V.zw v37) fun v38 =>
  B.pv (V.bin .leq v38 (.int .i64 4)) fun v39 =>
  Q v39 h)))
@[simp] def zco.l5 (C : CSem) (N : Nat → Nat) (Q : AVal → zb → Prop) (c1 : AVal) : List AVal → zb → (List AVal → zb → Prop) → Prop
 | [v3], h, Y1 => zco.k4 C N Q Y1 v3 c1 h
 | _, _, _ => False
@[simp] def zco.cps (C : CSem) (N : Nat → Nat) (v0 : AVal) (h : zb) (Q : AVal → zb → Prop) : Prop :=
 B.pv (A.boxN 4 v0) fun c1 =>
  zd (zco.l5 C N Q c1) [(.int .i64 0)] h
def zco.Imp (C : CSem) (N : Nat → Nat) : Prop := ∀ (v0 : AVal) (h : zb) (Q : AVal → zb → Prop), zco.cps C N v0 h (dn Q) → C (N 403) [v0] h Q
end Go.Ab
