/- What is proved: a part of the way to the statement: AcJ. No conditions. -/
import Derived.Test.YtljejbplojnnpaaGreatQ3
import Derived.Test.YtljejbplojnnpaaGreatQ5
import Derived.KernelRfl
import Derived.Test.YtljejbplojnnpaaGreatQ2
import Derived.Lib.Bytealg
set_option linter.unusedVariables false
set_option linter.unusedSimpArgs false
namespace Go.Ab
theorem arg_slice {T : Type} {H : za} {bytes es : Nat} {e : Ty} {v : AVal} (cs : T -> List AVal) (hd : ∀ p, zjw H e p -> ∃ t, p = cs t) (h : zjw H (.sl bytes es e) [v]) :
  ∃ L : List T, SlIs H es v (L.map cs) /\ L.length * bytes <= reach := by
 rcases h with h | h | ⟨id, parts, h1, h2, h3, h4⟩
 ·cases h; exact ⟨[], SlX.nils H es, by simp⟩
 ·cases h; exact ⟨[], SlX.sz H es, by simp⟩
 ·cases h1
  have : ∃ L : List T, parts = L.map cs := by
   clear h2 h3
   induction parts with
   | nil => exact ⟨[], rfl⟩
   | cons p r ih =>
    obtain ⟨L, rfl⟩ := ih fun q hq => h4 q (by simp [hq])
    obtain ⟨t, rfl⟩ := hd p (h4 p (by simp)).1
    exact ⟨t :: L, rfl⟩
  obtain ⟨L, rfl⟩ := this
  have hl : ∀ p ∈ L.map cs ++ [], p.length = es := fun p hp => (h4 p (by simpa using hp)).2
  have hfl : (L.map cs).flatten.length = L.length * es := by
   have := zk0 (css := L.map cs) (n := es) fun p hp => (h4 p hp).2
   simpa using this
  refine ⟨L, ⟨hl, .inr ⟨id, 0, 0, (L.map cs).length, roOf (L.map cs).flatten, (L.map cs).flatten.length, rfl, by simp, h2, zh5 .., ?_, Nat.le_refl _, ?_⟩⟩, by simpa using h3⟩
  ·rw [hfl]; simp
  ·simp only [roOf, List.drop_zero, List.append_nil, List.length_nil, Nat.add_zero, List.length_map]
   rw [<- hfl, List.take_length]
end Go.Ab
namespace Go.Ab
variable {C : CSem} {N : zN}
structure zfj where
 es : Nat
 bytes : Nat
 z : List AVal
 f : Nat
 kp : Option Nat
 ld : za -> AVal -> (AVal -> Prop) -> Prop
 st : za -> AVal -> AVal -> (za -> Prop) -> Prop
 eq : za -> AVal -> AVal -> (zQ) -> Prop
section
variable (E : zfj)
@[simp] def zr.k3 (C : CSem) (Q : zQ) (Y1 Y2 : zL) (v0 v5 v14 v15 : AVal) (h : za) : Prop :=
 B.pv (V.idxS 1 v0 v14) fun v161 =>
  B.ld h v161 fun v162 =>
  B.pv (V.zj v162) fun v163 =>
  B.pv (V.bin .lss v15 v163) fun v164 =>
  B.cond v164
  (B.pv (V.idxS 1 v0 v14) fun v169 =>
  B.ld h v169 fun v170 =>
  B.pv (V.idxS E.es v170 v15) fun v172 =>
  E.ld h v172 fun v173 =>
  B.call C E.f [v14, v15] h (B.zk5 h [(v169, none), (v172, E.kp)] (fun v176 h => E.eq h v173 v176 fun v177 h =>
  B.pv (V.un .not v177) fun v178 =>
  B.gd h v178 false (fun K => K v5 h) fun v180 h =>
  B.gd h v178 false (fun K => K v14 h) fun v181 h =>
  B.gd h v178 false (fun K => B.pv (V.idxS 1 v180 v181) fun v => K v h) fun v182 h =>
  B.gd h v178 false (fun K => B.ld h v182 fun v => K v h) fun v183 h =>
  B.gd h v178 false (fun K => K v15 h) fun v184 h =>
  B.gd h v178 false (fun K => B.pv (V.idxS E.es v183 v184) fun v => K v h) fun v185 h =>
  B.gd h v178 false (fun K => E.ld h v185 fun v => K v h) fun v186 h =>
  B.gd h v178 false (fun K => K v14 h) fun v187 h =>
  B.gd h v178 false (fun K => K v15 h) fun v188 h =>
  B.gd h v178 false (fun K => B.call C E.f [v187, v188] h (B.zk5 h [(v182, none), (v185, E.kp)] K)) fun v189 h =>
  B.gd h v178 false (fun K => E.eq h v186 v189 K) fun v190 h =>
  B.gd h v178 false (fun K => B.pv (V.un .not v190) fun v => K v h) fun v191 h =>
  B.pick v178 (.bool true) v191 fun v192 =>
  B.cond v192
  (Q (.bool false) h)
  (B.pv (V.bin .add v15 (.int .i64 1)) fun v166 =>
  Y2 [v166] h))))
  (B.pv (V.bin .add v14 (.int .i64 1)) fun v157 =>
  Y1 [v157] h)
@[simp] def zr.l5 (C : CSem) (Q : zQ) (Y1 : zL) (v0 v5 v14 : AVal) : zG
 | [v15], h, Y2 => zr.k3 E C Q Y1 Y2 v0 v5 v14 v15 h
 | _, _, _ => False
@[simp] def zr.k12 (C : CSem) (Q : zQ) (Y1 : zL) (v0 v5 v14 : AVal) (h : za) : Prop :=
 B.pv (V.zj v0) fun v154 =>
  B.pv (V.bin .lss v14 v154) fun v155 =>
  B.cond v155
  (ze (zr.l5 E C Q Y1 v0 v5 v14) [(.int .i64 0)] h)
  (Q (.bool true) h)
@[simp] def zr.l15 (C : CSem) (Q : zQ) (v0 v5 : AVal) : zG
 | [v14], h, Y1 => zr.k12 E C Q Y1 v0 v5 v14 h
 | _, _, _ => False
@[simp] def zr.k22 (C : CSem) (Q : zQ) (Y3 : zL) (v0 v5 v11 v12 : AVal) (h : za) : Prop :=
 B.pv (V.idxS 1 v0 v11) fun v147 =>
  B.ld h v147 fun v148 =>
  B.appW h E.es E.bytes v148 v12 fun v150 h =>
  B.pv (V.idxS 1 v5 v11) fun v151 =>
  B.st h v151 v150 fun h =>
  B.pv (V.bin .add v11 (.int .i64 1)) fun v128 =>
  Y3 [v128] h
@[simp] def zr.k24 (C : CSem) (Q : zQ) (Y3 Y4 : zL) (v0 v5 v11 v12 v13 : AVal) (h : za) : Prop :=
 B.pv (V.bin .lss v13 (.int .i64 64)) fun v131 =>
  B.cond v131
  (B.pv (V.zj v0) fun v138 =>
  B.pv (V.bin .add v11 v138) fun v139 =>
  B.call C E.f [v139, v13] h fun v141 h =>
  B.pv (V.idxS E.es v12 v13) fun v142 =>
  E.st h v142 v141 fun h =>
  B.pv (V.bin .add v13 (.int .i64 1)) fun v133 =>
  Y4 [v133] h)
  (zr.k22 E C Q Y3 v0 v5 v11 v12 h)
@[simp] def zr.l26 (C : CSem) (Q : zQ) (Y3 : zL) (v0 v5 v11 v12 : AVal) : zG
 | [v13], h, Y4 => zr.k24 E C Q Y3 Y4 v0 v5 v11 v12 v13 h
 | _, _, _ => False
@[simp] def zr.k37 (C : CSem) (Q : zQ) (Y3 : zL) (v0 v5 v11 : AVal) (h : za) : Prop :=
 B.pv (V.zj v0) fun v125 =>
  B.pv (V.bin .lss v11 v125) fun v126 =>
  B.cond v126
  (0 < E.es /\ B.mks h E.bytes (some E.z) (.int .i64 64) (.int .i64 64) fun v129 h =>
  ze (zr.l26 E C Q Y3 v0 v5 v11 v129) [(.int .i64 0)] h)
  (ze (zr.l15 E C Q v0 v5) [(.int .i64 0)] h)
@[simp] def zr.l40 (C : CSem) (Q : zQ) (v0 v5 : AVal) : zG
 | [v11], h, Y3 => zr.k37 E C Q Y3 v0 v5 v11 h
 | _, _, _ => False
@[simp] def zr.k47 (C : CSem) (Q : zQ) (Y5 Y6 : zL) (v0 v5 v9 v10 : AVal) (h : za) : Prop :=
 B.pv (V.idxS 1 v5 v9) fun v82 =>
  B.ld h v82 fun v83 =>
  B.pv (V.zj v83) fun v84 =>
  B.pv (V.bin .lss v10 v84) fun v85 =>
  B.cond v85
  (B.pv (V.idxS 1 v5 v9) fun v90 =>
  B.ld h v90 fun v91 =>
  B.pv (V.idxS E.es v91 v10) fun v93 =>
  E.ld h v93 fun v94 =>
  B.call C E.f [v9, v10] h (B.zk5 h [(v90, none), (v93, E.kp)] (fun v97 h => E.eq h v94 v97 fun v98 h =>
  B.pv (V.un .not v98) fun v99 =>
  B.gd h v99 false (fun K => K v10 h) fun v101 h =>
  B.gd h v99 false (fun K => K v0 h) fun v102 h =>
  B.gd h v99 false (fun K => K v9 h) fun v103 h =>
  B.gd h v99 false (fun K => B.pv (V.idxS 1 v102 v103) fun v => K v h) fun v104 h =>
  B.gd h v99 false (fun K => B.ld h v104 fun v => K v h) fun v105 h =>
  B.gd h v99 false (fun K => B.pv (V.zj v105) fun v => K v h) fun v106 h =>
  B.gd h v99 false (fun K => B.pv (V.bin .lss v101 v106) fun v => K v h) fun v107 h =>
  B.gd h v99 false (fun K => K v107 h) fun v108 h =>
  B.gd h v108 true (fun K => K v0 h) fun v109 h =>
  B.gd h v108 true (fun K => K v9 h) fun v110 h =>
  B.gd h v108 true (fun K => B.pv (V.idxS 1 v109 v110) fun v => K v h) fun v111 h =>
  B.gd h v108 true (fun K => B.ld h v111 fun v => K v h) fun v112 h =>
  B.gd h v108 true (fun K => K v10 h) fun v113 h =>
  B.gd h v108 true (fun K => B.pv (V.idxS E.es v112 v113) fun v => K v h) fun v114 h =>
  B.gd h v108 true (fun K => E.ld h v114 fun v => K v h) fun v115 h =>
  B.gd h v108 true (fun K => K v9 h) fun v116 h =>
  B.gd h v108 true (fun K => K v10 h) fun v117 h =>
  B.gd h v108 true (fun K => B.call C E.f [v116, v117] h (B.zk5 h [(v111, none), (v114, E.kp)] K)) fun v118 h =>
  B.gd h v108 true (fun K => E.eq h v115 v118 K) fun v119 h =>
  B.gd h v108 true (fun K => B.pv (V.un .not v119) fun v => K v h) fun v120 h =>
  B.gd h v99 false (fun K => B.pick v108 v120 (.bool false) fun v => K v h) fun v121 h =>
  B.pick v99 (.bool true) v121 fun v122 =>
  B.cond v122
  (Q (.bool false) h)
  (B.pv (V.bin .add v10 (.int .i64 1)) fun v87 =>
  Y6 [v87] h))))
  (B.pv (V.bin .add v9 (.int .i64 1)) fun v78 =>
  Y5 [v78] h)
@[simp] def zr.l49 (C : CSem) (Q : zQ) (Y5 : zL) (v0 v5 v9 : AVal) : zG
 | [v10], h, Y6 => zr.k47 E C Q Y5 Y6 v0 v5 v9 v10 h
 | _, _, _ => False
@[simp] def zr.k56 (C : CSem) (Q : zQ) (Y5 : zL) (v0 v5 v9 : AVal) (h : za) : Prop :=
 B.pv (V.zj v0) fun v75 =>
  B.pv (V.bin .lss v9 v75) fun v76 =>
  B.cond v76
  (ze (zr.l49 E C Q Y5 v0 v5 v9) [(.int .i64 0)] h)
  (ze (zr.l40 E C Q v0 v5) [(.int .i64 0)] h)
@[simp] def zr.l59 (C : CSem) (Q : zQ) (v0 v5 : AVal) : zG
 | [v9], h, Y5 => zr.k56 E C Q Y5 v0 v5 v9 h
 | _, _, _ => False
@[simp] def zr.k67 (C : CSem) (Q : zQ) (Y7 Y8 : zL) (v0 v5 v6 v7 v8 : AVal) (h : za) : Prop :=
 B.pv (V.bin .lss v8 (.int .i64 64)) fun v54 =>
  B.cond v54
  (B.pv (V.idxS 1 v0 v6) fun v61 =>
  B.ld h v61 fun v62 =>
  B.pv (V.zj v62) fun v63 =>
  B.pv (V.bin .add v63 v8) fun v65 =>
  B.call C E.f [v6, v65] h fun v66 h =>
  B.newO h (zcr [(0, E.kp, v66)] (repL 1 E.z)) fun i67 h =>
  B.appW h E.es E.bytes v7 (.sl i67 0 0 1 E.es 1) fun v68 h =>
  B.pv (V.bin .add v8 (.int .i64 1)) fun v56 =>
  Y8 [v68, v56] h)
  (B.pv (V.idxS 1 v5 v6) fun v72 =>
  B.st h v72 v7 fun h =>
  B.pv (V.bin .add v6 (.int .i64 1)) fun v48 =>
  Y7 [v48] h)
@[simp] def zr.l69 (C : CSem) (Q : zQ) (Y7 : zL) (v0 v5 v6 : AVal) : zG
 | [v7, v8], h, Y8 => zr.k67 E C Q Y7 Y8 v0 v5 v6 v7 v8 h
 | _, _, _ => False
@[simp] def zr.k79 (C : CSem) (Q : zQ) (Y7 : zL) (v0 v5 v6 : AVal) (h : za) : Prop :=
 B.pv (V.zj v0) fun v45 =>
  B.pv (V.bin .lss v6 v45) fun v46 =>
  B.cond v46
  (B.pv (V.idxS 1 v0 v6) fun v51 =>
  B.ld h v51 fun v52 =>
  ze (zr.l69 E C Q Y7 v0 v5 v6) [v52, (.int .i64 0)] h)
  (ze (zr.l59 E C Q v0 v5) [(.int .i64 0)] h)
@[simp] def zr.l82 (C : CSem) (Q : zQ) (v0 v5 : AVal) : zG
 | [v6], h, Y7 => zr.k79 E C Q Y7 v0 v5 v6 h
 | _, _, _ => False
@[simp] def zr.k91 (C : CSem) (Q : zQ) (Y9 Y10 : zL) (v0 v3 v4 : AVal) (h : za) : Prop :=
 B.pv (V.idxS 1 v0 v3) fun v25 =>
  B.ld h v25 fun v26 =>
  B.pv (V.zj v26) fun v27 =>
  B.pv (V.bin .lss v4 v27) fun v28 =>
  B.cond v28
  (B.pv (V.idxS 1 v0 v3) fun v33 =>
  B.ld h v33 fun v34 =>
  B.call C E.f [v3, v4] h (B.zk5 h [(v33, none)] (fun v38 h => B.pv (V.idxS E.es v34 v4) fun v39 =>
  E.st h v39 v38 fun h =>
  B.pv (V.bin .add v4 (.int .i64 1)) fun v30 =>
  Y10 [v30] h)))
  (B.pv (V.bin .add v3 (.int .i64 1)) fun v21 =>
  Y9 [v21] h)
@[simp] def zr.l93 (C : CSem) (Q : zQ) (Y9 : zL) (v0 v3 : AVal) : zG
 | [v4], h, Y10 => zr.k91 E C Q Y9 Y10 v0 v3 v4 h
 | _, _, _ => False
@[simp] def zr.k100 (C : CSem) (Q : zQ) (Y9 : zL) (v0 v3 : AVal) (h : za) : Prop :=
 B.pv (V.zj v0) fun v18 =>
  B.pv (V.bin .lss v3 v18) fun v19 =>
  B.cond v19
  (ze (zr.l93 E C Q Y9 v0 v3) [(.int .i64 0)] h)
  (B.pv (V.zj v0) fun v41 =>
  0 < 1 /\ B.mks h 24 (some [.nils]) v41 v41 fun v42 h =>
  ze (zr.l82 E C Q v0 v42) [(.int .i64 0)] h)
@[simp] def zr.l103 (C : CSem) (Q : zQ) (v0 : AVal) : zG
 | [v3], h, Y9 => zr.k100 E C Q Y9 v0 v3 h
 | _, _, _ => False
def zr (C : CSem) (v0 : AVal) (h : za) (Q : zQ) : Prop :=
 ze (zr.l103 E C Q v0) [(.int .i64 0)] h
def opsF (es bytes : Nat) (z : List AVal) (f : Nat) (sh : List Ck) : zfj where
 es := es; bytes := bytes; z := z; f := f; kp := some es
 ld := fun h p K => B.ldn h p es K
 st := fun h p v K => B.stn h p es v K
 eq := fun h a b K => B.pv (V.zpe .eql sh a b) fun v => K v h
def opsS (bytes : Nat) (z : AVal) (f : Nat) : zfj where
 es := 1; bytes := bytes; z := [z]; f := f; kp := none
 ld := fun h p K => B.ld h p K
 st := fun h p v K => B.st h p v K
 eq := fun h a b K => B.pv (V.bin .eql a b) fun v => K v h
def opsD (C : CSem) (es bytes : Nat) (z : List AVal) (f g : Nat) : zfj where
 es := es; bytes := bytes; z := z; f := f; kp := some es
 ld := fun h p K => B.ldn h p es K
 st := fun h p v K => B.stn h p es v K
 eq := fun h a b K => B.call C g [a, b] h K
end
end Go.Ab
namespace Go.Ab
variable {C : CSem} {N : zN}
def aoff : AVal -> Nat
 | .sl _ _ off _ _ _ => off
 | _ => 0
theorem zv5 (g hi e : Nat) : ∀ (gens : List (Nat × Nat)), gens.lookup g = some hi -> (zsf gens e).lookup g = some (min hi e)
 | [], h => by cases h
 | (g', k) :: r, h => by
  unfold zsf
  rw [List.map_cons]
  by_cases e1 : (g == g') = true
  ·simp only [List.lookup, e1] at h ⊢
   rw [Option.some.inj h]
  ·simp only [Bool.not_eq_true] at e1
   simp only [List.lookup, e1] at h ⊢
   exact zv5 g hi e r h
theorem SlX.oldApp {h : za} {es : Nat} {x : AVal} {L R : List (List AVal)} (hs : SlX h es x L R) {id : Nat} {b : Blk} (hf : foot x = some id) (hb : h id = some b) {e : Nat} (he : aoff x + L.length * es <= e) (hb2 : e <= b.cells.length) (news : List AVal) :
  SlX (Ab.upd h id (zgn b e news)) es x L [] := by
 have h0 := hs.cut
 refine ⟨h0.len, ?_⟩
 rcases h0.at_ with e1 | ⟨id', g, off, cp, b', hi, h1, h1', h2, h3, h4, hh, h5⟩
 ·exact .inl e1
 ·subst h1
  cases hf
  rw [hb] at h2
  cases h2
  simp only [aoff] at he
  simp only [List.length_nil, Nat.add_zero] at h4 h5 h1'
  have hcells : ((b.cells.take e ++ news).drop off).take (L.length * es) = (L ++ []).flatten := by
   rw [<- h5]
   apply List.ext_getElem?
   intro k
   by_cases hk : k < L.length * es
   ·rw [List.getElem?_take_of_lt hk, List.getElem?_take_of_lt hk, List.getElem?_drop, List.getElem?_drop, List.getElem?_append_left (by simp; omega), List.getElem?_take_of_lt (by omega)]
   ·rw [List.getElem?_take_eq_none (by omega), List.getElem?_take_eq_none (by omega)]
  by_cases hg : g = b.next
  ·refine .inr ⟨_, g, off, cp, _, e + news.length, rfl, by simpa using h1', zbj .., by simp [zgn, hg, List.lookup], by simp; omega, by simp [zgn]; omega, ?_⟩
   simpa [zgn] using hcells
  ·refine .inr ⟨_, g, off, cp, _, min hi e, rfl, by simpa using h1', zbj .., ?_, by simp; omega, by simp [zgn]; omega, ?_⟩
   ·simp only [zgn, List.lookup]
    rw [show (g == b.next) = false by simpa using hg]
    exact zv5 g hi e b.gens h3
   ·simpa [zgn] using hcells
structure Old (h : za) (es : Nat) (x : AVal) (L : List (List AVal)) (y : AVal) (M : List (List AVal)) : Prop where
 at_ : SlX h es x L []
 ft : foot x = none \/ (foot x = foot y /\ aoff x = aoff y)
 len : L.length <= M.length
theorem Old.refl {h : za} {es : Nat} {x : AVal} {L R : List (List AVal)} (hs : SlX h es x L R) : Old h es x L x L := ⟨hs.cut, .inr ⟨rfl, rfl⟩, Nat.le_refl _⟩
theorem Old.other {h h' : za} {es : Nat} {x y z : AVal} {L M : List (List AVal)} (ho : Old h es x L y M) (hb : But z h h') (hne : ∀ id, foot y = some id -> foot z ≠ some id) : Old h' es x L y M :=
 ⟨hb.sl ho.at_ fun id hf => hne id (by rcases ho.ft with e | ⟨e, _⟩ <;> rw [e] at hf; cases hf; exact hf), ho.ft, ho.len⟩
theorem Old.mono {h h' : za} {es : Nat} {x y : AVal} {L M : List (List AVal)} (ho : Old h es x L y M) (hle : h.le h') : Old h' es x L y M := ⟨ho.at_.mono hle, ho.ft, ho.len⟩
section
variable {h H h0 : za} {es : Nat} {x : AVal} {L R : List (List AVal)}
theorem SlX.app2 {bytes : Nat} {M : List (List AVal)} {K : zQ} (ho : SlX h es x L R) (hown : ∀ id b, foot x = some id -> h id = some b -> b.own = true) (hes : 0 < es) (hM : ∀ p ∈ M, p.length = es) (hb : (L.length + M.length) * bytes <= 140737488355328) (hm : L.length + M.length <= maxLen)
  (hk : ∀ x' h', SlIs h' es x' (L ++ M) -> (∀ id b, foot x' = some id -> h' id = some b -> b.own = true) -> But x h h' -> (foot x' = foot x \/ ∀ id, foot x' = some id -> h id = none) -> (∀ u U, Old h es u U x L -> Old h' es u U x' (L ++ M)) -> K x' h') : A.app h es bytes x (some M.flatten) K := by
 have hl := zk0 hM
 have hd : M.flatten.length / es = M.length := by rw [hl, Nat.mul_div_cancel _ hes]
 have hall : ∀ p ∈ (L ++ M) ++ [], p.length = es := fun p hp => by
  rw [List.append_nil] at hp
  rcases List.mem_append.1 hp with hp | hp
  ·exact ho.len p (List.mem_append_left _ hp)
  ·exact hM p hp
 have fresh : L = [] -> foot x = none -> (M ≠ [] -> (M.flatten.length / es) * bytes <= 140737488355328 /\ M.flatten.length / es <= maxLen /\ A.new h M.flatten fun id h => K (.sl id 0 0 (M.flatten.length / es) es (M.flatten.length / es)) h) := fun e hfx hne => by
  subst e
  rw [hd]
  simp only [List.length_nil, Nat.zero_add] at hb hm
  refine ⟨hb, hm, fun id hid => ?_⟩
  refine hk _ _ ⟨hall, .inr ⟨id, 0, 0, _, zee M.flatten, M.flatten.length, by simp only [List.nil_append]; exact rfl, by simp, zbj .., zh5 .., by simp [hl], Nat.le_refl _, ?_⟩⟩ (fun j b hj hb' => ?_) (But.of_le _ (zhf _ hid)) (.inr fun j hj => ?_) (fun u U hu => ⟨hu.at_.mono (zhf _ hid), .inl ?_, ?_⟩)
  ·simp only [List.nil_append, List.append_nil, List.length_nil, Nat.add_zero, <- hl, zee, List.drop_zero, List.take_length]
  ·cases hj
   rw [zbj] at hb'; cases hb'; rfl
  ·cases hj; exact hid
  ·rcases hu.ft with e | ⟨e, _⟩
   ·exact e
   ·rw [e, hfx]
  ·have := hu.len; simp at this; simp [this]
 have hnil : M = [] \/ M.flatten.length ≠ 0 := by
  cases M with
  | nil => exact .inl rfl
  | cons a r =>
   refine .inr ?_
   rw [hl, List.length_cons, Nat.add_mul]
   omega
 have h0 := ho.cut
 rcases h0.at_ with ⟨e, _, e' | e'⟩ | ⟨id, g, off, cp, b, hi, h1, h1', h2, h3, h4, hh, h5⟩
 ·subst e'
  simp only [A.app]
  split
  ·rename_i hz
   rcases hnil with hn | hn
   ·subst hn; exact hk _ _ (by simpa using h0) (fun _ _ hj => by cases hj) (But.of_le _ (za.le_refl h)) (.inl rfl) (fun u U hu => by simpa using hu)
   ·exact absurd hz hn
  ·rename_i hz
   exact fresh e rfl fun hn => hz (by rw [hn]; rfl)
 ·subst e'
  simp only [A.app]
  split
  ·rename_i hz
   rcases hnil with hn | hn
   ·subst hn; exact hk _ _ (by simpa using h0) (fun _ _ hj => by cases hj) (But.of_le _ (za.le_refl h)) (.inl rfl) (fun u U hu => by simpa using hu)
   ·exact absurd hz hn
  ·rename_i hz
   exact fresh e rfl fun hn => hz (by rw [hn]; rfl)
 ·have hown' := hown id b (by rw [h1]; rfl) h2
  subst h1
  simp only [List.length_nil, Nat.add_zero, List.append_nil] at h4 h5
  simp only [A.app, h2, h3, hd, hown', cond_true]
  have hcl : off + L.length * es <= b.cells.length := by omega
  have htl : (b.cells.take (off + L.length * es)).length = off + L.length * es := by simp; omega
  refine ⟨trivial, trivial, h4, hb, hm, hk _ _ ⟨hall, .inr ⟨id, b.next, off, _, _, off + L.length * es + M.flatten.length, by rw [List.length_append], by simp, zbj .., zh5 .., ?_, ?_, ?_⟩⟩ (fun j b1 hj hb1 => ?_) (fun j b1 e1 e2 => ?_) (.inl rfl) (fun u U hu => ⟨?_, ?_, ?_⟩)⟩
  ·rw [List.length_append, List.length_nil, Nat.add_zero, Nat.add_mul, hl]; omega
  ·simp only [zgn, List.length_append, htl]; omega
  ·simp only [zgn, List.append_nil, List.length_nil, Nat.add_zero]
   rw [List.drop_append_of_le_length (by omega), List.length_append, Nat.add_mul, <- hl, List.flatten_append, <- h5]
   have e1 : (b.cells.take (off + L.length * es)).drop off = (b.cells.drop off).take (L.length * es) := by
    rw [List.drop_take]; congr 1; omega
   have e2 : ((b.cells.drop off).take (L.length * es)).length = L.length * es := by simp; omega
   rw [e1, List.take_of_length_le]
   rw [List.length_append, e2]; omega
  ·cases hj
   rw [zbj] at hb1; cases hb1; exact hown'
  ·rw [zl]
   ·exact e1
   ·intro e; subst e; exact e2 rfl
  ·by_cases hf : foot u = some id
   ·refine hu.at_.oldApp hf h2 ?_ hcl _
    have e1 := hu.len
    have e2 : aoff u = off := by
     rcases hu.ft with e | ⟨_, e⟩
     ·rw [e] at hf; cases hf
     ·exact e
    rw [e2]
    have := Nat.mul_le_mul_right es e1
    omega
   ·exact hu.at_.upd hf
  ·rcases hu.ft with e | ⟨e, e'⟩
   ·exact .inl e
   ·exact .inr ⟨e, e'⟩
  ·have := hu.len; rw [List.length_append]; omega
theorem SlX.appW2 {bytes : Nat} {y : AVal} {M R' : List (List AVal)} {K : zQ} (ho : SlX h es x L R) (hown : ∀ id b, foot x = some id -> h id = some b -> b.own = true) (hs : SlX h es y M R') (hes : 0 < es) (hb : (L.length + M.length) * bytes <= 140737488355328) (hm : L.length + M.length <= maxLen)
  (hk : ∀ x' h', SlIs h' es x' (L ++ M) -> (∀ id b, foot x' = some id -> h' id = some b -> b.own = true) -> But x h h' -> (foot x' = foot x \/ ∀ id, foot x' = some id -> h id = none) -> (∀ u U, Old h es u U x L -> Old h' es u U x' (L ++ M)) -> K x' h') : A.appW h es bytes x y K := by
 unfold A.appW
 rw [hs.zhc]
 simp only
 rw [hs.rdv]
 exact ho.app2 hown hes (fun p hp => hs.len p (List.mem_append_left _ hp)) hb hm hk
end
section
variable {h0 h h' : za} {l : List Ob}
theorem Owns.ne (ho : Owns h0 h l) {i j : Nat} {a b : Ob} (hi : l[i]? = some a) (hj : l[j]? = some b) (hij : i ≠ j) : ∀ id, a.foot = some id -> b.foot ≠ some id := fun id ha hb => by
 rcases Nat.lt_or_gt_of_ne hij with hlt | hgt
 ·have := List.pairwise_iff_getElem.1 ho.apart i j (List.getElem?_eq_some_iff.1 hi).1 (List.getElem?_eq_some_iff.1 hj).1 hlt
  rw [(List.getElem?_eq_some_iff.1 hi).2, (List.getElem?_eq_some_iff.1 hj).2] at this
  exact this id ha hb
 ·have := List.pairwise_iff_getElem.1 ho.apart j i (List.getElem?_eq_some_iff.1 hj).1 (List.getElem?_eq_some_iff.1 hi).1 hgt
  rw [(List.getElem?_eq_some_iff.1 hj).2, (List.getElem?_eq_some_iff.1 hi).2] at this
  exact this id hb ha
end
def Kp (h : za) (p : AVal) (o : Option Nat) : Prop := match o with | none => ∃ x, A.ldv h p = some x | some n => ∃ x, A.ldnv h p n = some x
theorem zv9 {h : za} {ls : List (AVal × Option Nat)} {K : zQ} {v : AVal} (hl : ∀ p ∈ ls, Kp h p.1 p.2) (hk : K v h) : B.zk5 h ls K v h := by
 refine ⟨fun p hp => ?_, hk⟩
 have := hl p hp
 obtain ⟨p, o⟩ := p
 cases o with
 | none => obtain ⟨x, e⟩ := this; exact ⟨x, e, e⟩
 | some n => obtain ⟨x, e⟩ := this; exact ⟨x, e, e⟩
theorem keepS1 {h : za} {p : AVal} {o : Option Nat} {K : zQ} {v : AVal} (h1 : Kp h p o) (hk : K v h) : B.zk5 h [(p, o)] K v h :=
 zv9 (fun q hq => by rw [List.mem_singleton.1 hq]; exact h1) hk
theorem keepS2 {h : za} {p q : AVal} {o u : Option Nat} {K : zQ} {v : AVal} (h1 : Kp h p o) (h2 : Kp h q u) (hk : K v h) : B.zk5 h [(p, o), (q, u)] K v h :=
 zv9 (fun r hr => by rcases List.mem_cons.1 hr with e | hr; rw [e]; exact h1; rw [List.mem_singleton.1 hr]; exact h2) hk
def upf {α : Type} (f : Nat -> α) (k : Nat) (v : α) : Nat -> α := fun j => if j = k then v else f j
def Objs (es n : Nat) (xs : Nat -> AVal) (D R : Nat -> List (List AVal)) : List Ob := (List.range n).map fun j => Ob.sl es (xs j) (D j) (R j)
section
variable {es n k : Nat} {xs : Nat -> AVal} {D R : Nat -> List (List AVal)}
@[simp] theorem Objs.length : (Objs es n xs D R).length = n := by simp [Objs]
theorem Objs.get (hk : k < n) : (Objs es n xs D R)[k]? = some (.sl es (xs k) (D k) (R k)) := by simp [Objs, hk]
theorem Objs.set {x : AVal} {L M : List (List AVal)} : (Objs es n xs D R).set k (.sl es x L M) = Objs es n (upf xs k x) (upf D k L) (upf R k M) := by
 apply List.ext_getElem?
 intro j
 by_cases hj : j < n
 ·rw [Objs.get hj]
  by_cases e : k = j
  ·subst e; rw [List.getElem?_set_self (by simpa using hj)]; simp [upf]
  ·rw [List.getElem?_set_ne e, Objs.get hj]; simp [upf, Ne.symm e]
 ·rw [List.getElem?_eq_none (by simp; omega), List.getElem?_eq_none (by simp; omega)]
theorem Objs.congr {ys : Nat -> AVal} {E S : Nat -> List (List AVal)} (h : ∀ j, j < n -> xs j = ys j /\ D j = E j /\ R j = S j) : Objs es n xs D R = Objs es n ys E S :=
 List.map_congr_left fun j hj => by obtain ⟨a, b, c⟩ := h j (by simpa using hj); rw [a, b, c]
theorem Objs.getA {l : List Ob} (hk : k < n) : (Objs es n xs D R ++ l)[k]? = some (.sl es (xs k) (D k) (R k)) := by
 rw [List.getElem?_append_left (by simpa using hk)]; exact Objs.get hk
theorem Objs.setA {l : List Ob} (hk : k < n) {x : AVal} {L M : List (List AVal)} : (Objs es n xs D R ++ l).set k (.sl es x L M) = Objs es n (upf xs k x) (upf D k L) (upf R k M) ++ l := by
 rw [List.set_append_left _ _ (by simpa using hk), Objs.set]
theorem Objs.getL {o : Ob} : (Objs es n xs D R ++ [o])[n]? = some o := by
 rw [List.getElem?_append_right (by simp)]; simp
theorem Objs.setL {o o' : Ob} : (Objs es n xs D R ++ [o]).set n o' = Objs es n xs D R ++ [o'] := by
 rw [List.set_append_right _ _ (by simp)]; simp
end
theorem Owns.cutR {h0 h : za} {es n : Nat} {xs : Nat -> AVal} {D R : Nat -> List (List AVal)} {l : List Ob} (ho : Owns h0 h (Objs es n xs D R ++ l)) : Owns h0 h (Objs es n xs D (fun _ => []) ++ l) := by
 have mem : ∀ o ∈ Objs es n xs D (fun _ => []), ∃ o' ∈ Objs es n xs D R, o'.foot = o.foot /\ (o'.at h -> o.at h) := fun o hm => by
  obtain ⟨j, hj, rfl⟩ := List.mem_map.1 hm
  exact ⟨_, List.mem_map.2 ⟨j, hj, rfl⟩, rfl, fun h => SlX.cut h⟩
 refine ⟨ho.le, fun o hm => ?_, fun o hm => ?_, ?_⟩
 ·rcases List.mem_append.1 hm with hm | hm
  ·obtain ⟨o', h1, _, h3⟩ := mem o hm
   exact h3 (ho.is _ (List.mem_append_left _ h1))
  ·exact ho.is _ (List.mem_append_right _ hm)
 ·rcases List.mem_append.1 hm with hm | hm
  ·obtain ⟨o', h1, h2, _⟩ := mem o hm
   rw [<- h2]
   exact ho.own _ (List.mem_append_left _ h1)
  ·exact ho.own _ (List.mem_append_right _ hm)
 ·obtain ⟨a, b, c⟩ := List.pairwise_append.1 ho.apart
  refine List.pairwise_append.2 ⟨?_, b, fun x hx y hy => ?_⟩
  ·unfold Objs at a ⊢
   rw [List.pairwise_map] at a ⊢
   exact a.imp fun h => h
  ·obtain ⟨o', h1, h2, _⟩ := mem x hx
   rw [<- h2]
   exact c o' h1 y hy
end Go.Ab
namespace Go.Ab
variable {C : CSem} {N : zN}
structure zrs (C : CSem) (E : zfj) (m : Int -> Int -> List AVal) (v : Int -> Int -> AVal) : Prop where
 pos : 0 < E.es
 small : E.bytes <= 1000
 len : ∀ k i, (m k i).length = E.es
 zlen : E.z.length = E.es
 new : ∀ k i, zcr [(0, E.kp, v k i)] (repL 1 E.z) = some (m k i)
 call : ∀ (k i : Int) (h : za) (Q : zQ), Q (v k i) h -> C E.f [.int .i64 k, .int .i64 i] h Q
 ld : ∀ {h : za} {x : AVal} {L R : List (List AVal)} {i : Nat} {k j : Int} {K : AVal -> Prop}, SlX h E.es x L R -> L[i]? = some (m k j) -> K (v k j) -> E.ld h (elp E.es x i 0) K
 kpt : ∀ {h : za} {x : AVal} {L R : List (List AVal)} {i : Nat} {k j : Int}, SlX h E.es x L R -> L[i]? = some (m k j) -> Kp h (elp E.es x i 0) E.kp
 st : ∀ {h : za} {x : AVal} {L R : List (List AVal)} {i : Nat} {c : List AVal} {k j : Int} {K : za -> Prop}, SlX h E.es x L R -> (∀ id b, foot x = some id -> h id = some b -> b.own = true) -> L[i]? = some c ->
  (∀ h', SlX h' E.es x (L.set i (m k j)) R -> (∀ id b, foot x = some id -> h' id = some b -> b.own = true) -> But x h h' -> K h') -> E.st h (elp E.es x i 0) (v k j) K
 eq : ∀ {h : za} {k i : Int} {K : zQ}, K (.bool true) h -> E.eq h (v k i) (v k i) K
def mkTo (m : Int -> Int -> List AVal) (k n : Nat) : List (List AVal) := (List.range n).map fun (i : Nat) => m (k : Int) (i : Int)
section
variable {m : Int -> Int -> List AVal} {k n i : Nat}
@[simp] theorem zkv : (mkTo m k n).length = n := by simp [mkTo]
theorem zkw (hi : i < n) : (mkTo m k n)[i]? = some (m (k : Int) (i : Int)) := by simp [mkTo, hi]
theorem mkTo_succ : mkTo m k (n + 1) = mkTo m k n ++ [m (k : Int) (n : Int)] := by simp [mkTo, List.range_succ]
@[simp] theorem mkTo_zero : mkTo m k 0 = [] := rfl
theorem mkTo_over {D : List (List AVal)} (hi : i < D.length) : (mkTo m k i ++ D.drop i).set i (m (k : Int) (i : Int)) = mkTo m k (i + 1) ++ D.drop (i + 1) := by
 rw [List.set_append_right _ _ (by simp), zkv, Nat.sub_self, mkTo_succ, List.drop_eq_getElem_cons hi, List.set_cons_zero, List.append_assoc]
 rfl
theorem mkTo_at {D : List (List AVal)} (hi : i < D.length) : (mkTo m k i ++ D.drop i)[i]? = some D[i] := by
 rw [List.getElem?_append_right (by simp), zkv, Nat.sub_self, List.getElem?_drop]; simp [hi]
end
theorem zeg {α : Type} (f : Nat -> α) (k : Nat) (v : α) : upf f k v k = v := by simp [upf]
theorem zg4 {α : Type} (f : Nat -> α) {k j : Nat} (v : α) (h : j ≠ k) : upf f k v j = f j := by simp [upf, h]
theorem zi5 {α : Type} (f : Nat -> α) (k : Nat) : upf f k (f k) = f := by funext j; unfold upf; split <;> simp_all
theorem ztz {α : Type} (k : Nat) (v : α) : upf (fun _ => v) k v = fun _ => v := by funext j; unfold upf; split <;> rfl
theorem zrt {α : Type} (f : Nat -> α) (k : Nat) (v w : α) : upf (upf f k v) k w = upf f k w := by funext j; unfold upf; split <;> rfl
section
variable {h : za} {x : AVal} {n k : Nat} {xs : Nat -> AVal} {W : List (List AVal)} (hx : SlX h 1 x (zfw n fun j => [xs j]) W)
include hx
theorem zkx : V.zj x = some (.int .i64 n) := by rw [hx.zj, fills_len]
theorem zgm (hk : k < n) : V.idxS 1 x (.int .i64 (k : Int)) = some (elp 1 x k 0) := hx.idxN (by simpa using hk)
theorem zji (hk : k < n) : A.ldv h (elp 1 x k 0) = some (xs k) := by rw [hx.ldv (zlp _ hk) (by omega)]; rfl
theorem ls_kp (hk : k < n) : Kp h (elp 1 x k 0) none := ⟨_, zji hx hk⟩
end
structure FS (E : zfj) (m : Int -> Int -> List AVal) (h0 h : za) (v5 : AVal) (n : Nat) (xs : Nat -> AVal) (len : Nat -> Nat) (ys : Nat -> AVal) (F : Nat -> List (List AVal)) (gs : Nat -> AVal) : Prop where
 own : Owns h0 h (Objs E.es n ys F (fun _ => []) ++ [.sl 1 v5 (zfw n fun j => [gs j]) []])
 old : ∀ j, j < n -> Old h E.es (xs j) (mkTo m j (len j)) (ys j) (F j)
section
variable {E : zfj} {m : Int -> Int -> List AVal} {v : Int -> Int -> AVal} {h0 h h' : za} {x v5 : AVal} {n k : Nat} {xs ys gs : Nat -> AVal} {len : Nat -> Nat} {F : Nat -> List (List AVal)} {W : List (List AVal)} {Q : zQ}
theorem FS.grow (fs : FS E m h0 h v5 n xs len ys F gs) (hle : h.le h') : FS E m h0 h' v5 n xs len ys F gs := ⟨fs.own.grow hle, fun j hj => (fs.old j hj).mono hle⟩
theorem FS.gAt (fs : FS E m h0 h v5 n xs len ys F gs) : SlX h 1 v5 (zfw n fun j => [gs j]) [] := fs.own.slAt n Objs.getL
theorem FS.yAt (fs : FS E m h0 h v5 n xs len ys F gs) (hk : k < n) : SlX h E.es (ys k) (F k) [] := fs.own.slAt k (Objs.getA hk)
theorem FS.turn (fs : FS E m h0 h v5 n xs len ys F gs) (hk : k < n) {y : AVal} {L : List (List AVal)} (h1 : SlX h' E.es y L []) (h2 : ∀ id b, foot y = some id -> h' id = some b -> b.own = true)
  (h3 : ∀ j b, h j = some b -> foot (ys k) ≠ some j -> h' j = some b) (h4 : foot y = foot (ys k) \/ ∀ id, foot y = some id -> h id = none) (h5 : Old h' E.es (xs k) (mkTo m k (len k)) y L) : FS E m h0 h' v5 n xs len (upf ys k y) (upf F k L) gs := by
 refine ⟨?_, fun j hj => ?_⟩
 ·have := fs.own.turn k (Objs.getA hk) (o' := .sl E.es y L []) h1 h2 h3 h4
  rwa [Objs.setA hk, ztz] at this
 ·by_cases e : j = k
  ·subst e; rw [zeg, zeg]; exact h5
  ·rw [zg4 _ _ e, zg4 _ _ e]
   exact (fs.old j hj).other (z := ys k) h3 (fs.own.ne (Objs.getA hj) (Objs.getA hk) e)
theorem FS.store (fs : FS E m h0 h v5 n xs len ys F gs) (hk : k < n) {y : AVal} (hy : y.zi = true) {K : za -> Prop} (hK : ∀ h', FS E m h0 h' v5 n xs len ys F (upf gs k y) -> K h') : A.st h (elp 1 v5 k 0) y K := by
 refine fs.own.st n Objs.getL (zlp _ hk) (by omega) hy fun h' ho hb => hK h' ⟨?_, fun j hj => ?_⟩
 ·rw [Objs.setL] at ho
  have e : (zfw n fun j => [gs j]).set k ([gs k].set 0 y) = zfw n fun j => [upf gs k y j] := by
   rw [fills_set]
   refine zu7 fun j hj => ?_
   unfold upf
   split <;> rfl
  rwa [e] at ho
 ·exact (fs.old j hj).other hb (fs.own.ne (Objs.getA hj) Objs.getL (by omega))
theorem FS.push (S : zrs C E m v) (fs : FS E m h0 h v5 n xs len ys F gs) (hk : k < n) {cs : List AVal} (hcs : cs.length = E.es) (hl : (F k).length <= 100000100) {K : zQ}
  (hK : ∀ y h', FS E m h0 h' v5 n xs len (upf ys k y) (upf F k (F k ++ [cs])) gs -> K y h') : A.newO h (some cs) fun i h => A.appW h E.es E.bytes (ys k) (.sl i 0 0 1 E.es 1) K := fun i hi => by
 have fg := fs.grow (zhf (zee cs) hi)
 have hmul := Nat.mul_le_mul (show (F k).length + 1 <= 100000101 by omega) S.small
 refine (fg.yAt hk).appW2 (fg.own.zl1 k (Objs.getA hk)) (M := [cs]) (R' := []) (SlX.lit (zbj ..) (by simpa using hcs) rfl (by simp) (by simp)) S.pos (by simp only [List.length_singleton]; omega) (by simp [maxLen]; omega) fun y h' h1 h2 h3 h4 h5 => ?_
 exact hK y h' (fg.turn hk h1 h2 h3 h4 (h5 _ _ (fg.old k hk)))
theorem flat5 (S : zrs C E m v) (hx : SlX h0 1 x (zfw n fun j => [xs j]) W) (fs : FS E m h0 h v5 n xs len ys F gs) (hn : n <= 100000000) (hl : ∀ j, j < n -> len j <= 100000000)
  (hgs : ∀ j, j < n -> gs j = ys j) (hF : ∀ j i, j < n -> i < len j -> (F j)[i]? = some (m j i)) (hq : ∀ h', h0.le h' -> Q (.bool true) h') : ze (zr.l15 E C Q x v5) [.int .i64 0] h := by
 have hx' := hx.mono fs.own.le
 refine ze.intro (fun t vs hh => ∃ k : Nat, k + t = n /\ vs = [.int .i64 k] /\ hh = h) n ?_ ⟨0, by simp, by simp, rfl⟩
 rintro Y t vs hh ⟨k, ht, rfl, rfl⟩ hY
 simp -dsimp [zkx hx']
 refine B.zd (fun hb => ?_) (fun hb => ?_) <;> simp -dsimp at hb ⊢
 ·refine ze.intro (fun t vs h2 => ∃ i : Nat, i + t = len k /\ vs = [.int .i64 i] /\ h2 = hh) (len k) ?_ ⟨0, by simp, by simp, rfl⟩
  rintro Z t' vs h3 ⟨i, hi, rfl, rfl⟩ hZ
  have hold := (fs.old k hb).at_
  have hlk := hl k hb
  have hlx := hold.zj
  rw [zkv] at hlx
  simp -dsimp [zgm hx' hb, zji hx' hb, hlx]
  refine B.zd (fun hc => ?_) (fun hc => ?_) <;> simp -dsimp at hc ⊢
  ·have hyk := fs.yAt hb
   have hFi := hF k i hb hc
   have e1 : V.idxS E.es (xs k) (.int .i64 (i : Int)) = some (elp E.es (xs k) i 0) := hold.idxN (by simpa using hc)
   have e2 : V.idxS E.es (ys k) (.int .i64 (i : Int)) = some (elp E.es (ys k) i 0) := hyk.idxN (List.getElem?_eq_some_iff.1 hFi).1
   have e3 := zji fs.gAt hb
   rw [hgs k hb] at e3
   simp -dsimp only [zgm hx' hb, zji hx' hb, e1, B.zf, B.zg6]
   refine S.ld hold (zkw hc) ?_
   refine S.call _ _ _ _ (keepS2 (ls_kp hx' hb) (S.kpt hold (zkw hc)) ?_)
   refine S.eq ?_
   simp -dsimp [zgm fs.gAt hb, e3, e2]
   refine S.ld hyk hFi ?_
   refine S.call _ _ _ _ (keepS2 (ls_kp fs.gAt hb) (S.kpt hyk hFi) ?_)
   simp -dsimp
   refine S.eq ?_
   simp -dsimp [zgt (n := i) (by omega)]
   exact hZ (len k - (i + 1)) _ _ (by omega) ⟨i + 1, by omega, by simp, rfl⟩
  ·simp -dsimp [zgt (n := k) (by omega)]
   exact hY (n - (k + 1)) _ _ (by omega) ⟨k + 1, by omega, by simp, rfl⟩
 ·exact hq _ fs.own.le
theorem flat4 (S : zrs C E m v) (hx : SlX h0 1 x (zfw n fun j => [xs j]) W) (fs : FS E m h0 h v5 n xs len ys F gs) (hn : n <= 100000000) (hl : ∀ j, j < n -> len j <= 100000000)
  (hgs : ∀ j, j < n -> gs j = ys j) (hF : ∀ j i, j < n -> i < len j -> (F j)[i]? = some (m j i)) (hq : ∀ h', h0.le h' -> Q (.bool true) h') : ze (zr.l40 E C Q x v5) [.int .i64 0] h := by
 refine ze.intro (fun t vs hh => ∃ (k : Nat) (ys gs : Nat -> AVal) (F : Nat -> List (List AVal)), k + t = n /\ vs = [.int .i64 k] /\ FS E m h0 hh v5 n xs len ys F gs /\ (∀ j, j < n -> gs j = ys j) /\ ∀ j i, j < n -> i < len j -> (F j)[i]? = some (m j i)) n ?_
  ⟨0, ys, gs, F, by simp, by simp, fs, hgs, hF⟩
 rintro Y t vs h ⟨k, ys, gs, F, ht, rfl, fs, hgs, hF⟩ hY
 have hx' := hx.mono fs.own.le
 simp -dsimp [zkx hx']
 refine B.zd (fun hb => ?_) (fun hb => ?_) <;> simp -dsimp at hb ⊢
 ·refine ⟨S.pos, (Owns.start h).mks (es := E.es) S.zlen (by omega) (by omega) (by have := S.small; omega) (by omega) fun y h1 ho1 => ?_⟩
  simp only [List.nil_append] at ho1
  refine ze.intro (fun t vs hh => ∃ i : Nat, i + t = 64 /\ vs = [.int .i64 i] /\ ∃ R, Owns h hh [.sl E.es y (mkTo m (k + n : Nat) i ++ (zfw 64 fun _ => E.z).drop i) R]) 64 ?_ ⟨0, by simp, by simp, _, by simpa using ho1⟩
  rintro Z t' vs hh ⟨i, hi, rfl, R, ho⟩ hZ
  simp -dsimp
  refine B.zd (fun hc => ?_) (fun hc => ?_) <;> simp -dsimp at hc ⊢
  ·have e1 : IntKind.i64.wrap ((k : Int) + n) = ((k + n : Nat) : Int) := by rw [wrap_i64 (by omega) (by omega)]; omega
   have hxx := hx'.mono ho.le
   have hi64 : i < (zfw 64 fun _ => E.z).length := by simp; omega
   have hlt : i < (mkTo m (k + n : Nat) i ++ (zfw 64 fun _ => E.z).drop i).length := by simp; omega
   simp -dsimp only [zkx hxx, B.zf, V.zej, e1]
   refine S.call _ _ _ _ ?_
   simp -dsimp only [(ho.slAt 0 rfl).idxN hlt, B.zf]
   refine S.st (ho.slAt 0 rfl) (ho.zl1 0 rfl) (mkTo_at hi64) fun h2 h3 h4 h5 => ?_
   rw [mkTo_over hi64] at h3
   simp -dsimp [zgt (n := i) (by omega)]
   exact hZ (64 - (i + 1)) _ _ (by omega) ⟨i + 1, by omega, by simp, R, ho.turn 0 rfl (o' := .sl E.es y _ R) h3 h4 h5 (.inl rfl)⟩
  ·have hi64 : i = 64 := by omega
   subst hi64
   have hd : (zfw 64 fun _ => E.z).drop 64 = [] := List.drop_of_length_le (by simp)
   rw [hd, List.append_nil] at ho
   have fh := fs.grow ho.le
   have hold := fh.old k hb
   have hxx := hx'.mono ho.le
   have hlk := hl k hb
   have hmul := Nat.mul_le_mul (show len k + 64 <= 100000064 by omega) S.small
   simp -dsimp [zgm hxx hb, zji hxx hb]
   refine hold.at_.appW2 (fun id b e1 e2 => ?_) (ho.slAt 0 rfl) S.pos (by simp only [zkv]; omega) (by simp [maxLen]; omega) fun y' h2 h3 h4 h5 h6 h7 => ?_
   ·rcases hold.ft with e | ⟨e, _⟩
    ·rw [e] at e1; cases e1
    ·rw [e] at e1; exact fh.own.zl1 k (Objs.getA hb) id b e1 e2
   ·have f2 : FS E m h0 h2 v5 n xs len (upf ys k y') (upf F k (mkTo m k (len k) ++ mkTo m (k + n : Nat) 64)) gs := fh.turn hb h3 h4 (fun j b e1 e2 => h5 j b e1 fun e3 => by
      rcases hold.ft with e | ⟨e, _⟩
      ·rw [e] at e3; cases e3
      ·rw [e] at e3; exact e2 e3) (by
      rcases h6 with e | e
      ·rcases hold.ft with e' | ⟨e', _⟩
       ·exact .inr fun id hid => by rw [e, e'] at hid; cases hid
       ·exact .inl (e.trans e')
      ·exact .inr e) (h7 _ _ (Old.refl hold.at_))
    simp -dsimp [zgm f2.gAt hb]
    refine f2.store hb h3.zi fun h8 f3 => ?_
    simp -dsimp [zgt (n := k) (by omega)]
    refine hY (n - (k + 1)) _ _ (by omega) ⟨k + 1, _, _, _, by omega, by simp, f3, fun j hj => ?_, fun j i hj hi => ?_⟩
    ·by_cases e : j = k
     ·subst e; rw [zeg, zeg]
     ·rw [zg4 _ _ e, zg4 _ _ e]; exact hgs j hj
    ·by_cases e : j = k
     ·subst e
      rw [zeg, List.getElem?_append_left (by simpa using hi)]
      exact zkw hi
     ·rw [zg4 _ _ e]; exact hF j i hj hi
 ·exact flat5 S hx fs hn hl hgs hF hq
theorem flat3 (S : zrs C E m v) (hx : SlX h0 1 x (zfw n fun j => [xs j]) W) (fs : FS E m h0 h v5 n xs len ys F gs) (hn : n <= 100000000) (hl : ∀ j, j < n -> len j <= 100000000)
  (hgs : ∀ j, j < n -> gs j = ys j) (hF : ∀ j, j < n -> F j = mkTo m j (len j + 64)) (hq : ∀ h', h0.le h' -> Q (.bool true) h') : ze (zr.l59 E C Q x v5) [.int .i64 0] h := by
 have hx' := hx.mono fs.own.le
 refine ze.intro (fun t vs hh => ∃ k : Nat, k + t = n /\ vs = [.int .i64 k] /\ hh = h) n ?_ ⟨0, by simp, by simp, rfl⟩
 rintro Y t vs hh ⟨k, ht, rfl, rfl⟩ hY
 simp -dsimp [zkx hx']
 refine B.zd (fun hb => ?_) (fun hb => ?_) <;> simp -dsimp at hb ⊢
 ·refine ze.intro (fun t vs h2 => ∃ i : Nat, i + t = len k + 64 /\ vs = [.int .i64 i] /\ h2 = hh) (len k + 64) ?_ ⟨0, by simp, by simp, rfl⟩
  rintro Z t' vs h3 ⟨i, hi, rfl, rfl⟩ hZ
  have hold := (fs.old k hb).at_
  have hlk := hl k hb
  have hlx := hold.zj
  rw [zkv] at hlx
  have hyk := fs.yAt hb
  rw [hF k hb] at hyk
  have hly := hyk.zj
  rw [zkv] at hly
  have e3 := zji fs.gAt hb
  rw [hgs k hb] at e3
  simp -dsimp [zgm fs.gAt hb, e3, hly]
  refine B.zd (fun hc => ?_) (fun hc => ?_)
  ·have hc : i < len k + 64 := by simp at hc; omega
   have e2 : V.idxS E.es (ys k) (.int .i64 (i : Int)) = some (elp E.es (ys k) i 0) := hyk.idxN (by simpa using hc)
   simp -dsimp only [zgm fs.gAt hb, e3, e2, B.zf, B.zg6]
   refine S.ld hyk (zkw hc) ?_
   refine S.call _ _ _ _ (keepS2 (ls_kp fs.gAt hb) (S.kpt hyk (zkw hc)) ?_)
   refine S.eq ?_
   by_cases hd : i < len k
   ·have e1 : V.idxS E.es (xs k) (.int .i64 (i : Int)) = some (elp E.es (xs k) i 0) := hold.idxN (by simpa using hd)
    simp -dsimp [zgm hx' hb, zji hx' hb, hlx, hd, e1]
    refine S.ld hold (zkw hd) ?_
    refine S.call _ _ _ _ (keepS2 (ls_kp hx' hb) (S.kpt hold (zkw hd)) ?_)
    simp -dsimp
    refine S.eq ?_
    simp -dsimp [zgt (n := i) (by omega)]
    exact hZ (len k + 64 - (i + 1)) _ _ (by omega) ⟨i + 1, by omega, by simp, rfl⟩
   ·simp -dsimp [zgm hx' hb, zji hx' hb, hlx, hd]
    simp -dsimp [zgt (n := i) (by omega)]
    exact hZ (len k + 64 - (i + 1)) _ _ (by omega) ⟨i + 1, by omega, by simp, rfl⟩
  ·simp -dsimp [zgt (n := k) (by omega)]
   exact hY (n - (k + 1)) _ _ (by omega) ⟨k + 1, by omega, by simp, rfl⟩
 ·exact flat4 S hx fs hn hl hgs (fun j i hj hi => by rw [hF j hj]; exact zkw (by omega)) hq
theorem flat2 (S : zrs C E m v) (hx : SlX h0 1 x (zfw n fun j => [xs j]) W) (fs : FS E m h0 h v5 n xs len xs (fun j => mkTo m j (len j)) gs) (hn : n <= 100000000) (hl : ∀ j, j < n -> len j <= 100000000)
  (hq : ∀ h', h0.le h' -> Q (.bool true) h') : ze (zr.l82 E C Q x v5) [.int .i64 0] h := by
 refine ze.intro (fun t vs hh => ∃ (k : Nat) (ys gs : Nat -> AVal) (F : Nat -> List (List AVal)), k + t = n /\ vs = [.int .i64 k] /\ FS E m h0 hh v5 n xs len ys F gs /\ (∀ j, j < k -> gs j = ys j /\ F j = mkTo m j (len j + 64)) /\ ∀ j, k <= j -> ys j = xs j /\ F j = mkTo m j (len j)) n ?_
  ⟨0, _, gs, _, by simp, by simp, fs, by simp, fun j _ => ⟨rfl, rfl⟩⟩
 rintro Y t vs h ⟨k, ys, gs, F, ht, rfl, fs, hlo, hhi⟩ hY
 have hx' := hx.mono fs.own.le
 simp -dsimp [zkx hx']
 refine B.zd (fun hb => ?_) (fun hb => ?_) <;> simp -dsimp at hb ⊢
 ·have hk := hhi k (Nat.le_refl k)
  have hlk := hl k hb
  simp -dsimp [zgm hx' hb, zji hx' hb]
  refine ze.intro (fun t vs hh => ∃ (i : Nat) (y : AVal), i + t = 64 /\ vs = [y, .int .i64 i] /\ FS E m h0 hh v5 n xs len (upf ys k y) (upf F k (mkTo m k (len k + i))) gs) 64 ?_ ⟨0, xs k, by simp, by simp, ?_⟩
  ·rintro Z t' vs hh ⟨i, y, hi, rfl, f1⟩ hZ
   have hx1 := hx.mono f1.own.le
   have hold := (f1.old k hb).at_
   have hlx := hold.zj
   rw [zkv] at hlx
   have ey : upf ys k y k = y := zeg ..
   simp -dsimp
   refine B.zd (fun hc => ?_) (fun hc => ?_) <;> simp -dsimp at hc ⊢
   ·have e1 : IntKind.i64.wrap ((len k : Int) + i) = ((len k + i : Nat) : Int) := by rw [wrap_i64 (by omega) (by omega)]; omega
    simp -dsimp only [zgm hx1 hb, zji hx1 hb, hlx, B.zf, B.zg6, V.zej, e1]
    refine S.call _ _ _ _ ?_
    rw [S.new]
    have := f1.push S hb (cs := m k (len k + i : Nat)) (S.len _ _) (by rw [zeg, zkv]; omega) (K := fun v68 h => B.pv (V.bin .add (.int .i64 (i : Int)) (.int .i64 1)) fun v56 => Z [v68, v56] h) fun y' h2 f2 => ?_
    ·rw [ey] at this; exact this
    ·simp -dsimp [zgt (n := i) (by omega)]
     refine hZ (64 - (i + 1)) _ _ (by omega) ⟨i + 1, y', by omega, by simp, ?_⟩
     rw [zrt, zrt, zeg, <- mkTo_succ] at f2
     exact f2
   ·have hi64 : i = 64 := by omega
    subst hi64
    simp -dsimp [zgm f1.gAt hb]
    have hyc := (f1.yAt hb).zi
    rw [ey] at hyc
    refine f1.store hb hyc fun h2 f2 => ?_
    simp -dsimp [zgt (n := k) (by omega)]
    refine hY (n - (k + 1)) _ _ (by omega) ⟨k + 1, _, _, _, by omega, by simp, f2, fun j hj => ?_, fun j hj => ?_⟩
    ·by_cases e : j = k
     ·subst e; rw [zeg, zeg, zeg]; exact ⟨rfl, rfl⟩
     ·rw [zg4 _ _ e, zg4 _ _ e, zg4 _ _ e]; exact hlo j (by omega)
    ·rw [zg4 _ _ (by omega), zg4 _ _ (by omega)]; exact hhi j (by omega)
  ·have e1 : upf ys k (xs k) = ys := by rw [<- hk.1, zi5]
   have e2 : upf F k (mkTo m k (len k + 0)) = F := by rw [Nat.add_zero, <- hk.2, zi5]
   rw [e1, e2]; exact fs
 ·have : k = n := by omega
  subst this
  exact flat3 S hx fs hn hl (fun j hj => (hlo j hj).1) (fun j hj => (hlo j hj).2) hq
theorem zlo (S : zrs C E m v) {D R : Nat -> List (List AVal)} (hx : SlX h0 1 x (zfw n fun j => [xs j]) W) (ho : Owns h0 h (Objs E.es n xs D R)) (hn : n <= 100000000) (hl : ∀ j, j < n -> (D j).length <= 100000000)
  (hq : ∀ h', h0.le h' -> Q (.bool true) h') : zr E C x h Q := by
 refine ze.intro (fun t vs hh => ∃ (k : Nat) (G : Nat -> List (List AVal)), k + t = n /\ vs = [.int .i64 k] /\ Owns h0 hh (Objs E.es n xs G R) /\ (∀ j, j < k -> G j = mkTo m j (D j).length) /\ ∀ j, k <= j -> G j = D j) n ?_
  ⟨0, D, by simp, by simp, ho, by simp, fun j _ => rfl⟩
 rintro Y t vs h ⟨k, G, ht, rfl, ho, hlo, hhi⟩ hY
 have hx' := hx.mono ho.le
 simp -dsimp [zkx hx']
 refine B.zd (fun hb => ?_) (fun hb => ?_) <;> simp -dsimp at hb ⊢
 ·have hlk := hl k hb
  have hgk := hhi k (Nat.le_refl k)
  refine ze.intro (fun t vs hh => ∃ i : Nat, i + t = (D k).length /\ vs = [.int .i64 i] /\ Owns h0 hh (Objs E.es n xs (upf G k (mkTo m k i ++ (D k).drop i)) R)) (D k).length ?_ ⟨0, by simp, by simp, ?_⟩
  ·rintro Z t' vs hh ⟨i, hi, rfl, ho1⟩ hZ
   have hx1 := hx.mono ho1.le
   have hxk := ho1.slAt k (Objs.get hb)
   rw [zeg] at hxk
   have hlx := hxk.zj
   have hll : (mkTo m k i ++ (D k).drop i).length = (D k).length := by simp; omega
   rw [hll] at hlx
   simp -dsimp [zgm hx1 hb, zji hx1 hb, hlx]
   refine B.zd (fun hc => ?_) (fun hc => ?_) <;> simp -dsimp at hc ⊢
   ·have hlt : i < (mkTo m k i ++ (D k).drop i).length := by omega
    simp -dsimp only [zgm hx1 hb, zji hx1 hb, B.zf, B.zg6]
    refine S.call _ _ _ _ (keepS1 (ls_kp hx1 hb) ?_)
    simp -dsimp only [hxk.idxN hlt, B.zf]
    refine S.st hxk (ho1.zl1 k (Objs.get hb)) (mkTo_at hc) fun h2 h3 h4 h5 => ?_
    rw [mkTo_over hc] at h3
    have h6 := ho1.turn k (Objs.get hb) (o' := .sl E.es (xs k) _ (R k)) h3 h4 h5 (.inl rfl)
    rw [Objs.set, zi5, zi5, zrt] at h6
    simp -dsimp [zgt (n := i) (by omega)]
    exact hZ ((D k).length - (i + 1)) _ _ (by omega) ⟨i + 1, by omega, by simp, h6⟩
   ·have hie : i = (D k).length := by omega
    subst hie
    rw [List.drop_length, List.append_nil] at ho1
    simp -dsimp [zgt (n := k) (by omega)]
    refine hY (n - (k + 1)) _ _ (by omega) ⟨k + 1, _, by omega, by simp, ho1, fun j hj => ?_, fun j hj => ?_⟩
    ·by_cases e : j = k
     ·subst e; rw [zeg]
     ·rw [zg4 _ _ e]; exact hlo j (by omega)
    ·rw [zg4 _ _ (by omega)]; exact hhi j (by omega)
  ·simp only [mkTo_zero, List.nil_append, List.drop_zero]
   rw [<- hgk, zi5]; exact ho
 ·have : k = n := by omega
  subst this
  simp -dsimp only [zkx hx', B.zf]
  refine ⟨Nat.one_pos, ?_⟩
  refine ho.mks (bytes := 24) (es := 1) (n := k) (c := k) (z := [.nils]) rfl (by omega) (by omega) (by omega) (by omega) fun y h1 ho1 => ?_
  have e1 : ((k : Int)).toNat = k := by simp
  rw [e1, Nat.sub_self, zse] at ho1
  have ho2 := ho1.cutR
  rw [Objs.congr (ys := xs) (E := fun j => mkTo m j (D j).length) (S := fun _ => []) fun j hj => ⟨rfl, hlo j hj, rfl⟩] at ho2
  exact flat2 S hx ⟨ho2, fun j hj => Old.refl (ho2.slAt j (Objs.getA hj))⟩ hn (fun j hj => hl j hj) hq
end
end Go.Ab
namespace Go.Ab
variable {C : CSem} {N : zN}
structure Scal (T : Type) [DecidableEq T] where
 c : T -> AVal
 cell : ∀ t, (c t).zi = true
 eql : ∀ a b, V.bin .eql (c a) (c b) = some (.bool (decide (a = b)))
 neq : ∀ a b, V.bin .neq (c a) (c b) = some (.bool (!decide (a = b)))
theorem SlX.cell {h : za} {x c : AVal} {L R : List (List AVal)} {i : Nat} (hs : SlX h 1 x L R) (hc : L[i]? = some [c]) : A.ldv h (elp 1 x i 0) = some c := by
 rw [hs.ldv hc (by omega)]; rfl
section
variable {T : Type} [DecidableEq T] (F : Scal T)
abbrev Scal.cs (t : T) : List AVal := [F.c t]
@[simp] def zqo.k2 (Q : zQ) (Y1 : zL) (v0 v1 v5 : AVal) (h : za) : Prop :=
 B.pv (V.zj v0) fun v13 =>
  B.pv (V.bin .lss v5 v13) fun v14 =>
  B.cond v14
  (B.pv (V.idxS 1 v0 v5) fun v19 =>
  B.ld h v19 fun v20 =>
  B.pv (V.idxS 1 v1 v5) fun v23 =>
  B.ld h v23 fun v24 =>
  B.pv (V.bin .neq v20 v24) fun v25 =>
  B.cond v25
  (Q (.bool false) h)
  (B.pv (V.bin .add v5 (.int .i64 1)) fun v16 =>
  Y1 [v16] h))
  (Q (.bool true) h)
@[simp] def zqo.l4 (Q : zQ) (v0 v1 : AVal) : zG
 | [v5], h, Y1 => zqo.k2 Q Y1 v0 v1 v5 h
 | _, _, _ => False
def zqo (v0 v1 : AVal) (h : za) (Q : zQ) : Prop :=
 B.pv (V.zj v0) fun v7 =>
  B.pv (V.zj v1) fun v9 =>
  B.pv (V.bin .neq v7 v9) fun v10 =>
  B.cond v10
  (Q (.bool false) h)
  (ze (zqo.l4 Q v0 v1) [(.int .i64 0)] h)
theorem zvx {x y : AVal} {L M : List T} {R S : List (List AVal)} {h : za} {Q : zQ} (hx : SlX h 1 x (L.map F.cs) R) (hy : SlX h 1 y (M.map F.cs) S) (hlen : L.length < 4611686018427387904)
  (hq : Q (.bool (decide (L = M))) h) : zqo x y h Q := by
 have hlx := hx.zj
 have hly := hy.zj
 rw [List.length_map] at hlx hly
 simp -dsimp [zqo, hlx, hly]
 refine B.zd (fun hb => ?_) (fun hb => ?_) <;> simp -dsimp at hb ⊢
 ·rw [decide_eq_false fun e => hb (by rw [e])] at hq
  exact hq
 ·refine ze.intro (fun n vs hh => ∃ k, k + n = L.length /\ vs = [.int .i64 k] /\ hh = h /\ L.take k = M.take k) L.length ?_ ⟨0, by simp, by simp, rfl, by simp⟩
  rintro Y n vs _ ⟨k, hn, rfl, rfl, he⟩ hY
  simp -dsimp [hlx]
  refine B.zd (fun hc => ?_) (fun hc => ?_) <;> simp -dsimp at hc ⊢
  ·obtain ⟨w, hw⟩ := zc5 hc
   obtain ⟨u, hu⟩ := zc5 (L := M) (k := k) (by omega)
   have hk : k < (L.map F.cs).length := by simpa using hc
   have hk2 : k < (M.map F.cs).length := by simp; omega
   simp only [hx.idxN hk, hy.idxN hk2, hx.cell (get_map hw), hy.cell (get_map hu), B.zf, B.zg6, F.neq]
   refine B.zd (fun hd => ?_) (fun hd => ?_) <;> simp -dsimp at hd ⊢
   ·rw [decide_eq_false fun e => by subst e; rw [hw] at hu; cases hu; exact hd rfl] at hq
    exact hq
   ·simp [zgt (n := k) (by omega)]
    refine hY (L.length - (k + 1)) _ _ (by omega) ⟨k + 1, by omega, by simp, rfl, ?_⟩
    rw [take_succ hw, take_succ hu, he, hd]
  ·rw [List.take_of_length_le (by omega), List.take_of_length_le (by omega)] at he
   rw [decide_eq_true he] at hq
   exact hq
def zho (mk : Int -> T) (n : Nat) : List (List AVal) := (List.range n).map fun (i : Nat) => F.cs (mk (i : Int))
@[simp] theorem cmarks_len (mk : Int -> T) (n : Nat) : (zho F mk n).length = n := by simp [zho]
theorem cmarks_get (mk : Int -> T) {n k : Nat} (hk : k < n) : (zho F mk n)[k]? = some (F.cs (mk k)) := by simp [zho, hk]
theorem cmarks_succ (mk : Int -> T) (n : Nat) : zho F mk (n + 1) = zho F mk n ++ [F.cs (mk n)] := by simp [zho, List.range_succ]
@[simp] def zuz.k2 (C : CSem) (bytes f : Nat) (z : AVal) (m : Int) (Q : zQ) (Y1 : zL) (v0 v3 v4 : AVal) (h : za) : Prop :=
 B.pv (V.bin .lss v4 (.int .i64 12)) fun v13 =>
  B.cond v13
  (B.call C f [(.int .i64 m), v4] h fun v18 h =>
  B.newO h (zcr [(0, none, v18)] (repL 1 [z])) fun i19 h =>
  B.appW h 1 bytes v3 (.sl i19 0 0 1 1 1) fun v20 h =>
  B.pv (V.bin .add v4 (.int .i64 1)) fun v15 =>
  Y1 [v20, v15] h)
  (B.pv (V.zj v0) fun v23 =>
  B.pv (V.zgo 1 v3 none (some v23)) fun v24 =>
  Q v24 h)
@[simp] def zuz.l4 (C : CSem) (bytes f : Nat) (z : AVal) (m : Int) (Q : zQ) (v0 : AVal) : zG
 | [v3, v4], h, Y1 => zuz.k2 C bytes f z m Q Y1 v0 v3 v4 h
 | _, _, _ => False
def zuz (C : CSem) (bytes f : Nat) (z : AVal) (m : Int) (v0 : AVal) (h : za) (Q : zQ) : Prop :=
 B.pv (V.zj v0) fun v6 =>
  B.pv (V.bin .add v6 (.int .i64 12)) fun v7 =>
  0 < 1 /\ B.mks h bytes (some [z]) (.int .i64 0) v7 fun v8 h =>
  B.appW h 1 bytes v8 v0 fun v11 h =>
  ze (zuz.l4 C bytes f z m Q v0) [v11, (.int .i64 0)] h
theorem lentS_specL {bytes f : Nat} {z : AVal} {m : Int} {mk : Int -> T} (s1 : ∀ (i : Int) (h : za) (Q : zQ), Q (F.c (mk i)) h -> C f [.int .i64 m, .int .i64 i] h Q)
  {x : AVal} {L : List T} {R : List (List AVal)} {h : za} {Q : zQ} (hx : SlX h 1 x (L.map F.cs) R) (hlen : L.length <= 4611686018427387000) (hbm : (L.length + 12) * bytes <= 140737488355328)
  (hq : ∀ x' h', Owns h h' [.sl 1 x' (L.map F.cs) (zho F mk 12)] -> Q x' h') : zuz C bytes f z m x h Q := by
 have hlx := hx.zj
 rw [List.length_map] at hlx
 have hmul : ∀ n : Nat, n <= L.length + 12 -> n * bytes <= 140737488355328 := fun n hn => Nat.le_trans (Nat.mul_le_mul_right bytes hn) hbm
 have e1 : IntKind.i64.wrap ((L.length : Int) + 12) = (L.length : Int) + 12 := wrap_i64 (by omega) (by omega)
 simp -dsimp [zuz, hlx, e1]
 refine (Owns.start h).mks (es := 1) rfl (by omega) (by omega) ?_ (by omega) fun y h1 ho => ?_
 ·have := hmul (L.length + 12) (by omega)
  have e : ((L.length : Int) + 12) * bytes = ((L.length + 12) * bytes : Nat) := by simp
  rw [e]; omega
 refine ho.appW 0 rfl (hx.mono ho.le) Nat.one_pos (by simpa using hmul L.length (by omega)) (by simp [maxLen]; omega) fun y2 h2 ho2 _ => ?_
 refine ze.intro (fun n vs hh => ∃ k y, k + n = 12 /\ vs = [y, .int .i64 k] /\ Owns h hh [.sl 1 y (L.map F.cs ++ zho F mk k) []]) 12 ?_ ⟨0, y2, by simp, by simp, by simpa [zho] using ho2⟩
 rintro Y n vs hh ⟨k, y3, hn, rfl, ho3⟩ hY
 simp -dsimp [hlx]
 refine B.zd (fun hc => ?_) (fun hc => ?_) <;> simp -dsimp at hc ⊢
 ·refine s1 _ _ _ ?_
  have hfill : zcr [(0, none, F.c (mk k))] (repL 1 [z]) = some (F.cs (mk k)) := by
   simp [F.cell, repL]
  rw [hfill]
  refine ho3.push 0 rfl rfl Nat.one_pos (by simp; have := hmul (L.length + k + 1) (by omega); omega) (by simp [maxLen]; omega) fun z' h4 ho4 _ => ?_
  simp [zgt (n := k) (by omega)]
  refine hY (12 - (k + 1)) _ _ (by omega) ⟨k + 1, z', by omega, by simp, ?_⟩
  rw [cmarks_succ, <- List.append_assoc]
  exact ho4
 ·have : k = 12 := by omega
  subst this
  obtain ⟨x', e2, e3, e4⟩ := (ho3.slAt 0 rfl).slice Nat.one_pos (lo := 0) (hi := L.length) (a := none) (b := some (.int .i64 L.length)) (.inl ⟨rfl, rfl⟩) (.inr ⟨_, rfl⟩) (by omega) (by simp)
  simp -dsimp [hlx, e2]
  refine hq _ _ (ho3.turn 0 rfl (o' := .sl 1 x' (L.map F.cs) (zho F mk 12)) ?_ (fun id b hf hb => ho3.zl1 0 rfl id b (by show foot y3 = some id; rw [<- e4]; exact hf) hb) (fun j b hb _ => hb) (.inl e4))
  have h1 : ((L.map F.cs ++ zho F mk 12 ++ []).take L.length).drop 0 = L.map F.cs := by simp [List.take_append_of_le_length]
  have h2 : (L.map F.cs ++ zho F mk 12 ++ []).drop L.length = zho F mk 12 := by simp [List.drop_append_of_le_length]
  rw [h1, h2] at e3
  exact e3
@[simp] def zvo.k2 (C : CSem) (f : Nat) (m : Int) (Q : zQ) (Y1 : zL) (v1 v5 v6 : AVal) (h : za) : Prop :=
 B.pv (V.zj v5) fun v19 =>
  B.pv (V.bin .lss v6 v19) fun v20 =>
  B.cond v20
  (B.pv (V.zj v1) fun v25 =>
  B.pv (V.bin .lss v6 v25) fun v26 =>
  B.gd h v26 true (fun K => K v5 h) fun v28 h =>
  B.gd h v26 true (fun K => K v6 h) fun v29 h =>
  B.gd h v26 true (fun K => B.pv (V.idxS 1 v28 v29) fun v => K v h) fun v30 h =>
  B.gd h v26 true (fun K => B.ld h v30 fun v => K v h) fun v31 h =>
  B.gd h v26 true (fun K => K v1 h) fun v32 h =>
  B.gd h v26 true (fun K => K v6 h) fun v33 h =>
  B.gd h v26 true (fun K => B.pv (V.idxS 1 v32 v33) fun v => K v h) fun v34 h =>
  B.gd h v26 true (fun K => B.ld h v34 fun v => K v h) fun v35 h =>
  B.gd h v26 true (fun K => B.pv (V.bin .eql v31 v35) fun v => K v h) fun v36 h =>
  B.gd h v26 true (fun K => B.pv (V.un .not v36) fun v => K v h) fun v37 h =>
  B.pick v26 v37 (.bool false) fun v38 =>
  B.gd h v38 false (fun K => K v6 h) fun v40 h =>
  B.gd h v38 false (fun K => K v1 h) fun v41 h =>
  B.gd h v38 false (fun K => B.pv (V.zj v41) fun v => K v h) fun v42 h =>
  B.gd h v38 false (fun K => B.pv (V.bin .geq v40 v42) fun v => K v h) fun v43 h =>
  B.gd h v38 false (fun K => K v43 h) fun v44 h =>
  B.gd h v44 true (fun K => K v5 h) fun v45 h =>
  B.gd h v44 true (fun K => K v6 h) fun v46 h =>
  B.gd h v44 true (fun K => B.pv (V.idxS 1 v45 v46) fun v => K v h) fun v47 h =>
  B.gd h v44 true (fun K => B.ld h v47 fun v => K v h) fun v48 h =>
  B.gd h v44 true (fun K => K v6 h) fun v49 h =>
  B.gd h v44 true (fun K => K v1 h) fun v50 h =>
  B.gd h v44 true (fun K => B.pv (V.zj v50) fun v => K v h) fun v51 h =>
  B.gd h v44 true (fun K => B.pv (V.bin .sub v49 v51) fun v => K v h) fun v52 h =>
  B.gd h v44 true (fun K => B.call C f [(.int .i64 m), v52] h (B.zk5 h [(v47, none)] K)) fun v53 h =>
  B.gd h v44 true (fun K => B.pv (V.bin .eql v48 v53) fun v => K v h) fun v54 h =>
  B.gd h v44 true (fun K => B.pv (V.un .not v54) fun v => K v h) fun v55 h =>
  B.gd h v38 false (fun K => B.pick v44 v55 (.bool false) fun v => K v h) fun v56 h =>
  B.pick v38 (.bool true) v56 fun v57 =>
  B.cond v57
  (Q (.bool false) h)
  (B.pv (V.bin .add v6 (.int .i64 1)) fun v22 =>
  Y1 [v22] h))
  (Q (.bool true) h)
@[simp] def zvo.l4 (C : CSem) (f : Nat) (m : Int) (Q : zQ) (v1 v5 : AVal) : zG
 | [v6], h, Y1 => zvo.k2 C f m Q Y1 v1 v5 v6 h
 | _, _, _ => False
def zvo (C : CSem) (f : Nat) (m : Int) (v0 v1 : AVal) (h : za) (Q : zQ) : Prop :=
 B.pv (V.zj v0) fun v8 =>
  B.pv (V.zj v1) fun v10 =>
  B.pv (V.bin .neq v8 v10) fun v11 =>
  B.cond v11
  (Q (.bool false) h)
  (B.pv (V.zj v1) fun v14 =>
  B.pv (V.bin .add v14 (.int .i64 12)) fun v15 =>
  B.pv (V.zgo 1 v0 none (some v15)) fun v16 =>
  ze (zvo.l4 C f m Q v1 v16) [(.int .i64 0)] h)
theorem keptS_specL {f : Nat} {m : Int} {mk : Int -> T} (s1 : ∀ (i : Int) (h : za) (Q : zQ), Q (F.c (mk i)) h -> C f [.int .i64 m, .int .i64 i] h Q)
  {x y : AVal} {L M : List T} {R : List (List AVal)} {h : za} {Q : zQ} (hx : SlX h 1 x (L.map F.cs) (zho F mk 12)) (hy : SlX h 1 y (M.map F.cs) R) (hlen : L.length <= 4611686018427387000)
  (hq : Q (.bool (decide (L = M))) h) : zvo C f m x y h Q := by
 have hlx := hx.zj
 have hly := hy.zj
 rw [List.length_map] at hlx hly
 simp -dsimp [zvo, hlx, hly]
 refine B.zd (fun hb => ?_) (fun hb => ?_) <;> simp -dsimp at hb ⊢
 ·rw [decide_eq_false fun e => hb (by rw [e])] at hq
  exact hq
 ·have e1 : IntKind.i64.wrap ((M.length : Int) + 12) = ((M.length + 12 : Nat) : Int) := by rw [wrap_i64 (by omega) (by omega)]; omega
  obtain ⟨z, e2, e3, e4⟩ := hx.slice Nat.one_pos (lo := 0) (hi := M.length + 12) (a := none) (b := some (.int .i64 ((M.length + 12 : Nat) : Int))) (.inl ⟨rfl, rfl⟩) (.inr ⟨_, rfl⟩) (by omega) (by simp; omega)
  have h1 : ((L.map F.cs ++ zho F mk 12).take (M.length + 12)).drop 0 = L.map F.cs ++ zho F mk 12 := by rw [List.drop_zero, List.take_of_length_le]; simp; omega
  rw [h1] at e3
  have hlz := e3.zj
  simp only [List.length_append, List.length_map, cmarks_len] at hlz
  simp only [hly, V.zej, e1, e2, B.zf]
  refine ze.intro (fun n vs hh => ∃ k, k + n = L.length + 12 /\ vs = [.int .i64 k] /\ hh = h /\ L.take k = M.take k) (L.length + 12) ?_ ⟨0, by simp, by simp, rfl, by simp⟩
  rintro Y n vs _ ⟨k, hn, rfl, rfl, he⟩ hY
  simp -dsimp [hlz]
  refine B.zd (fun hc => ?_) (fun hc => ?_) <;> simp -dsimp at hc ⊢
  ·have hk : k < (L.map F.cs ++ zho F mk 12).length := by simp; omega
   by_cases hkL : k < L.length
   ·have ew := zc5 hkL
    have eu := zc5 (L := M) (k := k) (by omega)
    obtain ⟨w, hw⟩ := ew
    obtain ⟨u, hu⟩ := eu
    have hk2 : k < (M.map F.cs).length := by simp; omega
    have hkM : k < M.length := by omega
    have hwz : (L.map F.cs ++ zho F mk 12)[k]? = some (F.cs w) := by rw [List.getElem?_append_left (by simpa using hkL)]; exact get_map hw
    by_cases hwu : w = u
    ·subst hwu
     simp -dsimp [hly, hkM, e3.idxN hk, hy.idxN hk2, e3.cell hwz, hy.cell (get_map hu), F.eql, show ¬ M.length <= k by omega, zgt (n := k) (by omega)]
     refine hY (L.length + 12 - (k + 1)) _ _ (by omega) ⟨k + 1, by omega, by simp, rfl, ?_⟩
     rw [take_succ hw, take_succ hu, he]
    ·simp -dsimp [hly, hkM, e3.idxN hk, hy.idxN hk2, e3.cell hwz, hy.cell (get_map hu), F.eql, hwu]
     rw [decide_eq_false fun e => by subst e; rw [hw] at hu; cases hu; exact hwu rfl] at hq
     exact hq
   ·have hkM : ¬ k < M.length := by omega
    have hmk : (L.map F.cs ++ zho F mk 12)[k]? = some (F.cs (mk ((k - M.length : Nat) : Int))) := by
     rw [List.getElem?_append_right (by simp; omega), List.length_map, show k - L.length = k - M.length by omega]
     exact cmarks_get F mk (by omega)
    have e5 : IntKind.i64.wrap ((k : Int) - M.length) = ((k - M.length : Nat) : Int) := by rw [wrap_i64 (by omega) (by omega)]; omega
    simp -dsimp [hly, hkM, e3.idxN hk, e3.cell hmk, show M.length <= k by omega, e5]
    refine s1 _ _ _ ⟨?_, ?_⟩
    ·intro p hp
     rw [List.mem_singleton.1 hp]
     exact ⟨_, e3.cell hmk, e3.cell hmk⟩
    ·simp [F.eql, zgt (n := k) (by omega)]
     refine hY (L.length + 12 - (k + 1)) _ _ (by omega) ⟨k + 1, by omega, by simp, rfl, ?_⟩
     rw [List.take_of_length_le (by omega), List.take_of_length_le (by omega)] at he ⊢
     exact he
  ·rw [List.take_of_length_le (by omega), List.take_of_length_le (by omega)] at he
   rw [decide_eq_true he] at hq
   exact hq
end
@[simp] def zvn.k1 (C : CSem) (es f : Nat) (st : za -> AVal -> AVal -> (za -> Prop) -> Prop) (m : Int) (Q : zQ) (Y1 : zL) (v2 v3 : AVal) (h : za) : Prop :=
 B.pv (V.zj v2) fun v11 =>
  B.pv (V.bin .lss v3 v11) fun v12 =>
  B.cond v12
  (B.call C f [(.int .i64 m), v3] h fun v18 h =>
  B.pv (V.idxS es v2 v3) fun v19 =>
  st h v19 v18 fun h =>
  B.pv (V.bin .add v3 (.int .i64 1)) fun v14 =>
  Y1 [v14] h)
  (Q (.tup []) h)
@[simp] def zvn.l3 (C : CSem) (es f : Nat) (st : za -> AVal -> AVal -> (za -> Prop) -> Prop) (m : Int) (Q : zQ) (v2 : AVal) : zG
 | [v3], h, Y1 => zvn.k1 C es f st m Q Y1 v2 v3 h
 | _, _, _ => False
def zvn (C : CSem) (es f : Nat) (st : za -> AVal -> AVal -> (za -> Prop) -> Prop) (m : Int) (v0 : AVal) (h : za) (Q : zQ) : Prop :=
 B.pv (V.zj v0) fun v6 =>
  B.pv (V.bin .add v6 (.int .i64 12)) fun v7 =>
  B.pv (V.zgo es v0 none (some v7)) fun v8 =>
  ze (zvn.l3 C es f st m Q v8) [(.int .i64 0)] h
theorem overG_specL {es f : Nat} {st : za -> AVal -> AVal -> (za -> Prop) -> Prop} {m : Int} (hes : 0 < es) {v : Int -> AVal} (s1 : ∀ (i : Int) (h : za) (Q : zQ), Q (v i) h -> C f [.int .i64 m, .int .i64 i] h Q)
  (s2 : ∀ {h0 h : za} {x : AVal} {L R : List (List AVal)} {i : Nat} {k : Int} {K : za -> Prop}, Owns h0 h [.sl es x L R] -> i < L.length -> (∀ h' L', L'.length = L.length -> Owns h0 h' [.sl es x L' R] -> K h') -> st h (elp es x i 0) (v k) K)
  {h0 h : za} {x : AVal} {L R : List (List AVal)} {Q : zQ} (ho : Owns h0 h [.sl es x L R]) (hR : R.length = 12) (hlen : L.length <= 4611686018427387000) (hq : ∀ h', h0.le h' -> Q (.tup []) h') : zvn C es f st m x h Q := by
 have hx := ho.slAt 0 rfl
 have hlx := hx.zj
 have e1 : IntKind.i64.wrap ((L.length : Int) + 12) = ((L.length + 12 : Nat) : Int) := by rw [wrap_i64 (by omega) (by omega)]; omega
 obtain ⟨z, e2, e3, e4⟩ := hx.slice hes (lo := 0) (hi := L.length + 12) (a := none) (b := some (.int .i64 ((L.length + 12 : Nat) : Int))) (.inl ⟨rfl, rfl⟩) (.inr ⟨_, rfl⟩) (by omega) (by omega)
 have h1 : ((L ++ R).take (L.length + 12)).drop 0 = L ++ R := by rw [List.drop_zero, List.take_of_length_le]; simp; omega
 rw [h1] at e3
 simp only [zvn, hlx, V.zej, e1, e2, B.zf]
 have hoz : Owns h0 h [.sl es z (L ++ R) ((L ++ R).drop (L.length + 12))] := ho.turn 0 rfl (o' := .sl es z (L ++ R) ((L ++ R).drop (L.length + 12))) e3 (fun id b hf hb => ho.zl1 0 rfl id b (by show foot x = some id; rw [<- e4]; exact hf) hb) (fun j b hb _ => hb) (.inl e4)
 refine ze.intro (fun n vs hh => ∃ (k : Nat) (L' : List (List AVal)), k + n = L.length + 12 /\ vs = [.int .i64 k] /\ L'.length = L.length + 12 /\ Owns h0 hh [.sl es z L' ((L ++ R).drop (L.length + 12))]) (L.length + 12) ?_ ⟨0, L ++ R, by simp, by simp, by simp [hR], hoz⟩
 rintro Y n vs hh ⟨k, L', hn, rfl, hl', ho'⟩ hY
 have hlz := (ho'.slAt 0 rfl).zj
 rw [hl'] at hlz
 simp -dsimp [hlz]
 refine B.zd (fun hc => ?_) (fun hc => ?_) <;> simp -dsimp at hc ⊢
 ·have hk : k < L'.length := by omega
  refine s1 _ _ _ ?_
  simp -dsimp only [(ho'.slAt 0 rfl).idxN hk, B.zf]
  refine s2 ho' hk fun h' L2 hl2 ho2 => ?_
  simp -dsimp [zgt (n := k) (by omega)]
  exact hY (L.length + 12 - (k + 1)) _ _ (by omega) ⟨k + 1, L2, by omega, by simp, by omega, ho2⟩
 ·exact hq _ ho'.le
theorem over_stS {v : AVal} (hv : v.zi = true) {h0 h : za} {x : AVal} {L R : List (List AVal)} {i : Nat} {K : za -> Prop} (ho : Owns h0 h [.sl 1 x L R]) (hi : i < L.length) (hK : ∀ h' L', L'.length = L.length -> Owns h0 h' [.sl 1 x L' R] -> K h') : B.st h (elp 1 x i 0) v K := by
 refine ho.st 0 rfl (c := L[i]) (by simp [hi]) (by omega) hv fun h' ho' _ => hK h' _ (by simp) ho'
def za.zpj (h : za) (l : List Ob) : za := ⟨fun i => bif l.any (fun o => o.foot == some i) then none else h i, by
 obtain ⟨n, k⟩ := h.2
 refine ⟨n, fun i hi => ?_⟩
 show (bif l.any (fun o => o.foot == some i) then none else h i) = none
 cases l.any (fun o => o.foot == some i)
 ·exact k i hi
 ·rfl⟩
theorem zvs {h : za} {l : List Ob} {i : Nat} {o : Ob} (hm : o ∈ l) (hf : o.foot = some i) : h.zpj l i = none := by
 have : (l.any fun o => o.foot == some i) = true := List.any_eq_true.2 ⟨o, hm, by simp [hf]⟩
 show (bif l.any (fun o => o.foot == some i) then none else h i) = none
 rw [this]; rfl
theorem zpi {h : za} {l : List Ob} {i : Nat} (hm : ∀ o ∈ l, o.foot ≠ some i) : h.zpj l i = h i := by
 have : (l.any fun o => o.foot == some i) = false := by
  rw [<- Bool.not_eq_true, List.any_eq_true]
  rintro ⟨o, h1, h2⟩
  exact hm o h1 (by simpa using h2)
 show (bif l.any (fun o => o.foot == some i) then none else h i) = _
 rw [this]; rfl
theorem without_le (h : za) (l : List Ob) : (h.zpj l).le h := fun i b e => by
 by_cases hm : ∃ o ∈ l, o.foot = some i
 ·obtain ⟨o, h1, h2⟩ := hm
  rw [zvs h1 h2] at e; cases e
 ·rw [zpi fun o h1 h2 => hm ⟨o, h1, h2⟩] at e; exact e
theorem Owns.out {h0 h : za} {l1 l2 : List Ob} (ho : Owns h0 h (l1 ++ l2)) : Owns h0 (h.zpj l2) l1 /\ Owns (h.zpj l2) h l2 := by
 obtain ⟨a1, a2, a3⟩ := List.pairwise_append.1 ho.apart
 have h1 : h0.le (h.zpj l2) := fun i b e => by
  rw [zpi fun o hm hf => by rw [(ho.own o (List.mem_append_right _ hm) i hf).1] at e; cases e]
  exact ho.le i b e
 have keep : ∀ o ∈ l1, ∀ id, o.foot = some id -> (h.zpj l2) id = h id := fun o hm id hf => zpi fun o2 hm2 hf2 => a3 o hm o2 hm2 id hf hf2
 refine ⟨⟨h1, fun o hm => (ho.is o (List.mem_append_left _ hm)).keep fun id b hf hb => by rw [keep o hm id hf]; exact hb, fun o hm id hf => ?_, a1⟩,
  ⟨without_le h l2, fun o hm => ho.is o (List.mem_append_right _ hm), fun o hm id hf => ⟨zvs hm hf, (ho.own o (List.mem_append_right _ hm) id hf).2⟩, a2⟩⟩
 obtain ⟨b1, b2⟩ := ho.own o (List.mem_append_left _ hm) id hf
 exact ⟨b1, fun b hb => b2 b (by rw [<- keep o hm id hf]; exact hb)⟩
theorem Owns.perm {h0 h : za} {l l' : List Ob} (ho : Owns h0 h l) (hp : l.Perm l') : Owns h0 h l' :=
 ⟨ho.le, fun o hm => ho.is o (hp.mem_iff.2 hm), fun o hm => ho.own o (hp.mem_iff.2 hm), (hp.pairwise_iff fun {a b} hab id hb ha => hab id ha hb).1 ho.apart⟩
theorem elF {T : Type} [DecidableEq T] (F : Flat T) {bytes f : Nat} {z : List AVal} {mk : Int -> Int -> T} (hz : z.length = F.es) (hb : bytes <= 1000) (s1 : ∀ (k i : Int) (h : za) (Q : zQ), Q (.agg (F.cs (mk k i))) h -> C f [.int .i64 k, .int .i64 i] h Q) :
  zrs C (opsF F.es bytes z f F.sh) (fun k i => F.cs (mk k i)) (fun k i => .agg (F.cs (mk k i))) where
 pos := F.pos
 small := hb
 len _ _ := F.len _
 zlen := hz
 new k i := by
  have hrep : repL 1 z = z := by unfold repL; split <;> simp
  have h1 := F.len (mk k i)
  show zcr [(0, some F.es, AVal.agg (F.cs (mk k i)))] (repL 1 z) = _
  rw [hrep]
  simp [h1, hz]
 call := s1
 ld hs hc hk := by
  simp only [opsF, B.zhn] at hs ⊢
  rw [hs.elem hc]; exact hk
 kpt hs hc := ⟨_, hs.elem hc⟩
 st {h x L R i c k j K} hs hown hc hk := by
  refine hs.stn hown hc (F.len _) (by simp [opsF]) ?_
  have hcl := hs.len c (List.mem_append_left _ (List.mem_of_getElem? hc))
  have e : c.take 0 ++ F.cs (mk k j) ++ c.drop (0 + F.es) = F.cs (mk k j) := by
   have : c.length = F.es := hcl
   simp [this]
  rw [e]; exact hk
 eq hk := by simp only [opsF, F.eql, B.zf, decide_true]; exact hk
theorem elS {bytes f : Nat} {z : AVal} {mv : Int -> Int -> AVal} (hc : ∀ k i, (mv k i).zi = true) (he : ∀ k i, V.bin .eql (mv k i) (mv k i) = some (.bool true)) (hb : bytes <= 1000) (s1 : ∀ (k i : Int) (h : za) (Q : zQ), Q (mv k i) h -> C f [.int .i64 k, .int .i64 i] h Q) :
  zrs C (opsS bytes z f) (fun k i => [mv k i]) mv where
 pos := Nat.one_pos
 small := hb
 len _ _ := rfl
 zlen := rfl
 new k i := by simp [opsS, hc, repL]
 call := s1
 ld hs hc hk := by
  simp only [opsS, B.zg6] at hs ⊢
  rw [hs.cell hc]; exact hk
 kpt hs hc := ⟨_, hs.cell hc⟩
 st {h x L R i c k j K} hs hown hcc hk := by
  have hs' : SlX h 1 x L R := hs
  have hcl : c.length = 1 := hs'.len c (List.mem_append_left _ (List.mem_of_getElem? hcc))
  obtain ⟨u, rfl⟩ := List.length_eq_one_iff.1 hcl
  exact hs'.st hown hcc (by omega) (hc _ _) hk
 eq hk := by simp only [opsS, he, B.zf]; exact hk
end Go.Ab
namespace Go.Ab
structure zs4 where
 From : Int
 zrq : Int
 deriving DecidableEq
@[simp] theorem zs4.eta (w : zs4) : zs4.mk w.From w.zrq = w := rfl
structure Lot where
 Id : Int
 Item : List UInt8
 From : Int
 zrq : Int
 Qty : Int
 zkn : Bool
 deriving DecidableEq
@[simp] def Lot.cs (l : Lot) : List AVal := [.int .i64 l.Id, .str l.Item, .int .i64 l.From, .int .i64 l.zrq, .int .i64 l.Qty, .bool l.zkn]
def lotF : Flat Lot where
 cs := Lot.cs
 es := 6
 sh := [.i .i64, .s, .i .i64, .i .i64, .i .i64, .b]
 len _ := rfl
 pos := by omega
 eq a b := by
  cases a; cases b
  simp
structure Use where
 Want : Int
 Lot : Int
 Qty : Int
 deriving DecidableEq
@[simp] def Use.cs (u : Use) : List AVal := [.int .i64 u.Want, .int .i64 u.Lot, .int .i64 u.Qty]
structure Want where
 Item : List UInt8
 Day : Int
 Qty : Int
 deriving DecidableEq
structure Part where
 Item : List UInt8
 Qty : Int
 deriving DecidableEq
@[simp] def Part.cs (u : Part) : List AVal := [.str u.Item, .int .i64 u.Qty]
def partF : Flat Part where
 cs := Part.cs
 es := 2
 sh := [.s, .i .i64]
 len _ := rfl
 pos := by omega
 eq a b := by
  cases a; cases b
  simp
theorem u8_eq (a b : UInt8) : decide ((a.toNat : Int) = b.toNat) = decide (a = b) := by
 rw [decide_eq_decide]
 constructor
 ·intro h; exact UInt8.toNat_inj.1 (by omega)
 ·intro h; rw [h]
structure Line where
 Id : Int
 Item : List UInt8
 Qty : Int
 zvr : Int
 Rank : Int
 State : UInt8
 Day : Int
 Code : List UInt8
 deriving DecidableEq
@[simp] def Line.cs (u : Line) : List AVal := [.int .i64 u.Id, .str u.Item, .int .i64 u.Qty, .int .i64 u.zvr, .int .i64 u.Rank, .int .u8 (u.State.toNat : Int), .int .i64 u.Day, .str u.Code]
def lineF : Flat Line where
 cs := Line.cs
 es := 8
 sh := [.i .i64, .s, .i .i64, .i .i64, .i .i64, .i .u8, .i .i64, .s]
 len _ := rfl
 pos := by omega
 eq a b := by
  cases a; cases b
  simp [u8_eq]
def bS : Scal UInt8 where
 c b := .int .u8 b.toNat
 cell _ := rfl
 eql a b := by rw [V.zmb, u8_eq]
 neq a b := by rw [V.bin_neq, u8_eq]
abbrev bc : UInt8 -> List AVal := bS.cs
def tS : Scal (List UInt8) where
 c b := .str b
 cell _ := rfl
 eql a b := by rw [V.zhz]
 neq a b := by rw [V.bin_sneq]
abbrev tc : List UInt8 -> List AVal := tS.cs
theorem wrap_u8 (n : Int) : IntKind.u8.wrap n = n % 256 := by
 simp [IntKind.wrap, IntKind.bits, IntKind.signed]
theorem u8_wrapN (n : Nat) : IntKind.u8.wrap (n : Int) = ((UInt8.ofNat n).toNat : Int) := by
 rw [wrap_u8]; simp
def byt (m : Int) : UInt8 := UInt8.ofNat (m % 256).toNat
theorem byt_nat (m : Int) : ((byt m).toNat : Int) = m % 256 := by
 have h1 := Int.emod_nonneg m (show (256 : Int) ≠ 0 by omega)
 have h2 := Int.emod_lt_of_pos m (show (0 : Int) < 256 by omega)
 simp [byt]
 omega
theorem zj1 (m : Int) : IntKind.u8.wrap m = ((byt m).toNat : Int) := by rw [wrap_u8, byt_nat]
theorem byt_congr {m n : Int} (h : m % 256 = n % 256) : byt m = byt n := by unfold byt; rw [h]
theorem zsi {k j : IntKind} {a b : Int} (h0 : 0 <= b) (h1 : b < k.bits) : V.bin .shr (.int k a) (.int j b) = some (.int k (a.fdiv (2 ^ b.toNat))) := by
 simp only [V.bin, V.shift]
 rw [if_neg (by omega), Nat.min_eq_left (by omega)]
theorem wrap_u64 (n : Int) : IntKind.u64.wrap n = n % 18446744073709551616 := by
 simp [IntKind.wrap, IntKind.bits, IntKind.signed]
theorem zwi : ∀ s : List UInt8, V.zk2 (s.map bc).flatten = some s
 | [] => rfl
 | a :: r => by
  have := zwi r
  simp only [List.map_cons, List.flatten_cons, List.cons_append, List.nil_append] at this ⊢
  simp only [V.zk2, this]
  simp [V.byteOf?, bS]
theorem zdz {h : za} {x : AVal} {s : List UInt8} {R : List (List AVal)} (hx : SlX h 1 x (s.map bc) R) (K : AVal -> Prop) : (B.zda h x K : Prop) = K (.str s) := by
 have h1 := hx.zhc
 have h2 := hx.rdv
 rw [List.length_map] at h1 h2
 simp only [B.zda, A.zda, h1, h2, zwi]
structure zgd where
 Err : Int
 Id : Int
 Day : Int
 Code : List UInt8
 State : UInt8
 Lots : List Lot
 Uses : List Use
 deriving DecidableEq
@[simp] def zgd.cs (t : zgd) (x y : AVal) : List AVal := [.int .i64 t.Err, .int .i64 t.Id, .int .i64 t.Day, .str t.Code, .int .u8 (t.State.toNat : Int), x, y]
structure zvj (h : za) (t : zgd) (x y : AVal) : Prop where
 lots : ∃ R, SlX h 6 x (t.Lots.map Lot.cs) R
 uses : ∃ R, SlX h 3 y (t.Uses.map Use.cs) R
theorem zvj.mono {h H : za} {t : zgd} {x y : AVal} (ht : zvj h t x y) (hle : h.le H) : zvj H t x y := by
 obtain ⟨⟨R, a⟩, ⟨S, b⟩⟩ := ht
 exact ⟨⟨R, a.mono hle⟩, ⟨S, b.mono hle⟩⟩
theorem u8_of {n : Int} (h1 : IntKind.u8.min <= n) (h2 : n <= IntKind.u8.max) : ((UInt8.ofNat n.toNat).toNat : Int) = n := by
 simp [IntKind.min, IntKind.max, IntKind.bits, IntKind.signed] at h1 h2
 simp
 omega
theorem dByte {H : za} {p : List AVal} (h : zjw H (.i .u8) p) : ∃ b : UInt8, p = bc b := by
 obtain ⟨n, rfl, h1, h2⟩ := h
 exact ⟨UInt8.ofNat n.toNat, by show _ = [AVal.int .u8 _]; rw [u8_of h1 h2]⟩
def cA : Code -> Code
 | .seq a _ => a
 | .cond _ a _ => a
 | .block _ b => b
 | .loop b => b
 | .scope b => b
 | _ => .skip
def cB : Code -> Code
 | .seq _ b => b
 | .cond _ _ b => b
 | _ => .skip
def cI : Code -> Nat
 | .block i _ => i
 | _ => 0
def isS : Code -> Bool
 | .seq _ _ => true
 | _ => false
def isC (t : Nat) : Code -> Bool
 | .cond (.tmp k) _ _ => Nat.beq k t
 | _ => false
def isK : Code -> Bool
 | .block _ _ => true
 | _ => false
def rA : Code -> Code
 | .rangeFunc _ _ a b => .seq a b
 | _ => .skip
def isR (t : Nat) (ps keep : List Nat) : Code -> Bool
 | .rangeFunc (.tmp k) qs a b => Nat.beq k t && (zst qs.toList ps && (zlu a && keep.all fun k => memB (cutL qs.toList a b) k && !memB ps k))
 | _ => false
def isL : Code -> Bool
 | .loop _ => true
 | _ => false
section
variable {P : Program} {C : CSem} {I : Bx}
theorem eS (hC : zjd C) {c : Code} {Q : Ex -> zbg -> za -> Prop} {s : zbg} {h : za} (X : zbg -> za -> Prop) (ha : bwp P C I (cA c) (Ex.then X Q) s h) (hb : ∀ s h, X s h -> bwp P C I (cB c) Q s h) (hk : isS c = true := by kernel_rfl) : bwp P C I c Q s h := by
 cases c <;> first | exact seqB hC rfl hb ha | cases hk
theorem eC {c : Code} {Q : Ex -> zbg -> za -> Prop} {p q : Prop} {s : zbg} {h : za} (t : Nat) (hr : A.cond (s t) p q) (hx : p -> bwp P C I (cA c) Q s h) (hy : q -> bwp P C I (cB c) Q s h) (hk : isC t c = true := by kernel_rfl) : bwp P C I c Q s h := by
 cases c with
 | cond o x y =>
  cases o with
  | tmp k =>
   have e : k = t := Nat.eq_of_beq_eq_true hk
   subst e
   exact condB rfl hx hy hr
  | _ => cases hk
 | _ => cases hk
theorem eK {c : Code} {Q : Ex -> zbg -> za -> Prop} {s : zbg} {h : za} (hb : bwp P C I (cA c) (Ex.inBlock (cI c) Q) s h) (hk : isK c = true := by kernel_rfl) : bwp P C I c Q s h := by
 cases c <;> first | exact hb | cases hk
theorem eL (hC : zjd C) {c : Code} {Q : Ex -> zbg -> za -> Prop} {s : zbg} {h : za} (keep live : List Nat) (G : List AVal -> zG)
  (hr : ze (G (keep.map s)) (live.map s) h)
  (hG : ∀ (Y : zL) (s : zbg) (h : za), G (keep.map s) (live.map s) h Y -> bwp P C I (cA c) (Ex.then (fun s h => Y (live.map s) h) Q) s h)
  (hk : isL c = true := by kernel_rfl) (hw : (keep.all fun k => !memB (zha P I (cA c)) k) = true := by kernel_rfl) : bwp P C I c Q s h := by
 cases c <;> first | exact loopB hC keep live rfl hw hG hr | cases hk
theorem rk_nil {Q : Ex -> zbg -> za -> Prop} {s : zbg} : ∀ j h, RK [] j h -> Q (unj j) s h := fun _ _ x => x.elim
theorem rk_cons {Q : Ex -> zbg -> za -> Prop} {s : zbg} {k : Nat} {p : za -> Prop} {r : List (Nat × (za -> Prop))} (h1 : ∀ h, p h -> Q (unj k) s h) (h2 : ∀ j h, RK r j h -> Q (unj j) s h) : ∀ j h, RK ((k, p) :: r) j h -> Q (unj j) s h := by
 rintro j h (⟨rfl, x⟩ | x)
 ·exact h1 h x
 ·exact h2 j h x
theorem e0 {q p : Prop} (hR : p) (e : q = p := by kernel_rfl) : q := e.mpr hR
theorem natsEq_eq : ∀ {a b : List Nat}, zst a b = true -> a = b
 | [], [], _ => rfl
 | x :: a, y :: b, h => by
  simp only [zst, Bool.and_eq_true] at h
  rw [Nat.eq_of_beq_eq_true h.1, natsEq_eq h.2]
theorem isR_spec {t : Nat} {ps keep : List Nat} {c : Code} (h : isR t ps keep c = true) : ∃ qs a b, c = .rangeFunc (.tmp t) qs a b /\ qs.toList = ps /\ zlu a = true /\ ∀ k ∈ keep, memB (cutL ps a b) k = true /\ memB ps k = false := by
 cases c <;> (try cases h)
 rename_i g qs a b
 cases g <;> (try cases h)
 rename_i k
 simp only [isR, Bool.and_eq_true, List.all_eq_true, Bool.not_eq_true'] at h
 obtain ⟨h1, h2, h3, h4⟩ := h
 have e1 := Nat.eq_of_beq_eq_true h1
 have e2 := natsEq_eq h2
 subst e1 e2
 exact ⟨qs, a, b, rfl, rfl, h3, h4⟩
theorem mem_memB : ∀ {l : List Nat} {k : Nat}, k ∈ l -> memB l k = true
 | x :: r, k, h => by
  simp only [memB]
  rcases List.mem_cons.1 h with rfl | h
  ·rw [Nat.beq_refl]; rfl
  ·rw [mem_memB h]; cases Nat.beq x k <;> rfl
theorem zv8 {ps keep : List Nat} {a b : Code} {s : zbg} (xs : List AVal) (hk : ∀ k ∈ keep, memB (cutL ps a b) k = true /\ memB ps k = false) : keep.map (zlb ps xs (cutS (cutL ps a b) s)) = keep.map s := by
 refine List.map_congr_left fun k hk' => ?_
 obtain ⟨h1, h2⟩ := hk k hk'
 rw [zpp fun p hp e => by subst e; rw [mem_memB hp] at h2; cases h2]
 simp only [cutS, h1, cond_true]
theorem eR1 (hC : zjd C) {c : Code} {Q : Ex -> zbg -> za -> Prop} {s : zbg} {h : za} (t p : Nat) (keep : List Nat) (G : List AVal -> AVal -> za -> (Nat -> za -> Prop) -> Prop) {K : Nat -> za -> Prop}
  (hr : zwk C (s t) (W1 (G (keep.map s))) h K) (hK : ∀ j h, K j h -> Q (unj j) s h)
  (hW : ∀ (E : Nat -> za -> Prop) (s : zbg) (h : za), G (keep.map s) (s p) h E -> bwp P C I (rA c) (fun e _ h2 => E (jn e) h2) s h)
  (hk : isR t [p] keep c = true := by kernel_rfl) : bwp P C I c Q s h := by
 obtain ⟨qs, a, b, rfl, hq, h1, h2⟩ := isR_spec hk
 refine rangeB hC rfl h1 hr hK fun xs h E w => ?_
 match xs, w with
 | [x], w =>
  refine ⟨by rw [<- Array.length_toList, hq]; rfl, ?_⟩
  rw [hq]
  refine hW E _ h ?_
  rw [zv8 [x] h2]
  have : zlb [p] [x] (cutS (cutL [p] a b) s) p = x := by simp only [zlb, putS, Nat.beq_refl, cond_true]
  rw [this]; exact w
theorem eR2 (hC : zjd C) {c : Code} {Q : Ex -> zbg -> za -> Prop} {s : zbg} {h : za} (t p q : Nat) (keep : List Nat) (G : List AVal -> AVal -> AVal -> za -> (Nat -> za -> Prop) -> Prop) {K : Nat -> za -> Prop}
  (hr : zwk C (s t) (W2 (G (keep.map s))) h K) (hK : ∀ j h, K j h -> Q (unj j) s h)
  (hW : ∀ (E : Nat -> za -> Prop) (s : zbg) (h : za), G (keep.map s) (s p) (s q) h E -> bwp P C I (rA c) (fun e _ h2 => E (jn e) h2) s h)
  (hk : (isR t [p, q] keep c && !Nat.beq p q) = true := by kernel_rfl) : bwp P C I c Q s h := by
 rw [Bool.and_eq_true, Bool.not_eq_true'] at hk
 obtain ⟨qs, a, b, rfl, hq, h1, h2⟩ := isR_spec hk.1
 refine rangeB hC rfl h1 hr hK fun xs h E w => ?_
 match xs, w with
 | [x, y], w =>
  refine ⟨by rw [<- Array.length_toList, hq]; rfl, ?_⟩
  rw [hq]
  refine hW E _ h ?_
  rw [zv8 [x, y] h2]
  have e1 : zlb [p, q] [x, y] (cutS (cutL [p, q] a b) s) p = x := by simp only [zlb, putS, Nat.beq_refl, hk.2, cond_true, cond_false]
  have e2 : zlb [p, q] [x, y] (cutS (cutL [p, q] a b) s) q = y := by simp only [zlb, putS, Nat.beq_refl, cond_true]
  rw [e1, e2]; exact w
theorem e1 {c : Code} {Q : Ex -> zbg -> za -> Prop} {s : zbg} {h : za} {p : Prop} (hR : p) (e : bwp P C I c Q s h = p := by kernel_rfl) : bwp P C I c Q s h := e.mpr hR
theorem eF (hm : P.follows .mixedOrders = true) {f : FuncId} {fn : Func} {c : Code} {I : Bx} {args : List AVal} {h : za} {Q : zQ}
  (hx : zjd (AC P) → bwp P (AC P) I c (retB P I fn.results.toList (dn Q)) (zbf args) h) (hf : P.funcs[f]? = some fn := by kernel_rfl) (hb : fn.body = some c := by kernel_rfl) (h1 : (fn.name == "runtime.NumGoroutine") = false := by kernel_rfl)
  (hc : zjo fn.ntmps c = true := by kernel_rfl) (hne : Nat.beq f zoz = false := by kernel_rfl) (hl : Nat.ble args.length fn.ntmps = true := by kernel_rfl) (hB : Nat.ble args.length I.B = true := by kernel_rfl) (hk : chkC P I c = true := by kernel_rfl) : AC P f args h Q :=
 AC_drop (AC_introB hm hf hb (zpd hf (by rw [hb]; rfl) h1) hc hne (Nat.le_of_ble_eq_true hl) (Nat.le_of_ble_eq_true hB) hk (hx (AC_cmono P)))
end
@[simp] def zfh.cps (C : CSem) (N : zN) (a b : AVal) (h : za) (Q : zQ) : Prop :=
 B.pv (V.bin .add a (.int .i64 7)) fun c =>
  B.pv (V.bin .mul (.int .i64 1000003) c) fun d =>
  B.pv (V.bin .add d b) fun e =>
  Q e h
def zfh.Imp (C : CSem) (N : zN) : Prop := im2 C (N 20) (zfh.cps C N)
@[simp] def zcq.k3 (C : CSem) (N : zN) (Q : zQ) (a b : AVal) (h : za) : Prop :=
 B.pv (V.zj a) fun d =>
  B.pv (V.zj b) fun e =>
  B.pv (V.bin .neq d e) fun c =>
  B.cond c
  (Q (.bool false) h)
  (ze (zqo.l4  Q a b) [(.int .i64 0)] h)
def zcq.cps (C : CSem) (N : zN) (a b : AVal) (h : za) (Q : zQ) : Prop :=
 zcq.k3 C N Q a b h
def zcq.Imp (C : CSem) (N : zN) : Prop := im2 C (N 34) (zcq.cps C N)
@[simp] def zcx.k3 (C : CSem) (N : zN) (Q : zQ) (a : AVal) (h : za) : Prop :=
 B.pv (V.zj a) fun c =>
  B.pv (V.bin .add c (.int .i64 12)) fun d =>
  0 < 1 /\ B.mks h 1 (some [.int .u8 0]) (.int .i64 0) d fun e h =>
  B.appW h 1 1 e a fun b h =>
  ze (zuz.l4 C 1 (N 64) (.int .u8 0) 1 Q a) [b, (.int .i64 0)] h
def zcx.cps (C : CSem) (N : zN) (a : AVal) (h : za) (Q : zQ) : Prop :=
 zcx.k3 C N Q a h
def zcx.Imp (C : CSem) (N : zN) : Prop := im1 C (N 37) (zcx.cps C N)
@[simp] def zck.k3 (C : CSem) (N : zN) (Q : zQ) (e a : AVal) (h : za) : Prop :=
 B.pv (V.zj a) fun b =>
  B.pv (V.bin .add b (.int .i64 12)) fun c =>
  B.pv (V.zgo 1 e none (some c)) fun d =>
  ze (zvo.l4 C (N 64) 1 Q a d) [(.int .i64 0)] h
@[simp] def zck.k4 (C : CSem) (N : zN) (Q : zQ) (a b : AVal) (h : za) : Prop :=
 B.pv (V.zj a) fun e =>
  B.pv (V.zj b) fun c =>
  B.pv (V.bin .neq e c) fun d =>
  B.cond d
  (Q (.bool false) h)
  (zck.k3 C N Q a b h)
def zck.cps (C : CSem) (N : zN) (a b : AVal) (h : za) (Q : zQ) : Prop :=
 zck.k4 C N Q a b h
def zck.Imp (C : CSem) (N : zN) : Prop := im2 C (N 39) (zck.cps C N)
@[simp] def zc7.k3 (C : CSem) (N : zN) (Q : zQ) (a : AVal) (h : za) : Prop :=
 B.pv (V.zj a) fun b =>
  B.pv (V.bin .add b (.int .i64 12)) fun c =>
  B.pv (V.zgo 1 a none (some c)) fun d =>
  ze (zvn.l3 C 1 (N 64) (fun h p v K => B.st h p v K) 2 Q d) [(.int .i64 0)] h
def zc7.cps (C : CSem) (N : zN) (a : AVal) (h : za) (Q : zQ) : Prop :=
 zc7.k3 C N Q a h
def zc7.Imp (C : CSem) (N : zN) : Prop := im1 C (N 40) (zc7.cps C N)
@[simp] def zdu.k1 (C : CSem) (N : zN) (Q : zQ) (a : AVal) (h : za) : Prop :=
 B.nilCheck a fun v4 =>
  B.pv (V.fieldAddr 0 v4) fun v5 =>
  B.ld h v5 fun v6 =>
  B.call C (N 80) [v6] h fun y h =>
  B.gd h y true (fun K => K a h) fun v9 h =>
  B.gd h y true (fun K => B.nilCheck v9 fun v => K v h) fun bv h =>
  B.gd h y true (fun K => B.pv (V.fieldAddr 1 bv) fun v => K v h) fun bw h =>
  B.gd h y true (fun K => B.ld h bw fun v => K v h) fun bx h =>
  B.gd h y true (fun K => B.call C (N 81) [bx] h K) fun bz h =>
  B.pick y bz (.bool false) fun k =>
  B.gd h k true (fun K => K a h) fun ca h =>
  B.gd h k true (fun K => B.nilCheck ca fun v => K v h) fun cb h =>
  B.gd h k true (fun K => B.pv (V.fieldAddr 2 cb) fun v => K v h) fun cc h =>
  B.gd h k true (fun K => B.ld h cc fun v => K v h) fun cd h =>
  B.gd h k true (fun K => B.call C (N 82) [cd] h K) fun ce h =>
  B.pick k ce (.bool false) fun l =>
  B.gd h l true (fun K => K a h) fun cf h =>
  B.gd h l true (fun K => B.nilCheck cf fun v => K v h) fun cg h =>
  B.gd h l true (fun K => B.pv (V.fieldAddr 3 cg) fun v => K v h) fun ch h =>
  B.gd h l true (fun K => B.ld h ch fun v => K v h) fun ci h =>
  B.gd h l true (fun K => B.call C (N 83) [ci] h K) fun cj h =>
  B.pick l cj (.bool false) fun m =>
  B.gd h m true (fun K => K a h) fun ck h =>
  B.gd h m true (fun K => B.nilCheck ck fun v => K v h) fun cl h =>
  B.gd h m true (fun K => B.pv (V.fieldAddr 4 cl) fun v => K v h) fun cm h =>
  B.gd h m true (fun K => B.ld h cm fun v => K v h) fun cn h =>
  B.gd h m true (fun K => B.call C (N 84) [cn] h K) fun co h =>
  B.pick m co (.bool false) fun n =>
  B.gd h n true (fun K => K a h) fun cp h =>
  B.gd h n true (fun K => B.nilCheck cp fun v => K v h) fun cq h =>
  B.gd h n true (fun K => B.pv (V.fieldAddr 5 cq) fun v => K v h) fun cr h =>
  B.gd h n true (fun K => B.ld h cr fun v => K v h) fun cs h =>
  B.gd h n true (fun K => B.call C (N 85) [cs] h K) fun ct h =>
  B.pick n ct (.bool false) fun o =>
  B.gd h o true (fun K => K a h) fun cu h =>
  B.gd h o true (fun K => B.nilCheck cu fun v => K v h) fun cv h =>
  B.gd h o true (fun K => B.pv (V.fieldAddr 6 cv) fun v => K v h) fun cw h =>
  B.gd h o true (fun K => B.ld h cw fun v => K v h) fun cx h =>
  B.gd h o true (fun K => B.call C (N 86) [cx] h K) fun cy h =>
  B.pick o cy (.bool false) fun p =>
  B.gd h p true (fun K => K a h) fun cz h =>
  B.gd h p true (fun K => B.nilCheck cz fun v => K v h) fun da h =>
  B.gd h p true (fun K => B.pv (V.fieldAddr 7 da) fun v => K v h) fun db h =>
  B.gd h p true (fun K => B.ld h db fun v => K v h) fun dc h =>
  B.gd h p true (fun K => B.call C (N 87) [dc] h K) fun dd h =>
  B.pick p dd (.bool false) fun q =>
  B.gd h q true (fun K => K a h) fun de h =>
  B.gd h q true (fun K => B.nilCheck de fun v => K v h) fun df h =>
  B.gd h q true (fun K => B.pv (V.fieldAddr 8 df) fun v => K v h) fun dg h =>
  B.gd h q true (fun K => B.ld h dg fun v => K v h) fun dh h =>
  B.gd h q true (fun K => B.call C (N 88) [dh] h K) fun di h =>
  B.pick q di (.bool false) fun r =>
  B.gd h r true (fun K => K a h) fun dj h =>
  B.gd h r true (fun K => B.nilCheck dj fun v => K v h) fun dk h =>
  B.gd h r true (fun K => B.pv (V.fieldAddr 9 dk) fun v => K v h) fun dl h =>
  B.gd h r true (fun K => B.ld h dl fun v => K v h) fun dm h =>
  B.gd h r true (fun K => B.call C (N 89) [dm] h K) fun dn h =>
  B.pick r dn (.bool false) fun s =>
  B.gd h s true (fun K => K a h) fun dp h =>
  B.gd h s true (fun K => B.nilCheck dp fun v => K v h) fun dq h =>
  B.gd h s true (fun K => B.pv (V.fieldAddr 10 dq) fun v => K v h) fun dr h =>
  B.gd h s true (fun K => B.ld h dr fun v => K v h) fun ds h =>
  B.gd h s true (fun K => B.call C (N 90) [ds] h K) fun dt h =>
  B.pick s dt (.bool false) fun t =>
  B.gd h t true (fun K => K a h) fun du h =>
  B.gd h t true (fun K => B.nilCheck du fun v => K v h) fun dv h =>
  B.gd h t true (fun K => B.pv (V.fieldAddr 11 dv) fun v => K v h) fun dw h =>
  B.gd h t true (fun K => B.ld h dw fun v => K v h) fun dx h =>
  B.gd h t true (fun K => B.call C (N 91) [dx] h K) fun dy h =>
  B.pick t dy (.bool false) fun u =>
  B.gd h u true (fun K => K a h) fun dz h =>
  B.gd h u true (fun K => B.nilCheck dz fun v => K v h) fun ea h =>
  B.gd h u true (fun K => B.pv (V.fieldAddr 12 ea) fun v => K v h) fun eb h =>
  B.gd h u true (fun K => B.ld h eb fun v => K v h) fun ec h =>
  B.gd h u true (fun K => B.call C (N 92) [ec] h K) fun ed h =>
  B.pick u ed (.bool false) fun w =>
  B.gd h w true (fun K => K a h) fun ee h =>
  B.gd h w true (fun K => B.nilCheck ee fun v => K v h) fun ef h =>
  B.gd h w true (fun K => B.pv (V.fieldAddr 13 ef) fun v => K v h) fun eg h =>
  B.gd h w true (fun K => B.ld h eg fun v => K v h) fun eh h =>
  B.gd h w true (fun K => B.call C (N 93) [eh] h K) fun ei h =>
  B.pick w ei (.bool false) fun x =>
  B.gd h x true (fun K => K a h) fun z h =>
  B.gd h x true (fun K => B.nilCheck z fun v => K v h) fun aa h =>
  B.gd h x true (fun K => B.pv (V.fieldAddr 14 aa) fun v => K v h) fun ab h =>
  B.gd h x true (fun K => B.ld h ab fun v => K v h) fun ac h =>
  B.gd h x true (fun K => B.call C (N 94) [ac] h K) fun ad h =>
  B.pick x ad (.bool false) fun b =>
  B.gd h b true (fun K => K a h) fun ae h =>
  B.gd h b true (fun K => B.nilCheck ae fun v => K v h) fun af h =>
  B.gd h b true (fun K => B.pv (V.fieldAddr 15 af) fun v => K v h) fun ag h =>
  B.gd h b true (fun K => B.ld h ag fun v => K v h) fun ah h =>
  B.gd h b true (fun K => B.call C (N 95) [ah] h K) fun ai h =>
  B.pick b ai (.bool false) fun c =>
  B.gd h c true (fun K => K a h) fun aj h =>
  B.gd h c true (fun K => B.nilCheck aj fun v => K v h) fun ak h =>
  B.gd h c true (fun K => B.pv (V.fieldAddr 16 ak) fun v => K v h) fun al h =>
  B.gd h c true (fun K => B.ld h al fun v => K v h) fun am h =>
  B.gd h c true (fun K => B.call C (N 96) [am] h K) fun an h =>
  B.pick c an (.bool false) fun d =>
  B.gd h d true (fun K => K a h) fun ao h =>
  B.gd h d true (fun K => B.nilCheck ao fun v => K v h) fun ap h =>
  B.gd h d true (fun K => B.pv (V.fieldAddr 17 ap) fun v => K v h) fun aq h =>
  B.gd h d true (fun K => B.ld h aq fun v => K v h) fun ar h =>
  B.gd h d true (fun K => B.call C (N 97) [ar] h K) fun au h =>
  B.pick d au (.bool false) fun e =>
  B.gd h e true (fun K => K a h) fun av h =>
  B.gd h e true (fun K => B.nilCheck av fun v => K v h) fun aw h =>
  B.gd h e true (fun K => B.pv (V.fieldAddr 18 aw) fun v => K v h) fun ax h =>
  B.gd h e true (fun K => B.ld h ax fun v => K v h) fun ay h =>
  B.gd h e true (fun K => B.call C (N 98) [ay] h K) fun az h =>
  B.pick e az (.bool false) fun f =>
  B.gd h f true (fun K => K a h) fun ba h =>
  B.gd h f true (fun K => B.nilCheck ba fun v => K v h) fun bb h =>
  B.gd h f true (fun K => B.pv (V.fieldAddr 19 bb) fun v => K v h) fun bc h =>
  B.gd h f true (fun K => B.ld h bc fun v => K v h) fun bd h =>
  B.gd h f true (fun K => B.call C (N 99) [bd] h K) fun be h =>
  B.pick f be (.bool false) fun g =>
  B.gd h g true (fun K => K a h) fun bf h =>
  B.gd h g true (fun K => B.nilCheck bf fun v => K v h) fun bg h =>
  B.gd h g true (fun K => B.pv (V.fieldAddr 20 bg) fun v => K v h) fun bh h =>
  B.gd h g true (fun K => B.ld h bh fun v => K v h) fun bi h =>
  B.gd h g true (fun K => B.call C (N 100) [bi] h K) fun bj h =>
  B.pick g bj (.bool false) fun i =>
  B.gd h i true (fun K => K a h) fun bk h =>
  B.gd h i true (fun K => B.nilCheck bk fun v => K v h) fun bl h =>
  B.gd h i true (fun K => B.pv (V.fieldAddr 21 bl) fun v => K v h) fun bm h =>
  B.gd h i true (fun K => B.ld h bm fun v => K v h) fun bn h =>
  B.gd h i true (fun K => B.call C (N 101) [bn] h K) fun bo h =>
  B.pick i bo (.bool false) fun j =>
  B.gd h j true (fun K => K a h) fun bp h =>
  B.gd h j true (fun K => B.nilCheck bp fun v => K v h) fun bq h =>
  B.gd h j true (fun K => B.pv (V.fieldAddr 22 bq) fun v => K v h) fun br h =>
  B.gd h j true (fun K => B.ld h br fun v => K v h) fun bs h =>
  B.gd h j true (fun K => B.call C (N 102) [bs] h K) fun bt h =>
  B.pick j bt (.bool false) fun bu =>
  Q bu h
@[simp] def zdu.cps (C : CSem) (N : zN) (a : AVal) (h : za) (Q : zQ) : Prop :=
 zdu.k1 C N Q a h
def zdu.Imp (C : CSem) (N : zN) : Prop := im1 C (N 62) (zdu.cps C N)
@[simp] def zc2.k1 (C : CSem) (N : zN) (Q : zQ) (c d : AVal) (h : za) : Prop :=
 B.call C (N 20) [c, d] h fun e h =>
  B.pv (V.toInt .u64 e) fun f =>
  B.pv (V.bin .mul f (.int .u64 11400714819323198485)) fun g =>
  B.pv (V.bin .shr g (.int .u64 56)) fun a =>
  B.pv (V.toInt .u8 a) fun b =>
  Q b h
@[simp] def zc2.cps (C : CSem) (N : zN) (a b : AVal) (h : za) (Q : zQ) : Prop :=
 zc2.k1 C N Q a b h
def zc2.Imp (C : CSem) (N : zN) : Prop := im2 C (N 64) (zc2.cps C N)
@[simp] def zdc.k3 (C : CSem) (N : zN) (Q : zQ) (a c : AVal) (h : za) : Prop :=
 B.pv (V.zj a) fun e =>
  B.pv (V.zj c) fun f =>
  B.pv (V.bin .neq e f) fun d =>
  B.cond d
  (Q (.bool false) h)
  (ze (zmm.l4 6 [.i .i64, .s, .i .i64, .i .i64, .i .i64, .b] Q a c) [(.int .i64 0)] h)
def zdc.cps (C : CSem) (N : zN) (a b : AVal) (h : za) (Q : zQ) : Prop :=
 zdc.k3 C N Q a b h
def zdc.Imp (C : CSem) (N : zN) : Prop := im2 C (N 74) (zdc.cps C N)
@[simp] def zea.k1 (C : CSem) (N : zN) (Q : zQ) (a b : AVal) (h : za) : Prop :=
 B.call C (N 20) [a, b] h fun c h =>
  B.pv (A.bld [(0, none, c)] [.int .i64 0, .str [], .int .i64 0, .int .i64 0, .int .i64 0, .bool false]) fun d =>
  B.pv (V.setN 0 6 d (.agg [.int .i64 0, .str [], .int .i64 0, .int .i64 0, .int .i64 0, .bool false])) fun e =>
  B.pv (oneOf (ze9 (V.zcd 0 6 e) (some []))) fun v => Q v h
@[simp] def zea.cps (C : CSem) (N : zN) (a b : AVal) (h : za) (Q : zQ) : Prop :=
 zea.k1 C N Q a b h
def zea.Imp (C : CSem) (N : zN) : Prop := im2 C (N 77) (zea.cps C N)
def zeu.cps (C : CSem) (N : zN) (a : AVal) (h : za) (Q : zQ) : Prop :=
 ze (zr.l103 (opsS 16 (.str []) (N 106)) C Q a) [(.int .i64 0)] h
def zeu.Imp (C : CSem) (N : zN) : Prop := im1 C (N 83) (zeu.cps C N)
def zbb.cps (C : CSem) (N : zN) (a : AVal) (h : za) (Q : zQ) : Prop :=
 ze (zr.l103 (opsF 6 56 [.int .i64 0, .str [], .int .i64 0, .int .i64 0, .int .i64 0, .bool false] (N 77) [.i .i64, .s, .i .i64, .i .i64, .i .i64, .b]) C Q a) [(.int .i64 0)] h
def zbb.Imp (C : CSem) (N : zN) : Prop := im1 C (N 86) (zbb.cps C N)
def zw.cps (C : CSem) (N : zN) (a : AVal) (h : za) (Q : zQ) : Prop :=
 ze (zr.l103 (opsF 2 24 [.str [], .int .i64 0] (N 108) [.s, .i .i64]) C Q a) [(.int .i64 0)] h
def zw.Imp (C : CSem) (N : zN) : Prop := im1 C (N 89) (zw.cps C N)
def z7.cps (C : CSem) (N : zN) (a : AVal) (h : za) (Q : zQ) : Prop :=
 ze (zr.l103 (opsD C 4 72 [.str [], .int .i64 0, .nils, .nils] (N 109) (N 110)) C Q a) [(.int .i64 0)] h
def z7.Imp (C : CSem) (N : zN) : Prop := im1 C (N 90) (z7.cps C N)
def z6.cps (C : CSem) (N : zN) (a : AVal) (h : za) (Q : zQ) : Prop :=
 ze (zr.l103 (opsF 8 80 [.int .i64 0, .str [], .int .i64 0, .int .i64 0, .int .i64 0, .int .u8 0, .int .i64 0, .str []] (N 111) [.i .i64, .s, .i .i64, .i .i64, .i .i64, .i .u8, .i .i64, .s]) C Q a) [(.int .i64 0)] h
def z6.Imp (C : CSem) (N : zN) : Prop := im1 C (N 91) (z6.cps C N)
def zq.cps (C : CSem) (N : zN) (a : AVal) (h : za) (Q : zQ) : Prop :=
 ze (zr.l103 (opsD C 6 96 [.int .i64 0, .int .i64 0, .int .i64 0, .nils, .nils, .nils] (N 115) (N 116)) C Q a) [(.int .i64 0)] h
def zq.Imp (C : CSem) (N : zN) : Prop := im1 C (N 94) (zq.cps C N)
@[simp] def zdi.k1 (C : CSem) (N : zN) (Q : zQ) (a b : AVal) (h : za) : Prop :=
 B.pv (V.toInt .u8 a) fun m =>
  B.pv (V.bin .shr a (.int .u64 8)) fun n =>
  B.pv (V.toInt .u8 n) fun o =>
  B.pv (V.bin .shr a (.int .u64 16)) fun c =>
  B.pv (V.toInt .u8 c) fun d =>
  B.pv (V.toInt .u8 b) fun e =>
  B.pv (V.bin .shr b (.int .u64 8)) fun f =>
  B.pv (V.toInt .u8 f) fun g =>
  B.pv (V.bin .shr b (.int .u64 16)) fun i =>
  B.pv (V.toInt .u8 i) fun j =>
  B.newO h (zcr [(0, none, (.int .u8 35)), (1, none, m), (2, none, o), (3, none, d), (4, none, (.int .u8 47)), (5, none, e), (6, none, g), (7, none, j)] (repL 8 [.int .u8 0])) fun k h =>
  B.zda h (.sl k 0 0 8 1 8) fun l =>
  Q l h
@[simp] def zdi.cps (C : CSem) (N : zN) (a b : AVal) (h : za) (Q : zQ) : Prop :=
 zdi.k1 C N Q a b h
def zdi.Imp (C : CSem) (N : zN) : Prop := im2 C (N 106) (zdi.cps C N)
@[simp] def zdj.k1 (C : CSem) (N : zN) (Q : zQ) (a b : AVal) (h : za) : Prop :=
 B.call C (N 20) [a, b] h fun c h =>
  B.pv (A.bld [(1, none, c)] [.str [], .int .i64 0]) fun d =>
  B.pv (V.setN 0 2 d (.agg [.str [], .int .i64 0])) fun e =>
  B.pv (oneOf (ze9 (V.zcd 0 2 e) (some []))) fun v => Q v h
@[simp] def zdj.cps (C : CSem) (N : zN) (a b : AVal) (h : za) (Q : zQ) : Prop :=
 zdj.k1 C N Q a b h
def zdj.Imp (C : CSem) (N : zN) : Prop := im2 C (N 108) (zdj.cps C N)
@[simp] def zdl.k1 (C : CSem) (N : zN) (Q : zQ) (a b : AVal) (h : za) : Prop :=
 B.call C (N 20) [a, b] h fun c h =>
  B.pv (A.bld [(1, none, c)] [.str [], .int .i64 0, .nils, .nils]) fun d =>
  B.pv (V.setN 0 4 d (.agg [.str [], .int .i64 0, .nils, .nils])) fun e =>
  B.pv (oneOf (ze9 (V.zcd 0 4 e) (some []))) fun v => Q v h
@[simp] def zdl.cps (C : CSem) (N : zN) (a b : AVal) (h : za) (Q : zQ) : Prop :=
 zdl.k1 C N Q a b h
def zdl.Imp (C : CSem) (N : zN) : Prop := im2 C (N 109) (zdl.cps C N)
@[simp] def zdd.k1 (C : CSem) (N : zN) (Q : zQ) (q r : AVal) (h : za) : Prop :=
 B.pv (A.boxN 4 q) fun c =>
  B.pv (A.boxN 4 r) fun d =>
  B.al c (B.pv (V.zg 0 c) fun s =>
  B.al d (B.pv (V.zg 0 d) fun t =>
  B.pv (V.bin .eql s t) fun e =>
  B.al c (B.gd h e true (fun K => K .undef h) fun _ h =>
  B.gd h e true (fun K => B.pv (V.zg 1 c) fun v => K v h) fun f h =>
  B.al d (B.gd h e true (fun K => K .undef h) fun _ h =>
  B.gd h e true (fun K => B.pv (V.zg 1 d) fun v => K v h) fun g h =>
  B.gd h e true (fun K => B.pv (V.bin .eql f g) fun v => K v h) fun i h =>
  B.pick e i (.bool false) fun a =>
  B.al c (B.gd h a true (fun K => K .undef h) fun _ h =>
  B.gd h a true (fun K => B.pv (V.zg 2 c) fun v => K v h) fun j h =>
  B.al d (B.gd h a true (fun K => K .undef h) fun _ h =>
  B.gd h a true (fun K => B.pv (V.zg 2 d) fun v => K v h) fun k h =>
  B.gd h a true (fun K => B.call C (N 132) [j, k] h K) fun l h =>
  B.pick a l (.bool false) fun b =>
  B.al c (B.gd h b true (fun K => K .undef h) fun _ h =>
  B.gd h b true (fun K => B.pv (V.zg 3 c) fun v => K v h) fun m h =>
  B.al d (B.gd h b true (fun K => K .undef h) fun _ h =>
  B.gd h b true (fun K => B.pv (V.zg 3 d) fun v => K v h) fun n h =>
  B.gd h b true (fun K => B.call C (N 133) [m, n] h K) fun o h =>
  B.pick b o (.bool false) fun p =>
  Q p h))))))))
@[simp] def zdd.cps (C : CSem) (N : zN) (a b : AVal) (h : za) (Q : zQ) : Prop :=
 zdd.k1 C N Q a b h
def zdd.Imp (C : CSem) (N : zN) : Prop := im2 C (N 110) (zdd.cps C N)
@[simp] def zdk.k1 (C : CSem) (N : zN) (Q : zQ) (a b : AVal) (h : za) : Prop :=
 B.call C (N 20) [a, b] h fun c h =>
  B.pv (A.bld [(0, none, c)] [.int .i64 0, .str [], .int .i64 0, .int .i64 0, .int .i64 0, .int .u8 0, .int .i64 0, .str []]) fun d =>
  B.pv (V.setN 0 8 d (.agg [.int .i64 0, .str [], .int .i64 0, .int .i64 0, .int .i64 0, .int .u8 0, .int .i64 0, .str []])) fun e =>
  B.pv (oneOf (ze9 (V.zcd 0 8 e) (some []))) fun v => Q v h
@[simp] def zdk.cps (C : CSem) (N : zN) (a b : AVal) (h : za) (Q : zQ) : Prop :=
 zdk.k1 C N Q a b h
def zdk.Imp (C : CSem) (N : zN) : Prop := im2 C (N 111) (zdk.cps C N)
@[simp] def zc6.k1 (C : CSem) (N : zN) (Q : zQ) (a b : AVal) (h : za) : Prop :=
 B.call C (N 20) [a, b] h fun c h =>
  B.pv (A.bld [(0, none, c)] [.int .i64 0, .int .i64 0, .int .i64 0, .nils, .nils, .nils]) fun d =>
  B.pv (V.setN 0 6 d (.agg [.int .i64 0, .int .i64 0, .int .i64 0, .nils, .nils, .nils])) fun e =>
  B.pv (oneOf (ze9 (V.zcd 0 6 e) (some []))) fun v => Q v h
@[simp] def zc6.cps (C : CSem) (N : zN) (a b : AVal) (h : za) (Q : zQ) : Prop :=
 zc6.k1 C N Q a b h
def zc6.Imp (C : CSem) (N : zN) : Prop := im2 C (N 115) (zc6.cps C N)
@[simp] def zcp.k1 (C : CSem) (N : zN) (Q : zQ) (z v1 : AVal) (h : za) : Prop :=
 B.pv (A.boxN 6 z) fun a =>
  B.pv (A.boxN 6 v1) fun b =>
  B.al a (B.pv (V.zg 0 a) fun v6 =>
  B.al b (B.pv (V.zg 0 b) fun v8 =>
  B.pv (V.bin .eql v6 v8) fun g =>
  B.al a (B.gd h g true (fun K => K .undef h) fun _ h =>
  B.gd h g true (fun K => B.pv (V.zg 1 a) fun v => K v h) fun i h =>
  B.al b (B.gd h g true (fun K => K .undef h) fun _ h =>
  B.gd h g true (fun K => B.pv (V.zg 1 b) fun v => K v h) fun j h =>
  B.gd h g true (fun K => B.pv (V.bin .eql i j) fun v => K v h) fun k h =>
  B.pick g k (.bool false) fun c =>
  B.al a (B.gd h c true (fun K => K .undef h) fun _ h =>
  B.gd h c true (fun K => B.pv (V.zg 2 a) fun v => K v h) fun l h =>
  B.al b (B.gd h c true (fun K => K .undef h) fun _ h =>
  B.gd h c true (fun K => B.pv (V.zg 2 b) fun v => K v h) fun m h =>
  B.gd h c true (fun K => B.pv (V.bin .eql l m) fun v => K v h) fun n h =>
  B.pick c n (.bool false) fun d =>
  B.al a (B.gd h d true (fun K => K .undef h) fun _ h =>
  B.gd h d true (fun K => B.pv (V.zg 3 a) fun v => K v h) fun o h =>
  B.al b (B.gd h d true (fun K => K .undef h) fun _ h =>
  B.gd h d true (fun K => B.pv (V.zg 3 b) fun v => K v h) fun p h =>
  B.gd h d true (fun K => B.call C (N 134) [o, p] h K) fun q h =>
  B.pick d q (.bool false) fun e =>
  B.al a (B.gd h e true (fun K => K .undef h) fun _ h =>
  B.gd h e true (fun K => B.pv (V.zg 4 a) fun v => K v h) fun r h =>
  B.al b (B.gd h e true (fun K => K .undef h) fun _ h =>
  B.gd h e true (fun K => B.pv (V.zg 4 b) fun v => K v h) fun s h =>
  B.gd h e true (fun K => B.call C (N 74) [r, s] h K) fun t h =>
  B.pick e t (.bool false) fun f =>
  B.al a (B.gd h f true (fun K => K .undef h) fun _ h =>
  B.gd h f true (fun K => B.pv (V.zg 5 a) fun v => K v h) fun u h =>
  B.al b (B.gd h f true (fun K => K .undef h) fun _ h =>
  B.gd h f true (fun K => B.pv (V.zg 5 b) fun v => K v h) fun w h =>
  B.gd h f true (fun K => B.call C (N 135) [u, w] h K) fun x h =>
  B.pick f x (.bool false) fun y =>
  Q y h))))))))))))
@[simp] def zcp.cps (C : CSem) (N : zN) (a b : AVal) (h : za) (Q : zQ) : Prop :=
 zcp.k1 C N Q a b h
def zcp.Imp (C : CSem) (N : zN) : Prop := im2 C (N 116) (zcp.cps C N)
@[simp] def zdp.k1 (C : CSem) (N : zN) (Q : zQ) (a b : AVal) (h : za) : Prop :=
 B.call C (N 64) [a, b] h fun c h =>
  B.newO h (zcr [(0, none, c)] (repL 1 [.int .u8 0])) fun d h =>
  B.pv (A.bld [(0, none, (.sl d 0 0 1 1 1))] [.nils, .nils]) fun e =>
  B.pv (V.setN 0 2 e (.agg [.nils, .nils])) fun f =>
  B.pv (oneOf (ze9 (V.zcd 0 2 f) (some []))) fun v => Q v h
@[simp] def zdp.cps (C : CSem) (N : zN) (a b : AVal) (h : za) (Q : zQ) : Prop :=
 zdp.k1 C N Q a b h
def zdp.Imp (C : CSem) (N : zN) : Prop := im2 C (N 117) (zdp.cps C N)
@[simp] def zdx.k1 (C : CSem) (N : zN) (Q : zQ) (i j : AVal) (h : za) : Prop :=
 B.pv (A.boxN 2 i) fun b =>
  B.pv (A.boxN 2 j) fun c =>
  B.al b (B.pv (V.zg 0 b) fun k =>
  B.al c (B.pv (V.zg 0 c) fun l =>
  B.call C (N 34) [k, l] h fun a h =>
  B.al b (B.gd h a true (fun K => K .undef h) fun _ h =>
  B.gd h a true (fun K => B.pv (V.zg 1 b) fun v => K v h) fun d h =>
  B.al c (B.gd h a true (fun K => K .undef h) fun _ h =>
  B.gd h a true (fun K => B.pv (V.zg 1 c) fun v => K v h) fun e h =>
  B.gd h a true (fun K => B.call C (N 34) [d, e] h K) fun f h =>
  B.pick a f (.bool false) fun g =>
  Q g h))))
@[simp] def zdx.cps (C : CSem) (N : zN) (a b : AVal) (h : za) (Q : zQ) : Prop :=
 zdx.k1 C N Q a b h
def zdx.Imp (C : CSem) (N : zN) : Prop := im2 C (N 118) (zdx.cps C N)
@[simp] def zc8.k1 (C : CSem) (N : zN) (Q : zQ) (a f : AVal) (h : za) : Prop :=
 B.nilCheck a fun g =>
  B.pv (V.fieldAddr 6 g) fun i =>
  B.ld h i fun j =>
  B.newO h (zcr [(0, none, f)] (repL 1 [.nils])) fun b h =>
  B.appW h 1 24 j (.sl b 0 0 1 1 1) fun c h =>
  B.nilCheck a fun d =>
  B.pv (V.fieldAddr 6 d) fun e =>
  B.st h e c fun h =>
  Q (.tup []) h
@[simp] def zc8.cps (C : CSem) (N : zN) (a b : AVal) (h : za) (Q : zQ) : Prop :=
 zc8.k1 C N Q a b h
def zc8.Imp (C : CSem) (N : zN) : Prop := im2 C (N 130) (zc8.cps C N)
@[simp] def zcv.k3 (C : CSem) (N : zN) (Q : zQ) (a b : AVal) (h : za) : Prop :=
 B.pv (V.zj a) fun d =>
  B.pv (V.zj b) fun e =>
  B.pv (V.bin .neq d e) fun c =>
  B.cond c
  (Q (.bool false) h)
  (ze (zmm.l4 2 [.s, .i .i64] Q a b) [(.int .i64 0)] h)
def zcv.cps (C : CSem) (N : zN) (a b : AVal) (h : za) (Q : zQ) : Prop :=
 zcv.k3 C N Q a b h
def zcv.Imp (C : CSem) (N : zN) : Prop := im2 C (N 132) (zcv.cps C N)
@[simp] def zcu.k3 (C : CSem) (N : zN) (Q : zQ) (a b : AVal) (h : za) : Prop :=
 B.pv (V.zj a) fun d =>
  B.pv (V.zj b) fun e =>
  B.pv (V.bin .neq d e) fun c =>
  B.cond c
  (Q (.bool false) h)
  (ze (zqo.l4  Q a b) [(.int .i64 0)] h)
def zcu.cps (C : CSem) (N : zN) (a b : AVal) (h : za) (Q : zQ) : Prop :=
 zcu.k3 C N Q a b h
def zcu.Imp (C : CSem) (N : zN) : Prop := im2 C (N 133) (zcu.cps C N)
@[simp] def zb5.k1 (C : CSem) (N : zN) (Q : zQ) (Y1 : zL) (b m a : AVal) (h : za) : Prop :=
 B.pv (V.zj b) fun c =>
  B.pv (V.bin .lss a c) fun d =>
  B.cond d
  (B.pv (V.idxS 4 b a) fun e =>
  B.ldn h e 4 fun f =>
  B.pv (V.idxS 4 m a) fun g =>
  B.ldn h g 4 fun i =>
  B.call C (N 110) [f, i] h fun j h =>
  B.pv (V.un .not j) fun k =>
  B.cond k
  (Q (.bool false) h)
  (B.pv (V.bin .add a (.int .i64 1)) fun l =>
  Y1 [l] h))
  (Q (.bool true) h)
@[simp] def zb5.l2 (C : CSem) (N : zN) (Q : zQ) (a b : AVal) : zG
 | [c], h, Y1 => zb5.k1 C N Q Y1 a b c h
 | _, _, _ => False
@[simp] def zb5.k3 (C : CSem) (N : zN) (Q : zQ) (a b : AVal) (h : za) : Prop :=
 B.pv (V.zj a) fun d =>
  B.pv (V.zj b) fun e =>
  B.pv (V.bin .neq d e) fun c =>
  B.cond c
  (Q (.bool false) h)
  (ze (zb5.l2 C N Q a b) [(.int .i64 0)] h)
@[simp] def zb5.cps (C : CSem) (N : zN) (a b : AVal) (h : za) (Q : zQ) : Prop :=
 zb5.k3 C N Q a b h
def zb5.Imp (C : CSem) (N : zN) : Prop := im2 C (N 134) (zb5.cps C N)
@[simp] def zcw.k3 (C : CSem) (N : zN) (Q : zQ) (a b : AVal) (h : za) : Prop :=
 B.pv (V.zj a) fun d =>
  B.pv (V.zj b) fun e =>
  B.pv (V.bin .neq d e) fun c =>
  B.cond c
  (Q (.bool false) h)
  (ze (zmm.l4 8 [.i .i64, .s, .i .i64, .i .i64, .i .i64, .i .u8, .i .i64, .s] Q a b) [(.int .i64 0)] h)
def zcw.cps (C : CSem) (N : zN) (a b : AVal) (h : za) (Q : zQ) : Prop :=
 zcw.k3 C N Q a b h
def zcw.Imp (C : CSem) (N : zN) : Prop := im2 C (N 135) (zcw.cps C N)
@[simp] def zc0.k1 (C : CSem) (N : zN) (Q : zQ) (a f : AVal) (h : za) : Prop :=
 B.nilCheck a fun g =>
  B.pv (V.fieldAddr 11 g) fun i =>
  B.ld h i fun j =>
  B.newO h (zcr [(0, none, f)] (repL 1 [.nils])) fun b h =>
  B.appW h 1 24 j (.sl b 0 0 1 1 1) fun c h =>
  B.nilCheck a fun d =>
  B.pv (V.fieldAddr 11 d) fun e =>
  B.st h e c fun h =>
  Q (.tup []) h
@[simp] def zc0.cps (C : CSem) (N : zN) (a b : AVal) (h : za) (Q : zQ) : Prop :=
 zc0.k1 C N Q a b h
def zc0.Imp (C : CSem) (N : zN) : Prop := im2 C (N 207) (zc0.cps C N)
@[simp] def zbv.k1 (C : CSem) (N : zN) (Q : zQ) (Y1 : zL) (k b a : AVal) (h : za) : Prop :=
 B.pv (V.bin .lss a (.int .i64 12)) fun c =>
  B.cond c
  (B.call C (N 117) [(.int .i64 1), a] h fun d h =>
  B.newO h (zcr [(0, some 2, d)] (repL 1 [.nils, .nils])) fun e h =>
  B.appW h 2 48 b (.sl e 0 0 1 2 1) fun f h =>
  B.pv (V.bin .add a (.int .i64 1)) fun g =>
  Y1 [f, g] h)
  (B.pv (V.zj k) fun i =>
  B.pv (V.zgo 2 b none (some i)) fun j =>
  Q j h)
@[simp] def zbv.l2 (C : CSem) (N : zN) (Q : zQ) (a : AVal) : zG
 | [b, c], h, Y1 => zbv.k1 C N Q Y1 a b c h
 | _, _, _ => False
@[simp] def zbv.k3 (C : CSem) (N : zN) (Q : zQ) (Y2 : zL) (a c b : AVal) (h : za) : Prop :=
 B.pv (V.zj a) fun d =>
  B.pv (V.bin .lss b d) fun e =>
  B.cond e
  (B.pv (V.idxS 2 a b) fun f =>
  B.ldn h f 2 fun g =>
  B.call C (N 271) [g] h fun i h =>
  B.pv (V.setN 0 2 i (.agg [.nils, .nils])) fun n =>
  B.pv (V.zcd 0 2 n) fun j =>
  B.newO h (zcr [(0, some 2, j)] (repL 1 [.nils, .nils])) fun k h =>
  B.appW h 2 48 c (.sl k 0 0 1 2 1) fun l h =>
  B.pv (V.bin .add b (.int .i64 1)) fun m =>
  Y2 [l, m] h)
  (ze (zbv.l2 C N Q a) [c, (.int .i64 0)] h)
@[simp] def zbv.l4 (C : CSem) (N : zN) (Q : zQ) (a : AVal) : zG
 | [b, c], h, Y2 => zbv.k3 C N Q Y2 a b c h
 | _, _, _ => False
@[simp] def zbv.k5 (C : CSem) (N : zN) (Q : zQ) (a : AVal) (h : za) : Prop :=
 B.pv (V.zj a) fun c =>
  B.pv (V.bin .add c (.int .i64 12)) fun d =>
  0 < 2 /\ B.mks h 48 (some [.nils, .nils]) (.int .i64 0) d fun b h =>
  ze (zbv.l4 C N Q a) [b, (.int .i64 0)] h
@[simp] def zbv.cps (C : CSem) (N : zN) (a : AVal) (h : za) (Q : zQ) : Prop :=
 zbv.k5 C N Q a h
def zbv.Imp (C : CSem) (N : zN) : Prop := im1 C (N 254) (zbv.cps C N)
@[simp] def zb7.k1 (C : CSem) (N : zN) (Q : zQ) (Y1 : zL) (e g d : AVal) (h : za) : Prop :=
 B.pv (V.zj g) fun i =>
  B.pv (V.bin .lss d i) fun j =>
  B.cond j
  (B.pv (V.zj e) fun k =>
  B.pv (V.bin .lss d k) fun b =>
  B.gd h b true (fun K => K g h) fun l h =>
  B.gd h b true (fun K => K d h) fun m h =>
  B.gd h b true (fun K => B.pv (V.idxS 2 l m) fun v => K v h) fun n h =>
  B.gd h b true (fun K => B.ldn h n 2 fun v => K v h) fun o h =>
  B.gd h b true (fun K => K e h) fun p h =>
  B.gd h b true (fun K => K d h) fun q h =>
  B.gd h b true (fun K => B.pv (V.idxS 2 p q) fun v => K v h) fun r h =>
  B.gd h b true (fun K => B.ldn h r 2 fun v => K v h) fun s h =>
  B.gd h b true (fun K => B.call C (N 280) [o, s] h K) fun t h =>
  B.gd h b true (fun K => B.pv (V.un .not t) fun v => K v h) fun u h =>
  B.pick b u (.bool false) fun c =>
  B.gd h c false (fun K => K d h) fun w h =>
  B.gd h c false (fun K => K e h) fun x h =>
  B.gd h c false (fun K => B.pv (V.zj x) fun v => K v h) fun y h =>
  B.gd h c false (fun K => B.pv (V.bin .geq w y) fun v => K v h) fun z h =>
  B.gd h c false (fun K => K z h) fun a h =>
  B.gd h a true (fun K => K g h) fun aa h =>
  B.gd h a true (fun K => K d h) fun ab h =>
  B.gd h a true (fun K => B.pv (V.idxS 2 aa ab) fun v => K v h) fun f h =>
  B.gd h a true (fun K => B.ldn h f 2 fun v => K v h) fun ac h =>
  B.gd h a true (fun K => K d h) fun ad h =>
  B.gd h a true (fun K => K e h) fun ae h =>
  B.gd h a true (fun K => B.pv (V.zj ae) fun v => K v h) fun af h =>
  B.gd h a true (fun K => B.pv (V.bin .sub ad af) fun v => K v h) fun ag h =>
  B.gd h a true (fun K => B.call C (N 117) [(.int .i64 1), ag] h (B.zk5 h [(f, some 2)] K)) fun ah h =>
  B.gd h a true (fun K => B.call C (N 118) [ac, ah] h K) fun ai h =>
  B.gd h a true (fun K => B.pv (V.un .not ai) fun v => K v h) fun aj h =>
  B.gd h c false (fun K => B.pick a aj (.bool false) fun v => K v h) fun ak h =>
  B.pick c (.bool true) ak fun al =>
  B.cond al
  (Q (.bool false) h)
  (B.pv (V.bin .add d (.int .i64 1)) fun am =>
  Y1 [am] h))
  (Q (.bool true) h)
@[simp] def zb7.l2 (C : CSem) (N : zN) (Q : zQ) (a b : AVal) : zG
 | [c], h, Y1 => zb7.k1 C N Q Y1 a b c h
 | _, _, _ => False
@[simp] def zb7.k3 (C : CSem) (N : zN) (Q : zQ) (e a : AVal) (h : za) : Prop :=
 B.pv (V.zj a) fun b =>
  B.pv (V.bin .add b (.int .i64 12)) fun c =>
  B.pv (V.zgo 2 e none (some c)) fun d =>
  ze (zb7.l2 C N Q a d) [(.int .i64 0)] h
@[simp] def zb7.k4 (C : CSem) (N : zN) (Q : zQ) (a b : AVal) (h : za) : Prop :=
 B.pv (V.zj a) fun e =>
  B.pv (V.zj b) fun c =>
  B.pv (V.bin .neq e c) fun d =>
  B.cond d
  (Q (.bool false) h)
  (zb7.k3 C N Q a b h)
@[simp] def zb7.cps (C : CSem) (N : zN) (a b : AVal) (h : za) (Q : zQ) : Prop :=
 zb7.k4 C N Q a b h
def zb7.Imp (C : CSem) (N : zN) : Prop := im2 C (N 258) (zb7.cps C N)
@[simp] def zec.k1 (C : CSem) (N : zN) (Q : zQ) (c : AVal) (h : za) : Prop :=
 B.pv (A.boxN 2 c) fun a =>
  B.al a (B.pv (V.zg 0 a) fun d =>
  B.call C (N 37) [d] h fun e h =>
  B.al a (B.pv (V.setF 0 e a) fun a =>
  B.al a (B.pv (V.zg 1 a) fun f =>
  B.call C (N 37) [f] h fun g h =>
  B.al a (B.pv (V.setF 1 g a) fun a =>
  B.pv (V.zcd 0 2 a) fun b =>
  B.pv (V.setN 0 2 b (.agg [.nils, .nils])) fun i =>
  B.pv (oneOf (ze9 (V.zcd 0 2 i) (some []))) fun v => Q v h))))
@[simp] def zec.cps (C : CSem) (N : zN) (a : AVal) (h : za) (Q : zQ) : Prop :=
 zec.k1 C N Q a h
def zec.Imp (C : CSem) (N : zN) : Prop := im1 C (N 271) (zec.cps C N)
@[simp] def zed.k1 (C : CSem) (N : zN) (Q : zQ) (m n : AVal) (h : za) : Prop :=
 B.pv (A.boxN 2 m) fun c =>
  B.pv (A.boxN 2 n) fun d =>
  B.pv (V.zcd 0 2 c) fun o =>
  B.pv (V.zcd 0 2 d) fun p =>
  B.call C (N 118) [o, p] h fun b h =>
  B.al c (B.gd h b true (fun K => K .undef h) fun _ h =>
  B.gd h b true (fun K => B.pv (V.zg 0 c) fun v => K v h) fun e h =>
  B.al d (B.gd h b true (fun K => K .undef h) fun _ h =>
  B.gd h b true (fun K => B.pv (V.zg 0 d) fun v => K v h) fun f h =>
  B.gd h b true (fun K => B.call C (N 39) [e, f] h K) fun g h =>
  B.pick b g (.bool false) fun a =>
  B.al c (B.gd h a true (fun K => K .undef h) fun _ h =>
  B.gd h a true (fun K => B.pv (V.zg 1 c) fun v => K v h) fun i h =>
  B.al d (B.gd h a true (fun K => K .undef h) fun _ h =>
  B.gd h a true (fun K => B.pv (V.zg 1 d) fun v => K v h) fun j h =>
  B.gd h a true (fun K => B.call C (N 39) [i, j] h K) fun k h =>
  B.pick a k (.bool false) fun l =>
  Q l h))))
@[simp] def zed.cps (C : CSem) (N : zN) (a b : AVal) (h : za) (Q : zQ) : Prop :=
 zed.k1 C N Q a b h
def zed.Imp (C : CSem) (N : zN) : Prop := im2 C (N 280) (zed.cps C N)
@[simp] def zcy.k1 (C : CSem) (N : zN) (Q : zQ) (a f : AVal) (h : za) : Prop :=
 B.nilCheck a fun g =>
  B.pv (V.fieldAddr 3 g) fun i =>
  B.ld h i fun j =>
  B.newO h (zcr [(0, none, f)] (repL 1 [.nils])) fun b h =>
  B.appW h 1 24 j (.sl b 0 0 1 1 1) fun c h =>
  B.nilCheck a fun d =>
  B.pv (V.fieldAddr 3 d) fun e =>
  B.st h e c fun h =>
  Q (.tup []) h
@[simp] def zcy.cps (C : CSem) (N : zN) (a b : AVal) (h : za) (Q : zQ) : Prop :=
 zcy.k1 C N Q a b h
def zcy.Imp (C : CSem) (N : zN) : Prop := im2 C (N 405) (zcy.cps C N)
@[simp] def zbx.k1 (C : CSem) (N : zN) (Q : zQ) (Y1 : zL) (b a : AVal) (h : za) : Prop :=
 B.pv (V.zj b) fun c =>
  B.pv (V.bin .lss a c) fun d =>
  B.cond d
  (B.call C (N 117) [(.int .i64 2), a] h fun e h =>
  B.pv (V.idxS 2 b a) fun f =>
  B.stn h f 2 e fun h =>
  B.pv (V.bin .add a (.int .i64 1)) fun g =>
  Y1 [g] h)
  (Q (.tup []) h)
@[simp] def zbx.l2 (C : CSem) (N : zN) (Q : zQ) (a : AVal) : zG
 | [b], h, Y1 => zbx.k1 C N Q Y1 a b h
 | _, _, _ => False
@[simp] def zbx.k3 (C : CSem) (N : zN) (Q : zQ) (a : AVal) (h : za) : Prop :=
 B.pv (V.zj a) fun b =>
  B.pv (V.bin .add b (.int .i64 12)) fun c =>
  B.pv (V.zgo 2 a none (some c)) fun d =>
  ze (zbx.l2 C N Q d) [(.int .i64 0)] h
@[simp] def zbx.k4 (C : CSem) (N : zN) (Q : zQ) (Y2 : zL) (a b : AVal) (h : za) : Prop :=
 B.pv (V.zj a) fun f =>
  B.pv (V.bin .lss b f) fun g =>
  B.cond g
  (B.pv (V.idxS 2 a b) fun c =>
  B.ldn h c 2 fun d =>
  B.call C (N 468) [d] h fun i h =>
  B.pv (V.bin .add b (.int .i64 1)) fun e =>
  Y2 [e] h)
  (zbx.k3 C N Q a h)
@[simp] def zbx.l5 (C : CSem) (N : zN) (Q : zQ) (a : AVal) : zG
 | [b], h, Y2 => zbx.k4 C N Q Y2 a b h
 | _, _, _ => False
@[simp] def zbx.cps (C : CSem) (N : zN) (a : AVal) (h : za) (Q : zQ) : Prop :=
 ze (zbx.l5 C N Q a) [(.int .i64 0)] h
def zbx.Imp (C : CSem) (N : zN) : Prop := im1 C (N 451) (zbx.cps C N)
@[simp] def zb2.k1 (C : CSem) (N : zN) (Q : zQ) (Y1 : zL) (b c a : AVal) (h : za) : Prop :=
 B.pv (V.zj b) fun j =>
  B.pv (V.bin .lss a j) fun d =>
  B.cond d
  (B.pv (V.idxS 1 b a) fun e =>
  B.ld h e fun f =>
  B.call C (N 470) [c, f] h fun k h =>
  B.pv (V.bin .add a (.int .i64 1)) fun g =>
  Y1 [g] h)
  (B.call C (N 62) [c] h fun i h =>
  Q i h)
@[simp] def zb2.l2 (C : CSem) (N : zN) (Q : zQ) (a b : AVal) : zG
 | [c], h, Y1 => zb2.k1 C N Q Y1 a b c h
 | _, _, _ => False
@[simp] def zb2.k3 (C : CSem) (N : zN) (Q : zQ) (a : AVal) (h : za) : Prop :=
 B.pv (A.bld [] [.nils, .nils, .nils, .nils, .nils, .nils, .nils, .nils, .nils, .nils, .nils, .nils, .nils, .nils, .nils, .nils, .nils, .nils, .nils, .nils, .nils, .nils, .nils]) fun b =>
  B.newO h (A.zjp 23 b) fun c h =>
  ze (zb2.l2 C N Q a (.ptr c 0 0)) [(.int .i64 0)] h
@[simp] def zb2.cps (C : CSem) (N : zN) (a : AVal) (h : za) (Q : zQ) : Prop :=
 zb2.k3 C N Q a h
def zb2.Imp (C : CSem) (N : zN) : Prop := im1 C (N 453) (zb2.cps C N)
@[simp] def zeb.k1 (C : CSem) (N : zN) (Q : zQ) (b : AVal) (h : za) : Prop :=
 B.pv (A.boxN 2 b) fun a =>
  B.al a (B.pv (V.zg 0 a) fun c =>
  B.call C (N 40) [c] h fun e h =>
  B.al a (B.pv (V.zg 1 a) fun d =>
  B.call C (N 40) [d] h fun f h =>
  Q (.tup []) h))
@[simp] def zeb.cps (C : CSem) (N : zN) (a : AVal) (h : za) (Q : zQ) : Prop :=
 zeb.k1 C N Q a h
def zeb.Imp (C : CSem) (N : zN) : Prop := im1 C (N 468) (zeb.cps C N)
@[simp] def zbs.k1 (C : CSem) (N : zN) (Q : zQ) (Y1 : zL) (i b a : AVal) (h : za) : Prop :=
 B.pv (V.zj b) fun c =>
  B.pv (V.bin .lss a c) fun d =>
  B.cond d
  (B.pv (V.idxS 6 b a) fun e =>
  B.ldn h e 6 fun f =>
  B.call C (N 473) [i, f] h fun j h =>
  B.pv (V.bin .add a (.int .i64 1)) fun g =>
  Y1 [g] h)
  (Q (.tup []) h)
@[simp] def zbs.l2 (C : CSem) (N : zN) (Q : zQ) (a b : AVal) : zG
 | [c], h, Y1 => zbs.k1 C N Q Y1 a b c h
 | _, _, _ => False
@[simp] def zbs.k3 (C : CSem) (N : zN) (Q : zQ) (a b : AVal) (h : za) : Prop :=
 B.nilCheck a fun g =>
  B.pv (V.fieldAddr 14 g) fun i =>
  B.ld h i fun j =>
  B.newO h (zcr [(0, none, b)] (repL 1 [.nils])) fun c h =>
  B.appW h 1 24 j (.sl c 0 0 1 1 1) fun d h =>
  B.nilCheck a fun e =>
  B.pv (V.fieldAddr 14 e) fun f =>
  B.st h f d fun h =>
  ze (zbs.l2 C N Q a b) [(.int .i64 0)] h
@[simp] def zbs.cps (C : CSem) (N : zN) (a b : AVal) (h : za) (Q : zQ) : Prop :=
 zbs.k3 C N Q a b h
def zbs.Imp (C : CSem) (N : zN) : Prop := im2 C (N 470) (zbs.cps C N)
@[simp] def zc1.k1 (C : CSem) (N : zN) (Q : zQ) (b e : AVal) (h : za) : Prop :=
 B.pv (A.boxN 6 e) fun a =>
  B.al a (B.pv (V.zg 3 a) fun f =>
  B.call C (N 475) [b, f] h fun j h =>
  B.al a (B.pv (V.zg 4 a) fun c =>
  B.call C (N 130) [b, c] h fun g h =>
  B.al a (B.pv (V.zg 5 a) fun d =>
  B.call C (N 207) [b, d] h fun i h =>
  Q (.tup []) h)))
@[simp] def zc1.cps (C : CSem) (N : zN) (a b : AVal) (h : za) (Q : zQ) : Prop :=
 zc1.k1 C N Q a b h
def zc1.Imp (C : CSem) (N : zN) : Prop := im2 C (N 473) (zc1.cps C N)
@[simp] def zby.k1 (C : CSem) (N : zN) (Q : zQ) (Y1 : zL) (i b a : AVal) (h : za) : Prop :=
 B.pv (V.zj b) fun c =>
  B.pv (V.bin .lss a c) fun d =>
  B.cond d
  (B.pv (V.idxS 4 b a) fun e =>
  B.ldn h e 4 fun f =>
  B.call C (N 480) [i, f] h fun j h =>
  B.pv (V.bin .add a (.int .i64 1)) fun g =>
  Y1 [g] h)
  (Q (.tup []) h)
@[simp] def zby.l2 (C : CSem) (N : zN) (Q : zQ) (a b : AVal) : zG
 | [c], h, Y1 => zby.k1 C N Q Y1 a b c h
 | _, _, _ => False
@[simp] def zby.k3 (C : CSem) (N : zN) (Q : zQ) (a b : AVal) (h : za) : Prop :=
 B.nilCheck a fun g =>
  B.pv (V.fieldAddr 10 g) fun i =>
  B.ld h i fun j =>
  B.newO h (zcr [(0, none, b)] (repL 1 [.nils])) fun c h =>
  B.appW h 1 24 j (.sl c 0 0 1 1 1) fun d h =>
  B.nilCheck a fun e =>
  B.pv (V.fieldAddr 10 e) fun f =>
  B.st h f d fun h =>
  ze (zby.l2 C N Q a b) [(.int .i64 0)] h
@[simp] def zby.cps (C : CSem) (N : zN) (a b : AVal) (h : za) (Q : zQ) : Prop :=
 zby.k3 C N Q a b h
def zby.Imp (C : CSem) (N : zN) : Prop := im2 C (N 475) (zby.cps C N)
@[simp] def zc9.k1 (C : CSem) (N : zN) (Q : zQ) (b d : AVal) (h : za) : Prop :=
 B.pv (A.boxN 4 d) fun a =>
  B.al a (B.pv (V.zg 2 a) fun e =>
  B.call C (N 481) [b, e] h fun g h =>
  B.al a (B.pv (V.zg 3 a) fun c =>
  B.call C (N 405) [b, c] h fun f h =>
  Q (.tup []) h))
@[simp] def zc9.cps (C : CSem) (N : zN) (a b : AVal) (h : za) (Q : zQ) : Prop :=
 zc9.k1 C N Q a b h
def zc9.Imp (C : CSem) (N : zN) : Prop := im2 C (N 480) (zc9.cps C N)
@[simp] def zcz.k1 (C : CSem) (N : zN) (Q : zQ) (a f : AVal) (h : za) : Prop :=
 B.nilCheck a fun g =>
  B.pv (V.fieldAddr 9 g) fun i =>
  B.ld h i fun j =>
  B.newO h (zcr [(0, none, f)] (repL 1 [.nils])) fun b h =>
  B.appW h 1 24 j (.sl b 0 0 1 1 1) fun c h =>
  B.nilCheck a fun d =>
  B.pv (V.fieldAddr 9 d) fun e =>
  B.st h e c fun h =>
  Q (.tup []) h
@[simp] def zcz.cps (C : CSem) (N : zN) (a b : AVal) (h : za) (Q : zQ) : Prop :=
 zcz.k1 C N Q a b h
def zcz.Imp (C : CSem) (N : zN) : Prop := im2 C (N 481) (zcz.cps C N)
end Go.Ab
set_option maxRecDepth 100000
namespace Go.Ab
variable {C : CSem} {N : zN}
@[irreducible] def mark (k i : Int) : Int := IntKind.i64.wrap (IntKind.i64.wrap (1000003 * IntKind.i64.wrap (k + 7)) + i)
def zfh.Spec (C : CSem) (N : zN) : Prop := ∀ (k i : Int) (h : za) (Q : zQ), Q (.int .i64 (mark k i)) h -> C (N 20) [.int .i64 k, .int .i64 i] h Q
theorem zfh.spec (i : zfh.Imp C N) : zfh.Spec C N := by
 intro k j h Q hq
 apply i
 simp +contextual -dsimp
 unfold mark at hq
 exact zk hq
structure LL where
 x : AVal
 n : Nat
 xs : Nat -> AVal
 D : Nat -> List (List AVal)
 R : Nat -> List (List AVal)
 W : List (List AVal)
def LL.obs (es : Nat) (t : LL) : List Ob := Objs es t.n t.xs t.D t.R
structure LL.ok (t : LL) (h0 : za) : Prop where
 is : SlX h0 1 t.x (zfw t.n fun j => [t.xs j]) t.W
 n_le : t.n <= 100000000
 zmi : ∀ j, j < t.n -> (t.D j).length <= 100000000
def zgk (C : CSem) (es g : Nat) : Prop := ∀ (t : LL) (h0 h : za) (Q : zQ), t.ok h0 -> Owns h0 h (t.obs es) -> (∀ h', h0.le h' -> Q (.bool true) h') -> C g [t.x] h Q
def zcs (C : CSem) (g : Nat) : Prop := ∀ (x : AVal) (W : List (List AVal)) (h0 h : za) (Q : zQ), SlX h0 1 x [] W -> h0.le h -> (∀ h', h0.le h' -> Q (.bool true) h') -> C g [x] h Q
def markLot (k i : Int) : Lot := ⟨mark k i, [], 0, 0, 0, false⟩
def zea.Spec (C : CSem) (N : zN) : Prop := ∀ (k i : Int) (h : za) (Q : zQ), Q (.agg (markLot k i).cs) h -> C (N 77) [.int .i64 k, .int .i64 i] h Q
theorem zea.spec (i : zea.Imp C N) (s1 : zfh.Spec C N) : zea.Spec C N := by
 intro k j h Q hq
 apply i
 simp +contextual -dsimp
 refine s1 _ _ _ _ ?_
 simp +contextual -dsimp
 exact zk hq
def zdc.Spec (C : CSem) (N : zN) : Prop := ∀ (x y : AVal) (L M : List Lot) (R S : List (List AVal)) (h : za) (Q : zQ), SlX h 6 x (L.map Lot.cs) R -> SlX h 6 y (M.map Lot.cs) S -> L.length < 4611686018427387904 ->
 Q (.bool (decide (L = M))) h -> C (N 74) [x, y] h Q
theorem zdc.spec (i : zdc.Imp C N) : zdc.Spec C N := fun x y L M R S h Q hx hy hlen hq =>
 i x y h Q (zr0 lotF hx hy hlen (zk hq))
theorem zbb.spec (i : zbb.Imp C N) (s1 : zea.Spec C N) : zgk C 6 (N 86) := fun t h0 h Q ht ho hq =>
 i t.x h Q (zlo (elF lotF (bytes := 56) (z := [.int .i64 0, .str [], .int .i64 0, .int .i64 0, .int .i64 0, .bool false]) rfl (by omega) s1) ht.is ho ht.n_le ht.zmi fun h' hle => zk (hq h' hle))
def markPart (k i : Int) : Part := ⟨[], mark k i⟩
def zdj.Spec (C : CSem) (N : zN) : Prop := ∀ (k i : Int) (h : za) (Q : zQ), Q (.agg (markPart k i).cs) h -> C (N 108) [.int .i64 k, .int .i64 i] h Q
theorem zdj.spec (i : zdj.Imp C N) (s1 : zfh.Spec C N) : zdj.Spec C N := by
 intro k j h Q hq
 apply i
 simp +contextual -dsimp
 refine s1 _ _ _ _ ?_
 simp +contextual -dsimp
 exact zk hq
abbrev marksPart : List (List AVal) := marks partF (markPart 1) 12
def zcv.Spec (C : CSem) (N : zN) : Prop := ∀ (x y : AVal) (L M : List Part) (R S : List (List AVal)) (h : za) (Q : zQ), SlX h 2 x (L.map Part.cs) R -> SlX h 2 y (M.map Part.cs) S -> L.length < 4611686018427387904 ->
 Q (.bool (decide (L = M))) h -> C (N 132) [x, y] h Q
theorem zcv.spec (i : zcv.Imp C N) : zcv.Spec C N := fun x y L M R S h Q hx hy hlen hq =>
 i x y h Q (zr0 partF hx hy hlen (zk hq))
theorem zw.spec (i : zw.Imp C N) (s1 : zdj.Spec C N) : zgk C 2 (N 89) := fun t h0 h Q ht ho hq =>
 i t.x h Q (zlo (elF partF (bytes := 24) (z := [.str [], .int .i64 0]) rfl (by omega) s1) ht.is ho ht.n_le ht.zmi fun h' hle => zk (hq h' hle))
def markLine (k i : Int) : Line := ⟨mark k i, [], 0, 0, 0, 0, 0, []⟩
def zdk.Spec (C : CSem) (N : zN) : Prop := ∀ (k i : Int) (h : za) (Q : zQ), Q (.agg (markLine k i).cs) h -> C (N 111) [.int .i64 k, .int .i64 i] h Q
theorem zdk.spec (i : zdk.Imp C N) (s1 : zfh.Spec C N) : zdk.Spec C N := by
 intro k j h Q hq
 apply i
 simp +contextual -dsimp
 refine s1 _ _ _ _ ?_
 simp +contextual -dsimp
 exact zk hq
def zcw.Spec (C : CSem) (N : zN) : Prop := ∀ (x y : AVal) (L M : List Line) (R S : List (List AVal)) (h : za) (Q : zQ), SlX h 8 x (L.map Line.cs) R -> SlX h 8 y (M.map Line.cs) S -> L.length < 4611686018427387904 ->
 Q (.bool (decide (L = M))) h -> C (N 135) [x, y] h Q
theorem zcw.spec (i : zcw.Imp C N) : zcw.Spec C N := fun x y L M R S h Q hx hy hlen hq =>
 i x y h Q (zr0 lineF hx hy hlen (zk hq))
theorem z6.spec (i : z6.Imp C N) (s1 : zdk.Spec C N) : zgk C 8 (N 91) := fun t h0 h Q ht ho hq =>
 i t.x h Q (zlo (elF lineF (bytes := 80) (z := [.int .i64 0, .str [], .int .i64 0, .int .i64 0, .int .i64 0, .int .u8 0, .int .i64 0, .str []]) rfl (by omega) s1) ht.is ho ht.n_le ht.zmi fun h' hle => zk (hq h' hle))
@[irreducible] def zjs (k i : Int) : UInt8 := byt ((IntKind.u64.wrap (IntKind.u64.wrap (mark k i) * 11400714819323198485)).fdiv (2 ^ 56))
def zc2.Spec (C : CSem) (N : zN) : Prop := ∀ (k i : Int) (h : za) (Q : zQ), Q (.int .u8 ((zjs k i).toNat : Int)) h -> C (N 64) [.int .i64 k, .int .i64 i] h Q
theorem zc2.spec (i : zc2.Imp C N) (s1 : zfh.Spec C N) : zc2.Spec C N := by
 intro k j h Q hq
 apply i
 simp +contextual -dsimp
 refine s1 _ _ _ _ ?_
 unfold zjs at hq
 simp +contextual -dsimp [zsi (k := .u64) (j := .u64) (b := 56) (by omega) (by simp [IntKind.bits]), zj1]
 exact zk hq
abbrev marksByte : List (List AVal) := zho bS (zjs 1) 12
@[irreducible] def ztr (k i : Int) : List UInt8 := [35, byt k, byt (k.fdiv 256), byt (k.fdiv 65536), 47, byt i, byt (i.fdiv 256), byt (i.fdiv 65536)]
def zdi.Spec (C : CSem) (N : zN) : Prop := ∀ (k i : Int) (h : za) (Q : zQ), Q (.str (ztr k i)) h -> C (N 106) [.int .i64 k, .int .i64 i] h Q
theorem zdi.spec (i : zdi.Imp C N) : zdi.Spec C N := by
 intro k j h Q hq
 apply i
 simp +contextual -dsimp [zsi (k := .i64) (j := .u64) (b := 8) (by omega) (by simp [IntKind.bits]), zsi (k := .i64) (j := .u64) (b := 16) (by omega) (by simp [IntKind.bits]), zj1]
 intro id hid
 unfold ztr at hq
 have hx : SlX (upd h id (zee [.int .u8 35, .int .u8 ((byt k).toNat : Int), .int .u8 ((byt (k.fdiv 256)).toNat : Int), .int .u8 ((byt (k.fdiv 65536)).toNat : Int), .int .u8 47, .int .u8 ((byt j).toNat : Int), .int .u8 ((byt (j.fdiv 256)).toNat : Int), .int .u8 ((byt (j.fdiv 65536)).toNat : Int)])) 1 (.sl id 0 0 8 1 8) (([35, byt k, byt (k.fdiv 256), byt (k.fdiv 65536), 47, byt j, byt (j.fdiv 256), byt (j.fdiv 65536)] : List UInt8).map bc) [] :=
  SlX.lit (zbj ..) (by simp) rfl (by simp) rfl
 rw [zdz hx]
 exact zrk (zhf _ hid) hq
abbrev marksText : List (List AVal) := zho tS (ztr 1) 12
def zcu.Spec (C : CSem) (N : zN) : Prop := ∀ (x y : AVal) (L M : List (List UInt8)) (R S : List (List AVal)) (h : za) (Q : zQ), SlX h 1 x (L.map tc) R -> SlX h 1 y (M.map tc) S -> L.length < 4611686018427387904 ->
 Q (.bool (decide (L = M))) h -> C (N 133) [x, y] h Q
theorem zcu.spec (i : zcu.Imp C N) : zcu.Spec C N := fun x y L M R S h Q hx hy hlen hq =>
 i x y h Q (zvx tS hx hy hlen (zk hq))
theorem zeu.spec (i : zeu.Imp C N) (s1 : zdi.Spec C N) : zgk C 1 (N 83) := fun t h0 h Q ht ho hq =>
 i t.x h Q (zlo (elS (bytes := 16) (z := .str []) (mv := fun k i => .str (ztr k i)) (fun _ _ => rfl) (fun _ _ => by rw [V.zhz]; simp) (by omega) s1) ht.is ho ht.n_le ht.zmi fun h' hle => zk (hq h' hle))
end Go.Ab
namespace Go.Ab
abbrev LG := List AVal -> za -> (zL) -> Prop
@[simp] def z0 (v0 : AVal) (X : za -> Prop) : LG
 | [v], h, Y => B.pv (V.zj v0) fun n => B.pv (V.bin .lss v n) fun b => B.cond b (False) (X h)
 | _, _, _ => False
def z5 (Q : zQ) (v0 w : AVal) (h : za) : Prop := ze (z0 v0 fun h => Q (.bool true) h) [.int .i64 0] h
def z4 (Q : zQ) (v0 w : AVal) (h : za) : Prop := ze (z0 v0 (z5 Q v0 w)) [.int .i64 0] h
def z3 (Q : zQ) (v0 w : AVal) (h : za) : Prop := ze (z0 v0 (z4 Q v0 w)) [.int .i64 0] h
def z2 (Q : zQ) (v0 w : AVal) (h : za) : Prop := ze (z0 v0 (z3 Q v0 w)) [.int .i64 0] h
def z1 (Q : zQ) (v0 : AVal) (h : za) : Prop := B.pv (V.zj v0) fun n => 0 < 1 /\ B.mks h 24 (some [.nils]) n n fun w h => z2 Q v0 w h
def zkh (v0 : AVal) (h : za) (Q : zQ) : Prop := ze (z0 v0 (z1 Q v0)) [.int .i64 0] h
theorem z0_nil {h0 h : za} {x : AVal} {W : List (List AVal)} {X : za -> Prop} (hx : SlX h0 1 x [] W) (hX : X h) : ze (z0 x X) [.int .i64 0] h := by
 refine ze.intro (fun n vs hh => vs = [.int .i64 0] /\ hh = h) 0 ?_ ⟨rfl, rfl⟩
 rintro Y n vs hh ⟨rfl, rfl⟩ hY
 have l := hx.zj
 simp -dsimp [l]
 exact hX
theorem zfv {C : CSem} {g : Nat} (i : ∀ (v0 : AVal) (h : za) (Q : zQ), zkh v0 h (dn Q) -> C g [v0] h Q) : zcs C g := fun x W h0 h Q hx hle hq => by
 refine i x h Q (z0_nil (hx.mono hle) ?_)
 have l := (hx.mono hle).zj
 unfold z1
 rw [l]
 refine ⟨by omega, ?_⟩
 refine (Owns.start h).mks (bytes := 24) (es := 1) (n := 0) (c := 0) (z := [.nils]) rfl (by omega) (by omega) (by omega) (by omega) fun y h1 ho => ?_
 have h1x := hx.mono (za.le_trans hle ho.le)
 exact z0_nil h1x (z0_nil h1x (z0_nil h1x (z0_nil h1x (zk (hq _ (za.le_trans hle ho.le))))))
def zfk.Imp0 (C : CSem) (N : zN) : Prop := ∀ (v0 : AVal) (h : za) (Q : zQ), zkh v0 h (dn Q) -> C (N 80) [v0] h Q
theorem zfk.nil0 {C : CSem} {N : zN} (i : zfk.Imp0 C N) : zcs C (N 80) := zfv i
def zf6.Imp0 (C : CSem) (N : zN) : Prop := ∀ (v0 : AVal) (h : za) (Q : zQ), zkh v0 h (dn Q) -> C (N 81) [v0] h Q
theorem zf6.nil0 {C : CSem} {N : zN} (i : zf6.Imp0 C N) : zcs C (N 81) := zfv i
def zfr.Imp0 (C : CSem) (N : zN) : Prop := ∀ (v0 : AVal) (h : za) (Q : zQ), zkh v0 h (dn Q) -> C (N 82) [v0] h Q
theorem zfr.nil0 {C : CSem} {N : zN} (i : zfr.Imp0 C N) : zcs C (N 82) := zfv i
def zft.Imp0 (C : CSem) (N : zN) : Prop := ∀ (v0 : AVal) (h : za) (Q : zQ), zkh v0 h (dn Q) -> C (N 84) [v0] h Q
theorem zft.nil0 {C : CSem} {N : zN} (i : zft.Imp0 C N) : zcs C (N 84) := zfv i
def ze0.Imp0 (C : CSem) (N : zN) : Prop := ∀ (v0 : AVal) (h : za) (Q : zQ), zkh v0 h (dn Q) -> C (N 85) [v0] h Q
theorem ze0.nil0 {C : CSem} {N : zN} (i : ze0.Imp0 C N) : zcs C (N 85) := zfv i
def zfl.Imp0 (C : CSem) (N : zN) : Prop := ∀ (v0 : AVal) (h : za) (Q : zQ), zkh v0 h (dn Q) -> C (N 87) [v0] h Q
theorem zfl.nil0 {C : CSem} {N : zN} (i : zfl.Imp0 C N) : zcs C (N 87) := zfv i
def zf4.Imp0 (C : CSem) (N : zN) : Prop := ∀ (v0 : AVal) (h : za) (Q : zQ), zkh v0 h (dn Q) -> C (N 88) [v0] h Q
theorem zf4.nil0 {C : CSem} {N : zN} (i : zf4.Imp0 C N) : zcs C (N 88) := zfv i
def zf7.Imp0 (C : CSem) (N : zN) : Prop := ∀ (v0 : AVal) (h : za) (Q : zQ), zkh v0 h (dn Q) -> C (N 92) [v0] h Q
theorem zf7.nil0 {C : CSem} {N : zN} (i : zf7.Imp0 C N) : zcs C (N 92) := zfv i
def zfn.Imp0 (C : CSem) (N : zN) : Prop := ∀ (v0 : AVal) (h : za) (Q : zQ), zkh v0 h (dn Q) -> C (N 93) [v0] h Q
theorem zfn.nil0 {C : CSem} {N : zN} (i : zfn.Imp0 C N) : zcs C (N 93) := zfv i
def zf5.Imp0 (C : CSem) (N : zN) : Prop := ∀ (v0 : AVal) (h : za) (Q : zQ), zkh v0 h (dn Q) -> C (N 95) [v0] h Q
theorem zf5.nil0 {C : CSem} {N : zN} (i : zf5.Imp0 C N) : zcs C (N 95) := zfv i
def zfm.Imp0 (C : CSem) (N : zN) : Prop := ∀ (v0 : AVal) (h : za) (Q : zQ), zkh v0 h (dn Q) -> C (N 96) [v0] h Q
theorem zfm.nil0 {C : CSem} {N : zN} (i : zfm.Imp0 C N) : zcs C (N 96) := zfv i
def zfs.Imp0 (C : CSem) (N : zN) : Prop := ∀ (v0 : AVal) (h : za) (Q : zQ), zkh v0 h (dn Q) -> C (N 97) [v0] h Q
theorem zfs.nil0 {C : CSem} {N : zN} (i : zfs.Imp0 C N) : zcs C (N 97) := zfv i
def ze2.Imp0 (C : CSem) (N : zN) : Prop := ∀ (v0 : AVal) (h : za) (Q : zQ), zkh v0 h (dn Q) -> C (N 98) [v0] h Q
theorem ze2.nil0 {C : CSem} {N : zN} (i : ze2.Imp0 C N) : zcs C (N 98) := zfv i
def zfq.Imp0 (C : CSem) (N : zN) : Prop := ∀ (v0 : AVal) (h : za) (Q : zQ), zkh v0 h (dn Q) -> C (N 99) [v0] h Q
theorem zfq.nil0 {C : CSem} {N : zN} (i : zfq.Imp0 C N) : zcs C (N 99) := zfv i
def ze1.Imp0 (C : CSem) (N : zN) : Prop := ∀ (v0 : AVal) (h : za) (Q : zQ), zkh v0 h (dn Q) -> C (N 100) [v0] h Q
theorem ze1.nil0 {C : CSem} {N : zN} (i : ze1.Imp0 C N) : zcs C (N 100) := zfv i
def zfp.Imp0 (C : CSem) (N : zN) : Prop := ∀ (v0 : AVal) (h : za) (Q : zQ), zkh v0 h (dn Q) -> C (N 101) [v0] h Q
theorem zfp.nil0 {C : CSem} {N : zN} (i : zfp.Imp0 C N) : zcs C (N 101) := zfv i
def zfo.Imp0 (C : CSem) (N : zN) : Prop := ∀ (v0 : AVal) (h : za) (Q : zQ), zkh v0 h (dn Q) -> C (N 102) [v0] h Q
theorem zfo.nil0 {C : CSem} {N : zN} (i : zfo.Imp0 C N) : zcs C (N 102) := zfv i
section
variable {P : Program} {C : CSem} {I : Bx}
theorem eZ (hC : zjd C) {c : Code} {Q : Ex -> zbg -> za -> Prop} {s : zbg} {h : za} (keep live : List Nat) (G : List AVal -> LG) (hr : ze (G (keep.map s)) (live.map s) h)
  (hG : ∀ (Y : zL) (s : zbg) (h : za), bwp P C I (cA (cA (cA c))) (Ex.then (fun _ _ => False) (Ex.then (fun s h => Y (live.map s) h) (Ex.inBlock (cI c) Q))) s h = G (keep.map s) (live.map s) h Y)
  (hk : isK c = true) (hl : isL (cA c) = true) (hw : (keep.all fun k => !memB (zha P I (cA (cA c))) k) = true) (hs : isS (cA (cA c)) = true) : bwp P C I c Q s h :=
 eK (eL hC keep live G hr (fun Y s h hR => eS hC (fun _ _ => False) ((hG Y s h).mpr hR) (fun _ _ f => f.elim) hs) hl hw) hk
theorem eU (hC : zjd C) {c : Code} {Q : Ex -> zbg -> za -> Prop} {s : zbg} {h : za} (keep live : List Nat) (G : List AVal -> LG) (X : zbg -> za -> Prop) (hr : ze (G (keep.map s)) [.int .i64 0] h) (hX : ∀ s h, X s h -> bwp P C I (cB c) Q s h)
  (h1 : bwp P C I (cA (cA c)) (Ex.then (fun s h => ze (G (keep.map s)) (live.map s) h) (Ex.then X Q)) s h = ze (G (keep.map s)) [.int .i64 0] h := by kernel_rfl)
  (hG : ∀ (Y : zL) (s : zbg) (h : za), bwp P C I (cA (cA (cA (cB (cA c))))) (Ex.then (fun _ _ => False) (Ex.then (fun s h => Y (live.map s) h) (Ex.inBlock (cI (cB (cA c))) (Ex.then X Q)))) s h = G (keep.map s) (live.map s) h Y := by intros; kernel_rfl)
  (hk : (isS c && isS (cA c) && isK (cB (cA c)) && isL (cA (cB (cA c))) && isS (cA (cA (cB (cA c)))) && keep.all fun k => !memB (zha P I (cA (cA (cB (cA c))))) k) = true := by kernel_rfl) : bwp P C I c Q s h := by
 simp only [Bool.and_eq_true] at hk
 obtain ⟨⟨⟨⟨⟨k1, k2⟩, k3⟩, k4⟩, k5⟩, k6⟩ := hk
 exact eS hC X (eS hC (fun s h => ze (G (keep.map s)) (live.map s) h) (h1.mpr hr) (fun s h hR => eZ hC keep live G hR hG k3 k4 k6 k5) k2) hX k1
abbrev F0 (P : Program) (fn : Func) (I : Bx) : Prop := ∀ {C : CSem} (hC : zjd C) (Q : zQ) (s : zbg) (h : za), zkh (s 0) h Q -> bwp P C I (fn.body.getD .skip) (retB P I fn.results.toList Q) s h
abbrev g1 (f : AVal -> LG) : List AVal -> LG := fun kv lv h Y => match kv with | [a] => f a lv h Y | _ => False
abbrev g2 (f : AVal -> AVal -> LG) : List AVal -> LG := fun kv lv h Y => match kv with | [a, b] => f a b lv h Y | _ => False
structure Lp (P : Program) (C : CSem) (I : Bx) (c : Code) (Q : Ex -> zbg -> za -> Prop) (keep : List Nat) (l : Nat) (G : List AVal -> LG) (X : zbg -> za -> Prop) : Prop where
 h1 : ∀ s h, bwp P C I (cA (cA c)) (Ex.then (fun s h => ze (G (keep.map s)) ([l].map s) h) (Ex.then X Q)) s h = ze (G (keep.map s)) [.int .i64 0] h := by intros; kernel_rfl
 hG : ∀ (Y : zL) (s : zbg) (h : za), bwp P C I (cA (cA (cA (cB (cA c))))) (Ex.then (fun _ _ => False) (Ex.then (fun s h => Y ([l].map s) h) (Ex.inBlock (cI (cB (cA c))) (Ex.then X Q)))) s h = G (keep.map s) ([l].map s) h Y := by intros; kernel_rfl
 hk : (isS c && isS (cA c) && isK (cB (cA c)) && isL (cA (cB (cA c))) && isS (cA (cA (cB (cA c)))) && keep.all fun k => !memB (zha P I (cA (cA (cB (cA c))))) k) = true := by kernel_rfl
theorem Lp.use {c : Code} {Q : Ex -> zbg -> za -> Prop} {keep : List Nat} {l : Nat} {G : List AVal -> LG} {X : zbg -> za -> Prop} (p : Lp P C I c Q keep l G X) (hC : zjd C) {s : zbg} {h : za} (hr : ze (G (keep.map s)) [.int .i64 0] h) (hX : ∀ s h, X s h -> bwp P C I (cB c) Q s h) : bwp P C I c Q s h :=
 eU hC keep [l] G X hr hX (p.h1 s h) p.hG p.hk
theorem eF0 (hC : zjd C) {c : Code} {R : Ex -> zbg -> za -> Prop} {Q : zQ} {s : zbg} {h : za} (w a b d e f : Nat) (hR : zkh (s 0) h Q)
  (e0 : ∀ s h, bwp P C I (cA c) (Ex.then (fun s h => zkh (s 0) h Q) R) s h = zkh (s 0) h Q := by intros; kernel_rfl)
  (p1 : Lp P C I (cB c) R [0] a (g1 fun v => z0 v (z1 Q v)) (fun s h => z1 Q (s 0) h) := by exact {})
  (e2 : ∀ s h, bwp P C I (cA (cB (cB c))) (Ex.then (fun s h => z2 Q (s 0) (s w) h) R) s h = z1 Q (s 0) h := by intros; kernel_rfl)
  (p2 : Lp P C I (cB (cB (cB c))) R [0, w] b (g2 fun v w => z0 v (z3 Q v w)) (fun s h => z3 Q (s 0) (s w) h) := by exact {})
  (p3 : Lp P C I (cB (cB (cB (cB c)))) R [0, w] d (g2 fun v w => z0 v (z4 Q v w)) (fun s h => z4 Q (s 0) (s w) h) := by exact {})
  (p4 : Lp P C I (cB (cB (cB (cB (cB c))))) R [0, w] e (g2 fun v w => z0 v (z5 Q v w)) (fun s h => z5 Q (s 0) (s w) h) := by exact {})
  (p5 : Lp P C I (cB (cB (cB (cB (cB (cB c)))))) R [0, w] f (g2 fun v w => z0 v fun h => Q (.bool true) h) (fun s h => Q (.bool true) h) := by exact {})
  (e6 : ∀ s h, bwp P C I (cB (cB (cB (cB (cB (cB (cB c))))))) R s h = Q (.bool true) h := by intros; kernel_rfl)
  (k1 : isS c = true := by kernel_rfl) (k2 : isS (cB (cB c)) = true := by kernel_rfl) : bwp P C I c R s h :=
 eS hC (fun s h => zkh (s 0) h Q) ((e0 s h).mpr hR) (fun s h hR => p1.use hC hR fun s h hR => eS hC (fun s h => z2 Q (s 0) (s w) h) ((e2 s h).mpr hR) (fun s h hR => p2.use hC hR fun s h hR => p3.use hC hR fun s h hR => p4.use hC hR fun s h hR => p5.use hC hR fun s h hR => (e6 s h).mpr hR) k2) k1
end
@[simp] def zdy.cps (C : CSem) (N : zN) (a b : AVal) (h : za) (Q : zQ) : Prop :=
 B.zda h a fun c =>
  B.zda h b fun d =>
  B.pv (V.bin .eql c d) fun e =>
  Q e h
def zdy.Imp (C : CSem) (N : zN) : Prop := im2 C (N 273) (zdy.cps C N)
@[simp] def zdn.cps (C : CSem) (N : zN) (a b : AVal) (h : za) (Q : zQ) : Prop :=
 B.call C (N 303) [a, b] h fun c h =>
  Q c h
def zdn.Imp (C : CSem) (N : zN) : Prop := im2 C (N 274) (zdn.cps C N)
@[simp] def zei.cps (C : CSem) (N : zN) (a : AVal) (h : za) (Q : zQ) : Prop :=
 B.pv (V.eqSl .eql a .nils) fun b =>
  B.cond b
  (Q .nils h)
  (B.appW h 1 1 .sz a fun c h =>
  Q c h)
def zei.Imp (C : CSem) (N : zN) : Prop := im1 C (N 428) (zei.cps C N)
@[simp] def zcl.k1 (C : CSem) (N : zN) (Q : zQ) (c b : AVal) (h : za) : Prop :=
 B.pv (V.zj c) fun l =>
  B.pv (V.zj b) fun m =>
  B.pv (V.bin .geq l m) fun a =>
  B.gd h a true (fun K => K c h) fun d h =>
  B.gd h a true (fun K => K b h) fun e h =>
  B.gd h a true (fun K => B.pv (V.zj e) fun v => K v h) fun f h =>
  B.gd h a true (fun K => B.pv (V.zgo 1 d none (some f)) fun v => K v h) fun g h =>
  B.gd h a true (fun K => K b h) fun i h =>
  B.gd h a true (fun K => B.call C (N 273) [g, i] h K) fun j h =>
  B.pick a j (.bool false) fun k =>
  Q k h
@[simp] def zcl.cps (C : CSem) (N : zN) (a b : AVal) (h : za) (Q : zQ) : Prop :=
 zcl.k1 C N Q a b h
def zcl.Imp (C : CSem) (N : zN) : Prop := im2 C (N 436) (zcl.cps C N)
@[simp] def zfe.k1 (C : CSem) (N : zN) (Q : zQ) (a : AVal) (h : za) : Prop :=
 B.pv (V.bin .neq a (.str [])) fun b =>
  B.gd h b true (fun K => K a h) fun g h =>
  B.gd h b true (fun K => B.call C (N 53) [g] h K) fun i h =>
  B.gd h b true (fun K => B.pv (V.un .not i) fun v => K v h) fun j h =>
  B.pick b j (.bool false) fun k =>
  B.cond k
  (Q .nils h)
  (B.pv (V.zij a) fun c =>
  B.pv (V.toInt .u8 c) fun d =>
  B.zgy h a fun e h =>
  B.call C (N 79) [d, e] h fun f h =>
  Q f h)
@[simp] def zfe.cps (C : CSem) (N : zN) (a : AVal) (h : za) (Q : zQ) : Prop :=
 zfe.k1 C N Q a h
def zfe.Imp (C : CSem) (N : zN) : Prop := im1 C (N 51) (zfe.cps C N)
@[simp] def zcg.k1 (C : CSem) (N : zN) (Q : zQ) (b : AVal) (h : za) : Prop :=
 B.pv (V.bin .neq b (.str [])) fun a =>
  B.gd h a true (fun K => K b h) fun c h =>
  B.gd h a true (fun K => B.pv (V.zij c) fun v => K v h) fun d h =>
  B.gd h a true (fun K => B.pv (V.bin .leq d (.int .i64 12)) fun v => K v h) fun e h =>
  B.pick a e (.bool false) fun f =>
  Q f h
@[simp] def zcg.k2 (C : CSem) (N : zN) (Q : zQ) (Y1 : zL) (t u : AVal) (h : za) : Prop :=
 B.zgs h u fun f h =>
  B.pv (V.ext 0 f) fun w =>
  B.cond w
  (B.pv (V.ext 1 f) fun x =>
  B.pv (V.ext 2 f) fun b =>
  B.pv (V.bin .geq b (.int .i32 65)) fun c =>
  B.gd h c true (fun K => K b h) fun g h =>
  B.gd h c true (fun K => B.pv (V.bin .leq g (.int .i32 90)) fun v => K v h) fun i h =>
  B.pick c i (.bool false) fun j =>
  B.cond j
  (Y1 [] h)
  (B.pv (V.bin .gtr x (.int .i64 0)) fun a =>
  B.gd h a true (fun K => K b h) fun k h =>
  B.gd h a true (fun K => B.pv (V.bin .geq k (.int .i32 48)) fun v => K v h) fun l h =>
  B.gd h a true (fun K => K l h) fun d h =>
  B.gd h d true (fun K => K b h) fun m h =>
  B.gd h d true (fun K => B.pv (V.bin .leq m (.int .i32 57)) fun v => K v h) fun n h =>
  B.gd h a true (fun K => B.pick d n (.bool false) fun v => K v h) fun o h =>
  B.gd h a true (fun K => K o h) fun e h =>
  B.gd h e false (fun K => K b h) fun p h =>
  B.gd h e false (fun K => B.pv (V.bin .eql p (.int .i32 45)) fun v => K v h) fun q h =>
  B.gd h a true (fun K => B.pick e (.bool true) q fun v => K v h) fun r h =>
  B.pick a r (.bool false) fun s =>
  B.cond s
  (Y1 [] h)
  (Q (.bool false) h)))
  (zcg.k1 C N Q t h)
@[simp] def zcg.l3 (C : CSem) (N : zN) (Q : zQ) (a b : AVal) : zG
 | [], h, Y1 => zcg.k2 C N Q Y1 a b h
 | _, _, _ => False
@[simp] def zcg.cps (C : CSem) (N : zN) (a : AVal) (h : za) (Q : zQ) : Prop :=
 B.zhw h a fun b h =>
  ze (zcg.l3 C N Q a b) [] h
def zcg.Imp (C : CSem) (N : zN) : Prop := im1 C (N 53) (zcg.cps C N)
@[simp] def zgj.cps (C : CSem) (N : zN) (a b : AVal) (h : za) (Q : zQ) : Prop :=
 B.newO h (zcr [(0, none, a)] (repL 1 [.int .u8 0])) fun c h =>
  B.appW h 1 1 (.sl c 0 0 1 1 1) b fun d h =>
  Q d h
def zgj.Imp (C : CSem) (N : zN) : Prop := im2 C (N 79) (zgj.cps C N)
@[simp] def zfz.k1 (C : CSem) (N : zN) (Q : zQ) (d : AVal) (h : za) : Prop :=
 B.pv (V.zj d) fun v7 =>
  B.pv (V.bin .eql v7 (.int .i64 0)) fun a =>
  B.gd h a false (fun K => K d h) fun e h =>
  B.gd h a false (fun K => B.pv (V.zj e) fun v => K v h) fun f h =>
  B.gd h a false (fun K => K d h) fun g h =>
  B.gd h a false (fun K => B.pv (V.idxS 1 g (.int .i64 0)) fun v => K v h) fun i h =>
  B.gd h a false (fun K => B.ld h i fun v => K v h) fun j h =>
  B.gd h a false (fun K => B.pv (V.toInt .i64 j) fun v => K v h) fun k h =>
  B.gd h a false (fun K => B.pv (V.bin .add (.int .i64 1) k) fun v => K v h) fun l h =>
  B.gd h a false (fun K => B.pv (V.bin .lss f l) fun v => K v h) fun m h =>
  B.pick a (.bool true) m fun n =>
  B.cond n
  (Q (.tup [(.str []), (.int .i64 0), (.bool false)]) h)
  (B.pv (V.idxS 1 d (.int .i64 0)) fun o =>
  B.ld h o fun p =>
  B.pv (V.toInt .i64 p) fun q =>
  B.pv (V.bin .add (.int .i64 1) q) fun r =>
  B.pv (V.zgo 1 d (some (.int .i64 1)) (some r)) fun s =>
  B.zda h s fun b =>
  B.pv (V.bin .neq b (.str [])) fun c =>
  B.gd h c true (fun K => K b h) fun t h =>
  B.gd h c true (fun K => B.call C (N 53) [t] h K) fun u h =>
  B.gd h c true (fun K => B.pv (V.un .not u) fun v => K v h) fun w h =>
  B.pick c w (.bool false) fun x =>
  B.cond x
  (Q (.tup [(.str []), (.int .i64 0), (.bool false)]) h)
  (B.pv (V.zij b) fun y =>
  B.pv (V.bin .add (.int .i64 1) y) fun z =>
  Q (.tup [b, z, (.bool true)]) h))
@[simp] def zfz.cps (C : CSem) (N : zN) (a : AVal) (h : za) (Q : zQ) : Prop :=
 zfz.k1 C N Q a h
def zfz.Imp (C : CSem) (N : zN) : Prop := im1 C (N 103) (zfz.cps C N)
@[simp] def zey.k1 (C : CSem) (N : zN) (Q : zQ) (a : AVal) (h : za) : Prop :=
 B.pv (V.bin .neq a (.str [])) fun b =>
  B.gd h b true (fun K => K a h) fun g h =>
  B.gd h b true (fun K => B.call C (N 61) [g] h K) fun i h =>
  B.gd h b true (fun K => B.pv (V.un .not i) fun v => K v h) fun j h =>
  B.pick b j (.bool false) fun k =>
  B.cond k
  (Q .nils h)
  (B.pv (V.zij a) fun c =>
  B.pv (V.toInt .u8 c) fun d =>
  B.newO h (zcr [(0, none, d)] (repL 1 [.int .u8 0])) fun e h =>
  B.appS h 1 (.sl e 0 0 1 1 1) a fun f h =>
  Q f h)
@[simp] def zey.cps (C : CSem) (N : zN) (a : AVal) (h : za) (Q : zQ) : Prop :=
 zey.k1 C N Q a h
def zey.Imp (C : CSem) (N : zN) : Prop := im1 C (N 59) (zey.cps C N)
@[simp] def zb4.k1 (C : CSem) (N : zN) (Q : zQ) (Y1 : zL) (f a : AVal) (h : za) : Prop :=
 B.pv (V.zij f) fun i =>
  B.pv (V.bin .lss a i) fun j =>
  B.cond j
  (B.pv (V.zh8 f a) fun k =>
  B.pv (V.bin .geq k (.int .u8 65)) fun b =>
  B.gd h b true (fun K => K f h) fun l h =>
  B.gd h b true (fun K => K a h) fun m h =>
  B.gd h b true (fun K => B.pv (V.zh8 l m) fun v => K v h) fun n h =>
  B.gd h b true (fun K => B.pv (V.bin .leq n (.int .u8 90)) fun v => K v h) fun o h =>
  B.pick b o (.bool false) fun p =>
  B.pv (V.zh8 f a) fun q =>
  B.pv (V.bin .geq q (.int .u8 48)) fun c =>
  B.gd h c true (fun K => K f h) fun r h =>
  B.gd h c true (fun K => K a h) fun s h =>
  B.gd h c true (fun K => B.pv (V.zh8 r s) fun v => K v h) fun t h =>
  B.gd h c true (fun K => B.pv (V.bin .leq t (.int .u8 57)) fun v => K v h) fun u h =>
  B.pick c u (.bool false) fun d =>
  B.gd h d false (fun K => K f h) fun w h =>
  B.gd h d false (fun K => K a h) fun x h =>
  B.gd h d false (fun K => B.pv (V.zh8 w x) fun v => K v h) fun y h =>
  B.gd h d false (fun K => B.pv (V.bin .eql y (.int .u8 45)) fun v => K v h) fun z h =>
  B.pick d (.bool true) z fun aa =>
  B.pv (V.un .not p) fun e =>
  B.gd h e true (fun K => K a h) fun ab h =>
  B.gd h e true (fun K => B.pv (V.bin .eql ab (.int .i64 0)) fun v => K v h) fun ac h =>
  B.gd h e true (fun K => K ac h) fun g h =>
  B.gd h g false (fun K => K aa h) fun ad h =>
  B.gd h g false (fun K => B.pv (V.un .not ad) fun v => K v h) fun ae h =>
  B.gd h e true (fun K => B.pick g (.bool true) ae fun v => K v h) fun af h =>
  B.pick e af (.bool false) fun ag =>
  B.cond ag
  (Q (.bool false) h)
  (B.pv (V.bin .add a (.int .i64 1)) fun ah =>
  Y1 [ah] h))
  (Q (.bool true) h)
@[simp] def zb4.l2 (C : CSem) (N : zN) (Q : zQ) (a : AVal) : zG
 | [b], h, Y1 => zb4.k1 C N Q Y1 a b h
 | _, _, _ => False
@[simp] def zb4.k3 (C : CSem) (N : zN) (Q : zQ) (b : AVal) (h : za) : Prop :=
 B.pv (V.zij b) fun g =>
  B.pv (V.bin .lss g (.int .i64 1)) fun a =>
  B.gd h a false (fun K => K b h) fun c h =>
  B.gd h a false (fun K => B.pv (V.zij c) fun v => K v h) fun d h =>
  B.gd h a false (fun K => B.pv (V.bin .gtr d (.int .i64 12)) fun v => K v h) fun e h =>
  B.pick a (.bool true) e fun f =>
  B.cond f
  (Q (.bool false) h)
  (ze (zb4.l2 C N Q b) [(.int .i64 0)] h)
@[simp] def zb4.cps (C : CSem) (N : zN) (a : AVal) (h : za) (Q : zQ) : Prop :=
 zb4.k3 C N Q a h
def zb4.Imp (C : CSem) (N : zN) : Prop := im1 C (N 61) (zb4.cps C N)
@[simp] def zfc.k1 (C : CSem) (N : zN) (Q : zQ) (d : AVal) (h : za) : Prop :=
 B.pv (V.zj d) fun v8 =>
  B.pv (V.bin .eql v8 (.int .i64 0)) fun a =>
  B.gd h a false (fun K => K d h) fun g h =>
  B.gd h a false (fun K => B.pv (V.idxS 1 g (.int .i64 0)) fun v => K v h) fun i h =>
  B.gd h a false (fun K => B.ld h i fun v => K v h) fun j h =>
  B.gd h a false (fun K => B.pv (V.toInt .i64 j) fun v => K v h) fun k h =>
  B.gd h a false (fun K => K d h) fun l h =>
  B.gd h a false (fun K => B.pv (V.zj l) fun v => K v h) fun m h =>
  B.gd h a false (fun K => B.pv (V.bin .geq k m) fun v => K v h) fun n h =>
  B.gd h a false (fun K => K n h) fun b h =>
  B.gd h b true (fun K => K d h) fun o h =>
  B.gd h b true (fun K => B.pv (V.idxS 1 o (.int .i64 0)) fun v => K v h) fun p h =>
  B.gd h b true (fun K => B.ld h p fun v => K v h) fun q h =>
  B.gd h b true (fun K => B.pv (V.bin .gtr q (.int .u8 0)) fun v => K v h) fun r h =>
  B.gd h a false (fun K => B.pick b r (.bool false) fun v => K v h) fun s h =>
  B.pick a (.bool true) s fun t =>
  B.cond t
  (Q (.tup [(.str []), (.int .i64 0), (.bool false)]) h)
  (B.pv (V.idxS 1 d (.int .i64 0)) fun u =>
  B.ld h u fun w =>
  B.pv (V.toInt .i64 w) fun x =>
  B.pv (V.bin .add (.int .i64 1) x) fun f =>
  B.pv (V.zgo 1 d (some (.int .i64 1)) (some f)) fun y =>
  B.zda h y fun e =>
  B.pv (V.bin .neq e (.str [])) fun c =>
  B.gd h c true (fun K => K e h) fun z h =>
  B.gd h c true (fun K => B.call C (N 61) [z] h K) fun aa h =>
  B.gd h c true (fun K => B.pv (V.un .not aa) fun v => K v h) fun ab h =>
  B.pick c ab (.bool false) fun ac =>
  B.cond ac
  (Q (.tup [(.str []), (.int .i64 0), (.bool false)]) h)
  (Q (.tup [e, f, (.bool true)]) h))
@[simp] def zfc.cps (C : CSem) (N : zN) (a : AVal) (h : za) (Q : zQ) : Prop :=
 zfc.k1 C N Q a h
def zfc.Imp (C : CSem) (N : zN) : Prop := im1 C (N 104) (zfc.cps C N)
end Go.Ab
namespace Go.Ab
variable {C : CSem} {N : zN}
theorem u8_lt (b : UInt8) : b.toNat < 256 := b.toNat_lt
theorem nextStr_at {h : za} {id : Nat} {b : Blk} {s : List UInt8} {pos : Nat} {K : zQ} (hb : h id = some b) (ho : b.obj = some (.iter s pos)) :
  (B.zgs h (.ptr id 0 0) K : Prop) = if pos < s.length then K (.tup [.bool true, .int .i64 pos, .int .i32 (A.rune s pos).1]) (upd h id { b with obj := some (.iter s (pos + (A.rune s pos).2)) }) else K (.tup [.bool false]) h := by
 simp only [B.zgs, A.zgs, hb, ho]
theorem get_bang {s : List UInt8} {pos : Nat} {b : UInt8} (hb : s[pos]? = some b) : ((⟨s.toArray⟩ : ByteArray).get! pos) = b := by
 simp [ByteArray.get!, hb]
theorem rune_ascii {s : List UInt8} {pos : Nat} {b : UInt8} (hb : s[pos]? = some b) (h : b.toNat < 128) : A.rune s pos = (b.toNat, 1) := by
 unfold A.rune Utf8.decode
 simp only [Nat.add_zero, get_bang hb]
 rw [if_pos h]
theorem rune_high {s : List UInt8} {pos : Nat} {b : UInt8} (hb : s[pos]? = some b) (h : 128 <= b.toNat) : 128 <= (A.rune s pos).1 := by
 unfold A.rune Utf8.decode
 simp only [Nat.add_zero, get_bang hb]
 rw [if_neg (by omega)]
 split
 ·split <;> simp_all [Utf8.runeError]
 ·split
  ·split <;> simp_all [Utf8.runeError]; omega
  ·split
   ·split <;> simp_all [Utf8.runeError]; omega
   ·simp [Utf8.runeError]
def znp (i : Nat) (b : UInt8) : Bool := (decide (65 <= b.toNat) && decide (b.toNat <= 90)) || (decide (0 < i) && ((decide (48 <= b.toNat) && decide (b.toNat <= 57)) || decide (b.toNat = 45)))
def zml (s : List UInt8) : Nat -> Bool
 | 0 => true
 | n + 1 => zml s n && znp n (s.getD n 0)
def zbm (s : List UInt8) : Bool := !s.isEmpty && decide (s.length <= 12) && zml s s.length
theorem zwe {s : List UInt8} {k : Nat} (h : zml s k = true) {b : UInt8} (hb : s[k]? = some b) (hc : znp k b = false) : ∀ n, k < n -> zml s n = false
 | 0, h => by omega
 | n + 1, hn => by
  by_cases e : n = k
  ·subst e; simp [zml, List.getD, hb, hc]
  ·rw [zml, zwe h hb hc n (by omega)]; rfl
theorem zvc {s : List UInt8} {k : Nat} (h : zml s k = true) {b : UInt8} (hb : s[k]? = some b) (hc : znp k b = true) : zml s (k + 1) = true := by
 simp [zml, List.getD, hb, hc, h]
theorem zl9 {s : List UInt8} {k : Nat} (h : zml s k = true) {b : UInt8} (hb : s[k]? = some b) (hc : znp k b = false) : zbm s = false := by
 have := zwe h hb hc s.length (List.getElem?_eq_some_iff.1 hb).1
 simp [zbm, this]
def zcg.Spec (C : CSem) (N : zN) : Prop := ∀ (s : List UInt8) (h : za) (Q : zQ), Q (.bool (zbm s)) h -> C (N 53) [.str s] h Q
def itB (s : List UInt8) (k : Nat) : Blk := { cells := [], gens := [], next := 1, own := true, obj := some (.iter s k) }
theorem zcg.spec (i : zcg.Imp C N) : zcg.Spec C N := by
 intro s h Q hq
 apply i
 simp only [zcg.cps]
 intro id hid
 refine ze.intro (fun n vs hh => ∃ k, k + n = s.length /\ vs = [] /\ hh = upd h id (itB s k) /\ zml s k = true) s.length ?_ ⟨0, by simp, rfl, rfl, rfl⟩
 rintro Y n vs hh ⟨k, hn, rfl, rfl, hc⟩ hY
 simp only [zcg.l3, zcg.k2]
 rw [nextStr_at (zbj ..) rfl]
 have hle : h.le (upd h id (itB s k)) := zhf _ hid
 split
 ·rename_i hk
  obtain ⟨b, hb⟩ := zc5 hk
  by_cases hlt : b.toNat < 128
  ·rw [rune_ascii hb hlt, upd_upd]
   have next : znp k b = true -> Y [] (upd h id { cells := (itB s k).cells, gens := (itB s k).gens, next := (itB s k).next, own := (itB s k).own, obj := some (.iter s (k + 1)) }) := fun hcc =>
    hY (n - 1) _ _ (by omega) ⟨k + 1, by omega, rfl, rfl, zvc hc hb hcc⟩
   simp +contextual -dsimp
   refine B.zd (fun h1 => ?_) (fun h1 => ?_)
   ·exact next (by simp at h1; simp [znp]; omega)
   ·simp +contextual -dsimp
    refine B.zd (fun h2 => ?_) (fun h2 => ?_)
    ·exact next (by simp at h2; simp [znp]; omega)
    ·have := zl9 hc hb (by simp at h1 h2; simp [znp]; omega)
     rw [this] at hq
     exact zrk (zhf _ hid) hq
  ·have hr := rune_high hb (by omega)
   have := zl9 hc hb (by simp [znp]; omega)
   rw [this] at hq
   simp +contextual -dsimp
   refine B.zd (fun h1 => ?_) (fun h1 => ?_)
   ·simp at h1; omega
   ·simp +contextual -dsimp
    refine B.zd (fun h2 => ?_) (fun h2 => ?_)
    ·simp at h2; omega
    ·exact zrk (zhf _ hid) hq
 ·have hk : k = s.length := by omega
  subst hk
  have : zbm s = (!decide (s = []) && decide ((s.length : Int) <= 12)) := by
   unfold zbm
   rw [hc, Bool.and_true]
   cases s with
   | nil => rfl
   | cons a r => simp; omega
  rw [this] at hq
  simp +contextual -dsimp
  exact zrk hle hq
def zb4.Spec (C : CSem) (N : zN) : Prop := ∀ (s : List UInt8) (h : za) (Q : zQ), Q (.bool (zbm s)) h -> C (N 61) [.str s] h Q
theorem zri {s : List UInt8} {k : Nat} {b : UInt8} (hb : s[k]? = some b) : V.zh8 (.str s) (.int .i64 (k : Int)) = some (.int .u8 b.toNat) := by
 simp [V.zh8, hb]
theorem zb4.spec (i : zb4.Imp C N) : zb4.Spec C N := by
 intro s h Q hq
 apply i
 simp +contextual -dsimp
 refine B.zd (fun h1 => ?_) (fun h1 => ?_)
 ·have : zbm s = false := by
   simp at h1
   cases s with
   | nil => rfl
   | cons a r => simp [zbm]; simp at h1; omega
  rw [this] at hq
  exact zk hq
 ·simp at h1
  refine ze.intro (fun n vs hh => ∃ k : Nat, k + n = s.length /\ vs = [.int .i64 k] /\ hh = h /\ zml s k = true) s.length ?_ ⟨0, by simp, by simp, rfl, rfl⟩
  rintro Y n vs hh ⟨k, hn, rfl, rfl, hc⟩ hY
  simp +contextual -dsimp
  refine B.zd (fun h2 => ?_) (fun h2 => ?_)
  ·simp at h2
   obtain ⟨b, hb⟩ := zc5 h2
   simp +contextual -dsimp [zri hb]
   refine B.zd (fun h3 => ?_) (fun h3 => ?_)
   ·have := zl9 hc hb (by simp at h3; simp [znp]; omega)
    rw [this] at hq
    exact zk hq
   ·simp +contextual -dsimp [zgt (n := k) (by omega)]
    exact hY (n - 1) _ _ (by omega) ⟨k + 1, by omega, by simp, rfl, zvc hc hb (by simp at h3; simp [znp]; omega)⟩
  ·have hk : k = s.length := by simp at h2; omega
   subst hk
   have : zbm s = true := by
    unfold zbm
    rw [hc]
    cases s with
    | nil => simp at h1
    | cons a r => simp; simp at h1; omega
   rw [this] at hq
   exact zk hq
theorem bc_flat (s : List UInt8) : (s.map bc).flatten = s.map fun b => AVal.int .u8 b.toNat := by
 induction s with
 | nil => rfl
 | cons a r ih => simp only [List.map_cons, List.flatten_cons, ih]; rfl
theorem bc_len (s : List UInt8) : ∀ p ∈ s.map bc, p.length = 1 := fun p hp => by
 obtain ⟨b, _, rfl⟩ := List.mem_map.1 hp; rfl
theorem Owns.appS {h0 h : za} {l : List Ob} (ho : Owns h0 h l) (k : Nat) {bytes : Nat} {x : AVal} {L R : List (List AVal)} {s : List UInt8} {K : zQ} (hk : l[k]? = some (.sl 1 x L R)) (hb : (L.length + s.length) * bytes <= 140737488355328) (hm : L.length + s.length <= maxLen)
  (hK : ∀ x' h', Owns h0 h' (l.set k (.sl 1 x' (L ++ s.map bc) [])) -> But x h h' -> K x' h') : B.appS h bytes x (.str s) K := by
 have := (ho.slAt k hk).app (bytes := bytes) (M := s.map bc) (K := K) (ho.zl1 k hk) (by omega) (bc_len s) (by simpa using hb) (by simpa using hm) fun x' h' h1 h2 h3 h4 => hK x' h' (ho.turn k hk h1 h2 h3 h4) h3
 rw [bc_flat] at this
 exact this
theorem SlX.zic {T : Type} {h : za} {es : Nat} {x : AVal} {f : T -> List AVal} {L : List T} {R : List (List AVal)} (hs : SlX h es x (L.map f) R) (hes : 0 < es) {lo hi : Nat} {a b : Option AVal} (ha : a = none /\ lo = 0 \/ ∃ k, a = some (.int k lo)) (hb : b = none /\ hi = L.length \/ ∃ k, b = some (.int k hi)) (h1 : lo <= hi) (h2 : hi <= L.length) :
  ∃ x' R', V.zgo es x a b = some x' /\ SlX h es x' (((L.take hi).drop lo).map f) R' /\ foot x' = foot x := by
 obtain ⟨x', e1, e2, e3⟩ := hs.slice hes ha (by simpa using hb) h1 (by simp; omega)
 refine ⟨x', (L.map f ++ R).drop hi, e1, ?_, e3⟩
 rwa [List.take_append_of_le_length (by simpa using h2), <- List.map_take, <- List.map_drop] at e2
def zdr (s : List UInt8) : List UInt8 := if !s.isEmpty && !zbm s then [] else UInt8.ofNat s.length :: s
theorem zdq (s : List UInt8) : (zdr s).length <= 13 := by
 unfold zdr
 split
 ·simp
 ·rename_i h
  cases s with
  | nil => simp
  | cons a r => simp [zbm] at h ⊢; omega
theorem zl8 {s : List UInt8} (h : zbm s = true) : s.length <= 12 := by
 simp only [zbm, Bool.and_eq_true, decide_eq_true_eq] at h; omega
def zgj.Spec (C : CSem) (N : zN) : Prop := ∀ (a : UInt8) (y : AVal) (M : List UInt8) (R : List (List AVal)) (h : za) (Q : zQ), SlX h 1 y (M.map bc) R -> M.length <= 100000000 ->
 (∀ x' h', Owns h h' [.sl 1 x' ((a :: M).map bc) []] -> Q x' h') -> C (N 79) [.int .u8 (a.toNat : Int), y] h Q
theorem zgj.spec (i : zgj.Imp C N) : zgj.Spec C N := by
 intro a y M R h Q hy hl hq
 apply i
 simp -dsimp
 intro id hid
 have ho := (Owns.start h).zmz (id := id) (n := 1) (cp := 1) (es := 1) (cs := [.int .u8 (a.toNat : Int)]) (L := [bc a]) (R := []) hid (by simp) rfl (by simp) rfl
 exact ho.appW 0 rfl (hy.mono ho.le) (by omega) (by simp; omega) (by simp [maxLen]; omega) fun x' h' ho' _ => zk (hq x' h' ho')
def zfe.Spec (C : CSem) (N : zN) : Prop := ∀ (s : List UInt8) (h : za) (Q : zQ), (∀ x' h', Owns h h' [.sl 1 x' ((zdr s).map bc) []] -> Q x' h') -> C (N 51) [.str s] h Q
theorem zvd {s : List UInt8} (h : (!decide (s = []) && !zbm s) = true) : zdr s = [] := by
 unfold zdr
 rw [if_pos]
 cases s <;> simp_all
theorem zs1 {s : List UInt8} (h : (!decide (s = []) && !zbm s) = false) : zdr s = UInt8.ofNat s.length :: s /\ s.length <= 12 := by
 unfold zdr
 cases s with
 | nil => simp
 | cons a r =>
  simp only [List.isEmpty_cons, Bool.not_false, Bool.true_and]
  have h : zbm (a :: r) = true := by simpa using h
  rw [h]; exact ⟨rfl, zl8 h⟩
theorem zfe.spec (i : zfe.Imp C N) (s1 : zcg.Spec C N) (s2 : zgj.Spec C N) : zfe.Spec C N := by
 intro s h Q hq
 apply i
 simp +contextual -dsimp
 refine B.zeo (fun _ _ hq => s1 _ _ _ hq) ?_
 simp +contextual -dsimp
 refine B.zd (fun hb => ?_) (fun hb => ?_)
 ·rw [zvd hb] at hq
  exact zk (hq _ _ ((Owns.start h).nils 1))
 ·obtain ⟨e1, e2⟩ := zs1 hb
  rw [e1] at hq
  simp +contextual -dsimp
  refine ⟨by omega, fun id hid => ?_⟩
  have ho := (Owns.start h).zmz (id := id) (n := s.length) (cp := s.length) (es := 1) (cs := s.map fun b => .int .u8 b.toNat) (L := s.map bc) (R := []) hid (by simp) (by simp) (by simp) (by rw [List.append_nil, bc_flat])
  rw [u8_wrapN]
  refine s2 (UInt8.ofNat s.length) _ s [] _ _ (ho.slAt 0 rfl) (by omega) fun x' h' ho' => ?_
  exact zk (hq _ _ (ho'.back ho.le))
def zey.Spec (C : CSem) (N : zN) : Prop := ∀ (s : List UInt8) (h : za) (Q : zQ), (∀ x' h', Owns h h' [.sl 1 x' ((zdr s).map bc) []] -> Q x' h') -> C (N 59) [.str s] h Q
theorem zey.spec (i : zey.Imp C N) (s1 : zb4.Spec C N) : zey.Spec C N := by
 intro s h Q hq
 apply i
 simp +contextual -dsimp
 refine B.zeo (fun _ _ hq => s1 _ _ _ hq) ?_
 simp +contextual -dsimp
 refine B.zd (fun hb => ?_) (fun hb => ?_)
 ·rw [zvd hb] at hq
  exact zk (hq _ _ ((Owns.start h).nils 1))
 ·obtain ⟨e1, e2⟩ := zs1 hb
  rw [e1] at hq
  simp +contextual -dsimp
  intro id hid
  rw [u8_wrapN]
  have ho := (Owns.start h).zmz (id := id) (n := 1) (cp := 1) (es := 1) (cs := [.int .u8 ((UInt8.ofNat s.length).toNat : Int)]) (L := [bc (UInt8.ofNat s.length)]) (R := []) hid (by simp) rfl (by simp) rfl
  exact ho.appS 0 rfl (by simp; omega) (by simp [maxLen]; omega) fun x' h' ho' _ => zk (hq x' h' ho')
def zff : List UInt8 -> List UInt8 × Nat × Bool
 | [] => ([], 0, false)
 | c :: r => if r.length < c.toNat \/ (r.take c.toNat ≠ [] /\ zbm (r.take c.toNat) = false) then ([], 0, false) else (r.take c.toNat, 1 + c.toNat, true)
theorem zhh (c : UInt8) (r : List UInt8) : zff (c :: r) = if r.length < c.toNat \/ (r.take c.toNat ≠ [] /\ zbm (r.take c.toNat) = false) then ([], 0, false) else (r.take c.toNat, 1 + c.toNat, true) := rfl
@[simp] def cg (x : List UInt8 × Nat × Bool) : AVal := .tup [.str x.1, .int .i64 x.2.1, .bool x.2.2]
def zfz.Spec (C : CSem) (N : zN) : Prop := ∀ (x : AVal) (b : List UInt8) (R : List (List AVal)) (h : za) (Q : zQ), SlX h 1 x (b.map bc) R -> b.length < 4611686018427387904 -> Q (cg (zff b)) h -> C (N 103) [x] h Q
theorem zfz.spec (i : zfz.Imp C N) (s1 : zcg.Spec C N) : zfz.Spec C N := by
 intro x b R h Q hx hl hq
 apply i
 have hlx := hx.zj
 rw [List.length_map] at hlx
 cases b with
 | nil =>
  simp +contextual -dsimp [hlx]
  exact zk hq
 | cons c r =>
  have e0 := hx.idxN (k := .i64) (i := 0) (by simp)
  have e1 : A.ldv h (elp 1 x 0 0) = some (.int .u8 c.toNat) := hx.cell (by simp; rfl)
  have hc := u8_lt c
  have e2 : IntKind.i64.wrap (c.toNat : Int) = (c.toNat : Int) := wrap_i64 (by omega) (by omega)
  have e3 : IntKind.i64.wrap (1 + (c.toNat : Int)) = 1 + (c.toNat : Int) := wrap_i64 (by omega) (by omega)
  have hI : ((1 + c.toNat : Nat) : Int) = 1 + (c.toNat : Int) := by omega
  simp only [Int.ofNat_eq_natCast, Int.natCast_zero] at e0
  simp +contextual -dsimp [hlx, e0, e1, e2, e3]
  simp only [List.length_cons] at hl
  refine B.zd (fun hb => ?_) (fun hb => ?_) <;> simp at hb
  ·have : zff (c :: r) = ([], 0, false) := by rw [zhh, if_pos]; left; omega
   rw [this] at hq
   exact zk hq
  ·obtain ⟨x', R', e4, e5, _⟩ := hx.zic (by omega) (lo := 1) (hi := 1 + c.toNat) (a := some (.int .i64 1)) (b := some (.int .i64 ((1 + c.toNat : Nat) : Int))) (.inr ⟨_, rfl⟩) (.inr ⟨_, rfl⟩) (by omega) (by simp; omega)
   have e6 : ((c :: r).take (1 + c.toNat)).drop 1 = r.take c.toNat := by rw [Nat.add_comm, List.take_succ_cons, List.drop_one, List.tail_cons]
   rw [e6] at e5
   rw [hI] at e4
   simp +contextual -dsimp [e0, e1, e2, e3, e4, zdz e5]
   refine B.zeo (fun _ _ hq => s1 _ _ _ hq) ?_
   simp +contextual -dsimp
   refine B.zd (fun hd => ?_) (fun hd => ?_)
   ·have : zff (c :: r) = ([], 0, false) := by rw [zhh, if_pos]; right; simpa using hd
    rw [this] at hq
    exact zk hq
   ·have hlen : (r.take c.toNat).length = c.toNat := by simp; omega
    have : zff (c :: r) = (r.take c.toNat, 1 + c.toNat, true) := by
     rw [zhh, if_neg]
     rintro (h1 | ⟨h1, h2⟩)
     ·omega
     ·have h3 : c.toNat ≠ 0 := fun e => h1 (by simp [e])
      have h4 : r ≠ [] := fun e => h1 (by simp [e])
      simp [h2, h3, h4] at hd
    rw [this] at hq
    simp only [cg, hI] at hq
    simp +contextual -dsimp
    rw [show ((min c.toNat r.length : Nat) : Int) = (c.toNat : Int) by omega, e3]
    exact zk hq
def zfc.Spec (C : CSem) (N : zN) : Prop := ∀ (x : AVal) (b : List UInt8) (R : List (List AVal)) (h : za) (Q : zQ), SlX h 1 x (b.map bc) R -> b.length < 4611686018427387904 -> Q (cg (zff b)) h -> C (N 104) [x] h Q
theorem zfc.spec (i : zfc.Imp C N) (s1 : zb4.Spec C N) : zfc.Spec C N := by
 intro x b R h Q hx hl hq
 apply i
 have hlx := hx.zj
 rw [List.length_map] at hlx
 cases b with
 | nil =>
  simp +contextual -dsimp [hlx]
  exact zk hq
 | cons c r =>
  have e0 := hx.idxN (k := .i64) (i := 0) (by simp)
  have e1 : A.ldv h (elp 1 x 0 0) = some (.int .u8 c.toNat) := hx.cell (by simp; rfl)
  have hc := u8_lt c
  have e2 : IntKind.i64.wrap (c.toNat : Int) = (c.toNat : Int) := wrap_i64 (by omega) (by omega)
  have e3 : IntKind.i64.wrap (1 + (c.toNat : Int)) = 1 + (c.toNat : Int) := wrap_i64 (by omega) (by omega)
  have hI : ((1 + c.toNat : Nat) : Int) = 1 + (c.toNat : Int) := by omega
  simp only [Int.ofNat_eq_natCast, Int.natCast_zero] at e0
  simp +contextual -dsimp [hlx, e0, e1, e2, e3]
  simp only [List.length_cons] at hl
  refine B.zd (fun hb => ?_) (fun hb => ?_) <;> simp at hb
  ·have : zff (c :: r) = ([], 0, false) := by rw [zhh, if_pos]; left; omega
   rw [this] at hq
   exact zk hq
  ·obtain ⟨x', R', e4, e5, _⟩ := hx.zic (by omega) (lo := 1) (hi := 1 + c.toNat) (a := some (.int .i64 1)) (b := some (.int .i64 ((1 + c.toNat : Nat) : Int))) (.inr ⟨_, rfl⟩) (.inr ⟨_, rfl⟩) (by omega) (by simp; omega)
   have e6 : ((c :: r).take (1 + c.toNat)).drop 1 = r.take c.toNat := by rw [Nat.add_comm, List.take_succ_cons, List.drop_one, List.tail_cons]
   rw [e6] at e5
   rw [hI] at e4
   simp +contextual -dsimp [e0, e1, e2, e3, e4, zdz e5]
   refine B.zeo (fun _ _ hq => s1 _ _ _ hq) ?_
   simp +contextual -dsimp
   refine B.zd (fun hd => ?_) (fun hd => ?_)
   ·have : zff (c :: r) = ([], 0, false) := by rw [zhh, if_pos]; right; simpa using hd
    rw [this] at hq
    exact zk hq
   ·have : zff (c :: r) = (r.take c.toNat, 1 + c.toNat, true) := by
     rw [zhh, if_neg]
     rintro (h1 | ⟨h1, h2⟩)
     ·omega
     ·have h3 : c.toNat ≠ 0 := fun e => h1 (by simp [e])
      have h4 : r ≠ [] := fun e => h1 (by simp [e])
      simp [h2, h3, h4] at hd
    rw [this] at hq
    simp only [cg, hI] at hq
    exact zk hq
end Go.Ab
namespace Go.Ab
variable {P : Program} {w0 : World} {ρ : Locs} {h H : za} {w : World}
theorem addr_add_add (a : Addr) (i j : Nat) (ha : a.spot = none) : (a.add i).add j = a.add (i + j) := by
 rw [zis _ _ ha, zis _ _ rfl, zis _ _ ha, Nat.add_assoc]
theorem zra : ∀ (bs : List UInt8) (a : Addr) (acc : ByteArray), a.spot = none -> (∀ j (hj : j < bs.length), w.cell? (a.add j) = some (.int .u8 (bs[j].toNat : Int))) -> (Extern.Bytes.loadBytes a bs.length acc).run P w = .ok (bs.foldl (fun x b => x.push b) acc) w
 | [], a, acc, _, _ => rfl
 | b :: bs, a, acc, ha, h => by
  have h0 := h 0 (by simp)
  have e0 : a.add 0 = a := by rw [zis _ _ ha]; cases a; simp at ha; subst ha; rfl
  rw [e0] at h0
  have ih := zra bs (a.add 1) (acc.push b) (by rw [zis _ _ ha]) fun j hj => by
   rw [addr_add_add _ _ _ ha]
   have := h (j + 1) (by simpa using hj)
   rw [show 1 + j = j + 1 by omega]
   simpa using this
  have hl : (load a).run P w = .ok (.int .u8 (b.toNat : Int)) w := by simp [h0]
  have hb : ((b.toNat : Int).toNat).toUInt8 = b := by simp
  simp only [List.length_cons, Extern.Bytes.loadBytes, Sem.run_bind, List.foldl_cons, hl, Result.andThen_ok]
  rw [hb]
  exact ih
theorem zu4 : ∀ (bs : List UInt8) (acc : ByteArray), (bs.foldl (fun x b => x.push b) acc).data.toList = acc.data.toList ++ bs
 | [], acc => by simp
 | b :: bs, acc => by rw [List.foldl_cons, zu4 bs]; simp [ByteArray.push]
theorem zdb.at : ∀ {as1 : List AVal} {l : List Value}, zdb ρ as1 l -> ∀ {j : Nat} {a : AVal}, as1[j]? = some a -> ∃ u, l[j]? = some u /\ VRel ρ a u
 | [], _, _, j, a, h => by simp at h
 | x :: as1, _, ⟨u, us, rfl, h1, h2⟩, 0, a, h => by simp at h; subst h; exact ⟨u, rfl, h1⟩
 | x :: as1, _, ⟨u, us, rfl, h1, h2⟩, j + 1, a, h => by
  obtain ⟨v, e1, e2⟩ := zdb.at h2 (j := j) (by simpa using h)
  exact ⟨v, by simpa using e1, e2⟩
theorem bcs_flat : ∀ bs : List UInt8, (bs.map bc).flatten = bs.map fun b => AVal.int .u8 (b.toNat : Int)
 | [] => rfl
 | b :: bs => by rw [List.map_cons, List.flatten_cons, bcs_flat bs]; rfl
theorem zvg (hR : R w0 ρ H w) (hle : h.le H) {x : AVal} {bs : List UInt8} {S : List (List AVal)} (hs : SlX h 1 x (bs.map bc) S) {v : Value} (hv : VRel ρ x v) :
  ∃ b : ByteArray, (Extern.Bytes.bytesOf v).run P w = .ok b w /\ b.data.toList = bs := by
 have hrd := hs.rdv
 rw [List.length_map] at hrd
 obtain ⟨l, h1, h2, h3, h4, h5⟩ := zqp (P := P) hR hle hrd hv
 rcases hs.at_ with ⟨e1, e2, rfl | rfl⟩ | ⟨id, g, off, cp, b, hi, rfl, k1, k2, k3, k4, k5, k6⟩
 ·have : bs = [] := by simpa using e1
  subst this
  cases hv
  exact ⟨.empty, rfl, rfl⟩
 ·have : bs = [] := by simpa using e1
  subst this
  obtain ⟨a, rfl⟩ := hv
  exact ⟨.empty, rfl, rfl⟩
 ·obtain ⟨a, c, rfl⟩ := zo3 hv
  rw [List.length_map]
  rcases h5 with h5 | ⟨ad, m, c', e, h5⟩
  ·have : bs = [] := List.eq_nil_of_length_eq_zero h5
   subst this
   exact ⟨.empty, rfl, rfl⟩
  ·cases e
   by_cases hb0 : bs = []
   ·subst hb0; exact ⟨.empty, rfl, rfl⟩
   have hsp : a.spot = none := by
    obtain ⟨L, _, _, hh⟩ := hv
    rcases hh with ⟨cap, e, _⟩ | ⟨e, _, _, _⟩
    ·cases e; rfl
    ·rw [List.length_map] at e
     exact absurd (List.eq_nil_of_length_eq_zero e) hb0
   refine ⟨_, zra bs a .empty hsp fun j hj => ?_, by rw [zu4]; rfl⟩
   obtain ⟨u, e1, e2⟩ := h2.at (j := j) (a := .int .u8 (bs[j].toNat : Int)) (by rw [bcs_flat, List.getElem?_map, List.getElem?_eq_getElem hj]; rfl)
   rw [h5 j u e1, show u = _ from e2]
theorem zsn {f : FuncId} {fn : Func} (hf : P.funcs[f]? = some fn) (hname : (fn.name == "runtime.NumGoroutine") = false) (hb : fn.body.isNone = true) (hn : Extern.findNext fn = none) (he : Extern.find fn = some Extern.BytealgCompare.compare)
  {x y : AVal} {a b : List UInt8} {S T : List (List AVal)} {h : za} {Q : zQ} (hx : SlX h 1 x (a.map bc) S) (hy : SlX h 1 y (b.map bc) T) (hq : Q (.int .i64 (Lib.compareBytes a b)) h) : AC P f [x, y] h Q := by
 have hny : isY [x, y] = false := by
  rcases hx.at_ with ⟨_, _, rfl | rfl⟩ | ⟨_, _, _, _, _, _, rfl, _⟩ <;> rfl
 refine fun w0 ρ H w va hle hR hva => ⟨fun _ => ?_, fun h => by rw [hny] at h; cases h⟩
 obtain ⟨u, us, rfl, hu, v, vs, rfl, hv, rfl⟩ := hva.resolve_right (fun ⟨id, xs, us, L, e, _⟩ => by rw [e] at hny; cases hny)
 obtain ⟨c, c1, c2⟩ := zvg (P := P) hR hle hx hu
 obtain ⟨d, d1, d2⟩ := zvg (P := P) hR hle hy hv
 have hnf : ∀ {z : AVal} {c : List UInt8} {T : List (List AVal)} {u : Value}, SlX h 1 z (c.map bc) T -> VRel ρ z u -> ∀ l p q, u ≠ .func (.yield l) p q := fun {z c T u} hz hu l p q e => by
  subst e
  rcases hz.at_ with ⟨_, _, rfl | rfl⟩ | ⟨_, _, _, _, _, _, rfl, _⟩
  ·cases hu
  ·obtain ⟨_, e⟩ := hu; cases e
  ·obtain ⟨_, _, _, ⟨_, e, _⟩ | ⟨_, _, _, e⟩⟩ := hu <;> cases e
 refine .inr ⟨.int .i64 (Lib.compareBytes a b), w, ?_, ⟨_, rfl, ⟨⟨.int .i64 (Lib.compareBytes a b), ρ, h, H, Locs.le_refl ρ, rfl, hq, hle, Fr.refl h H, hR⟩⟩⟩, fun z hz => ?_⟩
 rotate_left
 ·rcases List.mem_cons.1 hz with rfl | hz
  ·exact hnf hx hu
  ·rcases List.mem_cons.1 hz with rfl | hz
   ·exact hnf hy hv
   ·cases hz
 rw [run_callFunc_extern hf hname hb hn he]
 have : (Extern.BytealgCompare.compare [u, v].toArray).run P w = .ok (.int .i64 (Lib.compareBytes a b)) w := by
  change Sem.run P (do pure (goInt (Extern.BytealgCompare.cmp (<- Extern.Bytes.bytesOf u) (<- Extern.Bytes.bytesOf v)))) w = _
  simp only [Sem.run_bind, c1, d1, Result.andThen_ok, Sem.run_pure]
  rw [Lib.cmp_eq, c2, d2]
  rfl
 rw [this]; rfl
end Go.Ab
namespace Go.Ab
def ziq.Imp (C : CSem) (N : zN) : Prop := ∀ (x y : AVal) (a b : List UInt8) (S T : List (List AVal)) (h : za) (Q : zQ), SlX h 1 x (a.map bc) S -> SlX h 1 y (b.map bc) T -> Q (.int .i64 (Lib.compareBytes a b)) h -> C (N 303) [x, y] h Q
@[simp] def zct.k1 (C : CSem) (N : zN) (Q : zQ) (f g : AVal) (h : za) : Prop :=
 B.pv (V.bin .gtr g (.int .i64 200000)) fun a =>
  B.gd h a false (fun K => K f h) fun b h =>
  B.gd h a false (fun K => B.pv (V.zj b) fun v => K v h) fun c h =>
  B.gd h a false (fun K => B.pv (V.bin .gtr c (.int .i64 2000)) fun v => K v h) fun d h =>
  B.pick a (.bool true) d fun e =>
  Q e h
@[simp] def zct.k2 (C : CSem) (N : zN) (Q : zQ) (Y1 : zL) (a c b : AVal) (h : za) : Prop :=
 B.pv (V.zj a) fun u =>
  B.pv (V.bin .lss b u) fun d =>
  B.gd h d true (fun K => K c h) fun e h =>
  B.gd h d true (fun K => B.pv (V.bin .leq e (.int .i64 200000)) fun v => K v h) fun f h =>
  B.pick d f (.bool false) fun g =>
  B.cond g
  (B.pv (V.bin .add c (.int .i64 1)) fun i =>
  B.pv (V.idxS 2 a b) fun j =>
  B.pv (V.fieldAddr 0 j) fun k =>
  B.ld h k fun l =>
  B.pv (V.zj l) fun m =>
  B.pv (V.bin .add i m) fun n =>
  B.pv (V.idxS 2 a b) fun o =>
  B.pv (V.fieldAddr 1 o) fun p =>
  B.ld h p fun q =>
  B.pv (V.zj q) fun r =>
  B.pv (V.bin .add n r) fun s =>
  B.pv (V.bin .add b (.int .i64 1)) fun t =>
  Y1 [s, t] h)
  (zct.k1 C N Q a c h)
@[simp] def zct.l3 (C : CSem) (N : zN) (Q : zQ) (a : AVal) : zG
 | [b, c], h, Y1 => zct.k2 C N Q Y1 a b c h
 | _, _, _ => False
@[simp] def zct.cps (C : CSem) (N : zN) (a : AVal) (h : za) (Q : zQ) : Prop :=
 ze (zct.l3 C N Q a) [(.int .i64 0), (.int .i64 0)] h
def zct.Imp (C : CSem) (N : zN) : Prop := im1 C (N 417) (zct.cps C N)
@[simp] def zdo.k1 (C : CSem) (N : zN) (Q : zQ) (h : za) : Prop :=
 B.call C (N 422) [] h fun v8 h =>
  B.call C (N 412) [v8] h fun j h =>
  B.pv (V.zj j) fun r =>
  B.pv (V.bin .neq r (.int .i64 5)) fun s =>
  B.cond s
  (Q (.bool false) h)
  (B.call C (N 413) [j] h fun n h =>
  B.pv (V.ext 0 n) fun t =>
  B.pv (V.ext 1 n) fun u =>
  B.pv (V.setN 0 6 t (.agg [.int .i64 0, .int .i64 0, .int .i64 0, .nils, .nils, .nils])) fun w =>
  B.pv (A.bld [(0, none, (.int .i64 5))] [.int .i64 0, .int .i64 0, .int .i64 0, .str [], .int .u8 0, .nils, .nils]) fun x =>
  B.call C (N 415) [(.int .i64 1), (.int .i64 7), x] h fun o h =>
  B.pv (V.ext 0 o) fun k =>
  B.pv (V.ext 1 o) fun y =>
  B.call C (N 414) [(.int .i64 1), (.int .i64 7), k] h fun p h =>
  B.pv (V.ext 0 p) fun z =>
  B.pv (V.ext 1 p) fun aa =>
  B.pv (V.setN 0 7 z (.agg [.int .i64 0, .int .i64 0, .int .i64 0, .str [], .int .u8 0, .nils, .nils])) fun c6 =>
  B.pv (V.idxS 2 j (.int .i64 0)) fun ac =>
  B.pv (V.fieldAddr 0 ac) fun ad =>
  B.ld h ad fun ae =>
  B.zda h ae fun af =>
  B.pv (V.bin .eql af (.str [42, 100, 97, 121])) fun a =>
  B.gd h a true (fun K => K j h) fun ag h =>
  B.gd h a true (fun K => B.pv (V.idxS 2 ag (.int .i64 4)) fun v => K v h) fun ah h =>
  B.gd h a true (fun K => B.pv (V.fieldAddr 0 ah) fun v => K v h) fun ai h =>
  B.gd h a true (fun K => B.ld h ai fun v => K v h) fun aj h =>
  B.gd h a true (fun K => B.newO h (zcr [(0, none, (.int .u8 108)), (1, none, (.int .u8 0)), (2, none, (.int .u8 0)), (3, none, (.int .u8 0)), (4, none, (.int .u8 0)), (5, none, (.int .u8 0)), (6, none, (.int .u8 0)), (7, none, (.int .u8 0)), (8, none, (.int .u8 1))] (repL 9 [.int .u8 0])) fun i h => K (.sl i 0 0 9 1 9) h) fun ak h =>
  B.gd h a true (fun K => B.call C (N 34) [aj, ak] h K) fun am h =>
  B.pick a am (.bool false) fun b =>
  B.gd h b true (fun K => K j h) fun an h =>
  B.gd h b true (fun K => B.pv (V.idxS 2 an (.int .i64 4)) fun v => K v h) fun ao h =>
  B.gd h b true (fun K => B.pv (V.fieldAddr 1 ao) fun v => K v h) fun ap h =>
  B.gd h b true (fun K => B.ld h ap fun v => K v h) fun aq h =>
  B.gd h b true (fun K => B.newO h (zcr [(0, none, (.int .u8 1)), (1, none, (.int .u8 65)), (2, none, (.int .u8 0)), (3, none, (.int .u8 3)), (4, none, (.int .u8 0)), (5, none, (.int .u8 8)), (6, none, (.int .u8 0)), (7, none, (.int .u8 0)), (8, none, (.int .u8 0)), (9, none, (.int .u8 5)), (10, none, (.int .u8 1))] (repL 11 [.int .u8 0])) fun i h => K (.sl i 0 0 11 1 11) h) fun ar h =>
  B.gd h b true (fun K => B.call C (N 34) [aq, ar] h K) fun au h =>
  B.pick b au (.bool false) fun l =>
  B.gd h l true (fun K => K u h) fun av h =>
  B.gd h l true (fun K => B.pv (V.bin .eql av (.int .i64 0)) fun v => K v h) fun aw h =>
  B.pick l aw (.bool false) fun e =>
  B.gd h e true (fun K => B.pv (V.zcd 0 6 w) fun v => K v h) fun ax h =>
  B.al w (B.gd h e true (fun K => B.call C (N 422) [] h K) fun ay h =>
  B.gd h e true (fun K => B.call C (N 116) [ax, ay] h K) fun az h =>
  B.pick e az (.bool false) fun m =>
  B.gd h m true (fun K => K y h) fun ba h =>
  B.gd h m true (fun K => B.pv (V.bin .eql ba (.int .i64 0)) fun v => K v h) fun bb h =>
  B.pick m bb (.bool false) fun f =>
  B.gd h f true (fun K => K k h) fun bc h =>
  B.gd h f true (fun K => B.pv (V.zj bc) fun v => K v h) fun bd h =>
  B.gd h f true (fun K => B.pv (V.bin .eql bd (.int .i64 1)) fun v => K v h) fun be h =>
  B.pick f be (.bool false) fun c =>
  B.gd h c true (fun K => K k h) fun bf h =>
  B.gd h c true (fun K => B.pv (V.idxS 2 bf (.int .i64 0)) fun v => K v h) fun bg h =>
  B.gd h c true (fun K => B.pv (V.fieldAddr 0 bg) fun v => K v h) fun bh h =>
  B.gd h c true (fun K => B.ld h bh fun v => K v h) fun bi h =>
  B.gd h c true (fun K => B.newO h (zcr [(0, none, (.int .u8 97)), (1, none, (.int .u8 1)), (2, none, (.int .u8 0)), (3, none, (.int .u8 0)), (4, none, (.int .u8 0)), (5, none, (.int .u8 0)), (6, none, (.int .u8 0)), (7, none, (.int .u8 0)), (8, none, (.int .u8 0)), (9, none, (.int .u8 7)), (10, none, (.int .u8 0)), (11, none, (.int .u8 0))] (repL 12 [.int .u8 0])) fun i h => K (.sl i 0 0 12 1 12) h) fun bj h =>
  B.gd h c true (fun K => B.call C (N 34) [bi, bj] h K) fun bk h =>
  B.pick c bk (.bool false) fun q =>
  B.gd h q true (fun K => K aa h) fun bl h =>
  B.pick q bl (.bool false) fun g =>
  B.al c6 (B.gd h g true (fun K => K .undef h) fun _ h =>
  B.gd h g true (fun K => B.pv (V.zg 0 c6) fun v => K v h) fun bm h =>
  B.gd h g true (fun K => B.pv (V.bin .eql bm (.int .i64 5)) fun v => K v h) fun bn h =>
  B.pick g bn (.bool false) fun d =>
  B.gd h d true (fun K => B.pv (A.bld [] [.int .i64 0, .int .i64 0, .int .i64 0, .nils, .nils, .nils]) fun v => K v h) fun bo h =>
  B.gd h d true (fun K => B.call C (N 412) [bo] h K) fun bp h =>
  B.gd h d true (fun K => B.pv (V.zj bp) fun v => K v h) fun bq h =>
  B.gd h d true (fun K => B.pv (V.bin .eql bq (.int .i64 0)) fun v => K v h) fun br h =>
  B.pick d br (.bool false) fun bs =>
  Q bs h)))
@[simp] def zdo.cps (C : CSem) (N : zN) (h : za) (Q : zQ) : Prop :=
 zdo.k1 C N Q h
def zdo.Imp (C : CSem) (N : zN) : Prop := im0 C (N 418) (zdo.cps C N)
@[simp] def zd9.k1 (C : CSem) (N : zN) (Q : zQ) (h : za) : Prop :=
 B.pv (A.bld [(0, none, (.str [65])), (1, none, (.int .i64 5))] [.str [], .int .i64 0, .nils, .nils]) fun a =>
  B.newO h (zcr [(0, some 4, a)] (repL 1 [.str [], .int .i64 0, .nils, .nils])) fun b h =>
  B.pv (A.bld [(0, none, (.int .i64 3)), (1, none, (.int .i64 8))] [.int .i64 0, .int .i64 0]) fun c =>
  B.pv (A.bld [(0, none, (.int .i64 1)), (1, none, (.str [65])), (2, some 2, c), (4, none, (.int .i64 5)), (5, none, (.bool true))] [.int .i64 0, .str [], .int .i64 0, .int .i64 0, .int .i64 0, .bool false]) fun d =>
  B.newO h (zcr [(0, some 6, d)] (repL 1 [.int .i64 0, .str [], .int .i64 0, .int .i64 0, .int .i64 0, .bool false])) fun e h =>
  B.pv (A.bld [(0, none, (.int .i64 3)), (1, none, (.int .i64 2)), (2, none, (.int .i64 1)), (3, none, (.sl b 0 0 1 4 1)), (4, none, (.sl e 0 0 1 6 1))] [.int .i64 0, .int .i64 0, .int .i64 0, .nils, .nils, .nils]) fun f =>
  B.pv (V.setN 0 6 f (.agg [.int .i64 0, .int .i64 0, .int .i64 0, .nils, .nils, .nils])) fun g =>
  B.pv (oneOf (ze9 (V.zcd 0 6 g) (some []))) fun v => Q v h
@[simp] def zd9.cps (C : CSem) (N : zN) (h : za) (Q : zQ) : Prop :=
 zd9.k1 C N Q h
def zd9.Imp (C : CSem) (N : zN) : Prop := im0 C (N 422) (zd9.cps C N)
@[simp] def zcn.k1 (C : CSem) (N : zN) (Q : zQ) (e : AVal) (h : za) : Prop :=
 B.call C (N 417) [e] h fun l h =>
  B.cond l
  (B.call C (N 418) [] h fun m h =>
  Q m h)
  (B.call C (N 254) [e] h fun b h =>
  B.call C (N 413) [b] h fun f h =>
  B.pv (V.ext 0 f) fun n =>
  B.pv (V.ext 1 f) fun o =>
  B.pv (V.setN 0 6 n (.agg [.int .i64 0, .int .i64 0, .int .i64 0, .nils, .nils, .nils])) fun p =>
  B.call C (N 413) [b] h fun g h =>
  B.pv (V.ext 0 g) fun q =>
  B.pv (V.ext 1 g) fun ao =>
  B.pv (V.setN 0 6 q (.agg [.int .i64 0, .int .i64 0, .int .i64 0, .nils, .nils, .nils])) fun r =>
  B.call C (N 258) [b, e] h fun s h =>
  B.pv (V.un .not s) fun t =>
  B.cond t
  (Q (.bool false) h)
  (B.call C (N 451) [b] h fun ap h =>
  B.call C (N 452) [e] h fun j h =>
  B.pv (V.ext 0 j) fun u =>
  B.pv (V.ext 1 j) fun w =>
  B.pv (V.setN 0 6 u (.agg [.int .i64 0, .int .i64 0, .int .i64 0, .nils, .nils, .nils])) fun x =>
  B.pv (V.zcd 0 6 p) fun y =>
  B.pv (V.zcd 0 6 x) fun z =>
  B.call C (N 116) [y, z] h fun c h =>
  B.gd h c true (fun K => B.pv (V.zcd 0 6 r) fun v => K v h) fun aa h =>
  B.gd h c true (fun K => B.pv (V.zcd 0 6 x) fun v => K v h) fun ab h =>
  B.gd h c true (fun K => B.call C (N 116) [aa, ab] h K) fun ac h =>
  B.pick c ac (.bool false) fun d =>
  B.gd h d true (fun K => K o h) fun ad h =>
  B.gd h d true (fun K => K w h) fun ae h =>
  B.gd h d true (fun K => B.pv (V.bin .eql ad ae) fun v => K v h) fun af h =>
  B.pick d af (.bool false) fun a =>
  B.gd h a true (fun K => B.pv (V.zcd 0 6 p) fun v => K v h) fun ag h =>
  B.gd h a true (fun K => B.newO h (zcr [(0, some 6, ag)] (repL 1 [.int .i64 0, .int .i64 0, .int .i64 0, .nils, .nils, .nils])) fun i h => K (.sl i 0 0 1 6 1) h) fun ah h =>
  B.gd h a true (fun K => B.pv (V.zcd 0 6 r) fun v => K v h) fun ai h =>
  B.gd h a true (fun K => B.newO h (zcr [(0, some 6, ai)] (repL 1 [.int .i64 0, .int .i64 0, .int .i64 0, .nils, .nils, .nils])) fun i h => K (.sl i 0 0 1 6 1) h) fun aj h =>
  B.gd h a true (fun K => B.newO h (zcr [(0, none, ah), (1, none, aj)] (repL 2 [.nils])) fun i h => K (.sl i 0 0 2 1 2) h) fun ak h =>
  B.gd h a true (fun K => B.call C (N 453) [ak] h K) fun al h =>
  B.pick a al (.bool false) fun k =>
  B.gd h k true (fun K => B.call C (N 418) [] h K) fun am h =>
  B.pick k am (.bool false) fun an =>
  Q an h))
@[simp] def zcn.cps (C : CSem) (N : zN) (a : AVal) (h : za) (Q : zQ) : Prop :=
 zcn.k1 C N Q a h
def zcn.Imp (C : CSem) (N : zN) : Prop := im1 C (N 454) (zcn.cps C N)
@[simp] def ze5.k1 (C : CSem) (N : zN) (Q : zQ) (r : AVal) (h : za) : Prop :=
 B.pv (A.boxN 6 r) fun a =>
  B.al a (B.pv (V.zg 0 a) fun s =>
  B.pv (V.bin .gtr s (.int .i64 0)) fun f =>
  B.al a (B.gd h f true (fun K => K .undef h) fun _ h =>
  B.gd h f true (fun K => B.pv (V.zg 1 a) fun v => K v h) fun t h =>
  B.gd h f true (fun K => B.call C (N 53) [t] h K) fun u h =>
  B.pick f u (.bool false) fun c =>
  B.al a (B.gd h c true (fun K => K .undef h) fun _ h =>
  B.gd h c true (fun K => B.pv (V.zcd 2 2 a) fun v => K v h) fun g h =>
  B.gd h c true (fun K => B.call C (N 5) [g] h K) fun i h =>
  B.pick c i (.bool false) fun b =>
  B.al a (B.gd h b true (fun K => K .undef h) fun _ h =>
  B.al a (B.gd h b true (fun K => K .undef h) fun _ h =>
  B.gd h b true (fun K => B.pv (V.zg 2 a) fun v => K v h) fun j h =>
  B.al a (B.gd h b true (fun K => K .undef h) fun _ h =>
  B.al a (B.gd h b true (fun K => K .undef h) fun _ h =>
  B.gd h b true (fun K => B.pv (V.zg 3 a) fun v => K v h) fun k h =>
  B.gd h b true (fun K => B.pv (V.bin .lss j k) fun v => K v h) fun l h =>
  B.pick b l (.bool false) fun d =>
  B.al a (B.gd h d true (fun K => K .undef h) fun _ h =>
  B.gd h d true (fun K => B.pv (V.zg 4 a) fun v => K v h) fun m h =>
  B.gd h d true (fun K => B.pv (V.bin .gtr m (.int .i64 0)) fun v => K v h) fun n h =>
  B.pick d n (.bool false) fun e =>
  B.al a (B.gd h e true (fun K => K .undef h) fun _ h =>
  B.gd h e true (fun K => B.pv (V.zg 4 a) fun v => K v h) fun o h =>
  B.gd h e true (fun K => B.pv (V.bin .leq o (.int .i64 1073741824)) fun v => K v h) fun p h =>
  B.pick e p (.bool false) fun q =>
  Q q h)))))))))
@[simp] def ze5.cps (C : CSem) (N : zN) (a : AVal) (h : za) (Q : zQ) : Prop :=
 ze5.k1 C N Q a h
def ze5.Imp (C : CSem) (N : zN) : Prop := im1 C (N 52) (ze5.cps C N)
@[simp] def zes.k1 (C : CSem) (N : zN) (Q : zQ) (v0 : AVal) (h : za) : Prop :=
 B.pv (A.boxN 8 v0) fun a =>
  B.al a (B.pv (V.zg 0 a) fun v4 =>
  B.pv (V.bin .lss v4 (.int .i64 1)) fun n =>
  B.al a (B.gd h n false (fun K => K .undef h) fun _ h =>
  B.gd h n false (fun K => B.pv (V.zg 1 a) fun v => K v h) fun v8 h =>
  B.gd h n false (fun K => B.call C (N 53) [v8] h K) fun v9 h =>
  B.gd h n false (fun K => B.pv (V.un .not v9) fun v => K v h) fun o h =>
  B.pick n (.bool true) o fun b =>
  B.al a (B.gd h b false (fun K => K .undef h) fun _ h =>
  B.gd h b false (fun K => B.pv (V.zg 2 a) fun v => K v h) fun p h =>
  B.gd h b false (fun K => B.pv (V.bin .lss p (.int .i64 1)) fun v => K v h) fun q h =>
  B.pick b (.bool true) q fun c =>
  B.al a (B.gd h c false (fun K => K .undef h) fun _ h =>
  B.gd h c false (fun K => B.pv (V.zg 2 a) fun v => K v h) fun r h =>
  B.gd h c false (fun K => B.pv (V.bin .gtr r (.int .i64 1073741824)) fun v => K v h) fun s h =>
  B.pick c (.bool true) s fun d =>
  B.al a (B.gd h d false (fun K => K .undef h) fun _ h =>
  B.gd h d false (fun K => B.pv (V.zg 3 a) fun v => K v h) fun t h =>
  B.gd h d false (fun K => B.pv (V.bin .lss t (.int .i64 0)) fun v => K v h) fun u h =>
  B.pick d (.bool true) u fun e =>
  B.al a (B.gd h e false (fun K => K .undef h) fun _ h =>
  B.gd h e false (fun K => B.pv (V.zg 3 a) fun v => K v h) fun w h =>
  B.gd h e false (fun K => B.pv (V.bin .gtr w (.int .i64 4000)) fun v => K v h) fun x h =>
  B.pick e (.bool true) x fun f =>
  B.al a (B.gd h f false (fun K => K .undef h) fun _ h =>
  B.gd h f false (fun K => B.pv (V.zg 4 a) fun v => K v h) fun y h =>
  B.gd h f false (fun K => B.pv (V.bin .lss y (.int .i64 0)) fun v => K v h) fun z h =>
  B.pick f (.bool true) z fun g =>
  B.al a (B.gd h g false (fun K => K .undef h) fun _ h =>
  B.gd h g false (fun K => B.pv (V.zg 4 a) fun v => K v h) fun aa h =>
  B.gd h g false (fun K => B.pv (V.bin .gtr aa (.int .i64 99)) fun v => K v h) fun ab h =>
  B.pick g (.bool true) ab fun ac =>
  B.cond ac
  (Q (.bool false) h)
  (B.al a (B.pv (V.zg 5 a) fun ad =>
  B.pv (V.bin .lss ad (.int .u8 1)) fun i =>
  B.al a (B.gd h i false (fun K => K .undef h) fun _ h =>
  B.gd h i false (fun K => B.pv (V.zg 5 a) fun v => K v h) fun ae h =>
  B.gd h i false (fun K => B.pv (V.bin .gtr ae (.int .u8 3)) fun v => K v h) fun af h =>
  B.pick i (.bool true) af fun ag =>
  B.cond ag
  (Q (.bool false) h)
  (B.al a (B.pv (V.zg 6 a) fun ah =>
  B.pv (V.bin .eql ah (.int .i64 (-1))) fun ai =>
  B.cond ai
  (B.al a (B.pv (V.zg 7 a) fun aj =>
  B.pv (V.bin .eql aj (.str [])) fun j =>
  B.al a (B.gd h j true (fun K => K .undef h) fun _ h =>
  B.gd h j true (fun K => B.pv (V.zg 5 a) fun v => K v h) fun ak h =>
  B.gd h j true (fun K => B.pv (V.bin .neq ak (.int .u8 2)) fun v => K v h) fun am h =>
  B.pick j am (.bool false) fun an =>
  Q an h)))
  (B.al a (B.pv (V.zg 6 a) fun ao =>
  B.pv (V.bin .geq ao (.int .i64 0)) fun k =>
  B.al a (B.gd h k true (fun K => K .undef h) fun _ h =>
  B.gd h k true (fun K => B.pv (V.zg 6 a) fun v => K v h) fun ap h =>
  B.gd h k true (fun K => B.pv (V.bin .leq ap (.int .i64 4000)) fun v => K v h) fun aq h =>
  B.pick k aq (.bool false) fun l =>
  B.al a (B.gd h l true (fun K => K .undef h) fun _ h =>
  B.gd h l true (fun K => B.pv (V.zg 7 a) fun v => K v h) fun ar h =>
  B.gd h l true (fun K => B.call C (N 53) [ar] h K) fun au h =>
  B.pick l au (.bool false) fun m =>
  B.al a (B.gd h m true (fun K => K .undef h) fun _ h =>
  B.gd h m true (fun K => B.pv (V.zg 5 a) fun v => K v h) fun av h =>
  B.gd h m true (fun K => B.pv (V.bin .neq av (.int .u8 3)) fun v => K v h) fun aw h =>
  B.pick m aw (.bool false) fun ax =>
  Q ax h))))))))))))))))))
@[simp] def zes.cps (C : CSem) (N : zN) (a : AVal) (h : za) (Q : zQ) : Prop :=
 zes.k1 C N Q a h
def zes.Imp (C : CSem) (N : zN) : Prop := im1 C (N 179) (zes.cps C N)
@[simp] def zd8.k1 (C : CSem) (N : zN) (Q : zQ) (u : AVal) (h : za) : Prop :=
 B.pv (A.boxN 6 u) fun a =>
  B.al a (B.pv (V.zg 0 a) fun w =>
  B.pv (V.bin .geq w (.int .i64 1)) fun g =>
  B.al a (B.gd h g true (fun K => K .undef h) fun _ h =>
  B.gd h g true (fun K => B.pv (V.zg 1 a) fun v => K v h) fun x h =>
  B.gd h g true (fun K => B.call C (N 61) [x] h K) fun y h =>
  B.pick g y (.bool false) fun c =>
  B.al a (B.gd h c true (fun K => K .undef h) fun _ h =>
  B.al a (B.gd h c true (fun K => K .undef h) fun _ h =>
  B.gd h c true (fun K => B.pv (V.zg 2 a) fun v => K v h) fun i h =>
  B.gd h c true (fun K => B.pv (V.bin .geq i (.int .i64 0)) fun v => K v h) fun j h =>
  B.pick c j (.bool false) fun b =>
  B.al a (B.gd h b true (fun K => K .undef h) fun _ h =>
  B.al a (B.gd h b true (fun K => K .undef h) fun _ h =>
  B.gd h b true (fun K => B.pv (V.zg 2 a) fun v => K v h) fun k h =>
  B.al a (B.gd h b true (fun K => K .undef h) fun _ h =>
  B.al a (B.gd h b true (fun K => K .undef h) fun _ h =>
  B.gd h b true (fun K => B.pv (V.zg 3 a) fun v => K v h) fun l h =>
  B.gd h b true (fun K => B.pv (V.bin .lss k l) fun v => K v h) fun m h =>
  B.pick b m (.bool false) fun d =>
  B.al a (B.gd h d true (fun K => K .undef h) fun _ h =>
  B.al a (B.gd h d true (fun K => K .undef h) fun _ h =>
  B.gd h d true (fun K => B.pv (V.zg 3 a) fun v => K v h) fun n h =>
  B.gd h d true (fun K => B.pv (V.bin .leq n (.int .i64 4001)) fun v => K v h) fun o h =>
  B.pick d o (.bool false) fun e =>
  B.al a (B.gd h e true (fun K => K .undef h) fun _ h =>
  B.gd h e true (fun K => B.pv (V.zg 4 a) fun v => K v h) fun p h =>
  B.gd h e true (fun K => B.pv (V.bin .geq p (.int .i64 1)) fun v => K v h) fun q h =>
  B.pick e q (.bool false) fun f =>
  B.al a (B.gd h f true (fun K => K .undef h) fun _ h =>
  B.gd h f true (fun K => B.pv (V.zg 4 a) fun v => K v h) fun r h =>
  B.gd h f true (fun K => B.pv (V.bin .leq r (.int .i64 1073741824)) fun v => K v h) fun s h =>
  B.pick f s (.bool false) fun t =>
  Q t h))))))))))))
@[simp] def zd8.cps (C : CSem) (N : zN) (a : AVal) (h : za) (Q : zQ) : Prop :=
 zd8.k1 C N Q a h
def zd8.Imp (C : CSem) (N : zN) : Prop := im1 C (N 60) (zd8.cps C N)
@[simp] def zd7.k1 (C : CSem) (N : zN) (Q : zQ) (v0 : AVal) (h : za) : Prop :=
 B.pv (A.boxN 8 v0) fun a =>
  B.al a (B.pv (V.zg 0 a) fun v6 =>
  B.pv (V.bin .lss v6 (.int .i64 1)) fun l =>
  B.al a (B.gd h l false (fun K => K .undef h) fun _ h =>
  B.gd h l false (fun K => B.pv (V.zg 1 a) fun v => K v h) fun p h =>
  B.gd h l false (fun K => B.call C (N 61) [p] h K) fun q h =>
  B.gd h l false (fun K => B.pv (V.un .not q) fun v => K v h) fun r h =>
  B.pick l (.bool true) r fun b =>
  B.al a (B.gd h b false (fun K => K .undef h) fun _ h =>
  B.gd h b false (fun K => B.pv (V.zg 2 a) fun v => K v h) fun s h =>
  B.gd h b false (fun K => B.pv (V.bin .lss s (.int .i64 1)) fun v => K v h) fun t h =>
  B.pick b (.bool true) t fun c =>
  B.al a (B.gd h c false (fun K => K .undef h) fun _ h =>
  B.gd h c false (fun K => B.pv (V.zg 2 a) fun v => K v h) fun u h =>
  B.gd h c false (fun K => B.pv (V.bin .gtr u (.int .i64 1073741824)) fun v => K v h) fun w h =>
  B.pick c (.bool true) w fun d =>
  B.al a (B.gd h d false (fun K => K .undef h) fun _ h =>
  B.gd h d false (fun K => B.pv (V.zg 3 a) fun v => K v h) fun x h =>
  B.gd h d false (fun K => B.pv (V.bin .lss x (.int .i64 0)) fun v => K v h) fun y h =>
  B.pick d (.bool true) y fun e =>
  B.al a (B.gd h e false (fun K => K .undef h) fun _ h =>
  B.gd h e false (fun K => B.pv (V.zg 3 a) fun v => K v h) fun z h =>
  B.gd h e false (fun K => B.pv (V.bin .gtr z (.int .i64 4000)) fun v => K v h) fun aa h =>
  B.pick e (.bool true) aa fun f =>
  B.al a (B.gd h f false (fun K => K .undef h) fun _ h =>
  B.gd h f false (fun K => B.pv (V.zg 4 a) fun v => K v h) fun ab h =>
  B.gd h f false (fun K => B.pv (V.bin .lss ab (.int .i64 0)) fun v => K v h) fun ac h =>
  B.pick f (.bool true) ac fun g =>
  B.al a (B.gd h g false (fun K => K .undef h) fun _ h =>
  B.gd h g false (fun K => B.pv (V.zg 4 a) fun v => K v h) fun ad h =>
  B.gd h g false (fun K => B.pv (V.bin .gtr ad (.int .i64 99)) fun v => K v h) fun ae h =>
  B.pick g (.bool true) ae fun af =>
  B.cond af
  (Q (.bool false) h)
  (B.al a (B.pv (V.zg 6 a) fun ag =>
  B.pv (V.bin .eql ag (.int .i64 (-1))) fun i =>
  B.al a (B.gd h i true (fun K => K .undef h) fun _ h =>
  B.gd h i true (fun K => B.pv (V.zg 7 a) fun v => K v h) fun ah h =>
  B.gd h i true (fun K => B.pv (V.bin .eql ah (.str [])) fun v => K v h) fun ai h =>
  B.pick i ai (.bool false) fun m =>
  B.al a (B.pv (V.zg 6 a) fun aj =>
  B.pv (V.bin .geq aj (.int .i64 0)) fun j =>
  B.al a (B.gd h j true (fun K => K .undef h) fun _ h =>
  B.gd h j true (fun K => B.pv (V.zg 6 a) fun v => K v h) fun ak h =>
  B.gd h j true (fun K => B.pv (V.bin .leq ak (.int .i64 4000)) fun v => K v h) fun am h =>
  B.pick j am (.bool false) fun k =>
  B.al a (B.gd h k true (fun K => K .undef h) fun _ h =>
  B.gd h k true (fun K => B.pv (V.zg 7 a) fun v => K v h) fun an h =>
  B.gd h k true (fun K => B.call C (N 61) [an] h K) fun ao h =>
  B.pick k ao (.bool false) fun o =>
  B.al a (B.pv (V.zg 5 a) fun n =>
  B.pv (V.bin .eql n (.int .u8 1)) fun ap =>
  B.cond ap
  (B.gd h m false (fun K => K o h) fun aq h =>
  B.pick m (.bool true) aq fun ar =>
  Q ar h)
  (B.pv (V.bin .eql n (.int .u8 2)) fun au =>
  B.cond au
  (Q o h)
  (B.pv (V.bin .eql n (.int .u8 3)) fun av =>
  B.cond av
  (Q m h)
  (Q (.bool false) h))))))))))))))))))
@[simp] def zd7.cps (C : CSem) (N : zN) (a : AVal) (h : za) (Q : zQ) : Prop :=
 zd7.k1 C N Q a h
def zd7.Imp (C : CSem) (N : zN) : Prop := im1 C (N 180) (zd7.cps C N)
@[simp] def zo.k1 (C : CSem) (N : zN) (Q : zQ) (a j k : AVal) (h : za) : Prop :=
 B.nilCheck a fun b =>
  B.pv (V.fieldAddr 1 b) fun c =>
  B.ld h c fun d =>
  B.pv (V.bin .add d j) fun e =>
  B.nilCheck a fun f =>
  B.pv (V.fieldAddr 1 f) fun g =>
  B.st h g e fun h =>
  B.pv (V.toInt .i64 k) fun i =>
  Q i h
@[simp] def zo.k2 (C : CSem) (N : zN) (Q : zQ) (Y1 : zL) (a c d b : AVal) (h : za) : Prop :=
 B.pv (V.bin .lss b c) fun e =>
  B.cond e
  (B.pv (V.bin .mul (.int .u64 256) d) fun f =>
  B.nilCheck a fun g =>
  B.pv (V.fieldAddr 0 g) fun i =>
  B.ld h i fun j =>
  B.nilCheck a fun k =>
  B.pv (V.fieldAddr 1 k) fun l =>
  B.ld h l fun m =>
  B.pv (V.bin .add m b) fun n =>
  B.pv (V.idxS 1 j n) fun o =>
  B.ld h o fun p =>
  B.pv (V.toInt .u64 p) fun q =>
  B.pv (V.bin .add f q) fun r =>
  B.pv (V.bin .add b (.int .i64 1)) fun s =>
  Y1 [r, s] h)
  (zo.k1 C N Q a c d h)
@[simp] def zo.l3 (C : CSem) (N : zN) (Q : zQ) (a b : AVal) : zG
 | [c, d], h, Y1 => zo.k2 C N Q Y1 a b c d h
 | _, _, _ => False
@[simp] def zo.k4 (C : CSem) (N : zN) (Q : zQ) (b c : AVal) (h : za) : Prop :=
 B.nilCheck b fun t =>
  B.pv (V.fieldAddr 2 t) fun u =>
  B.ld h u fun a =>
  B.gd h a false (fun K => K c h) fun d h =>
  B.gd h a false (fun K => K b h) fun e h =>
  B.gd h a false (fun K => B.nilCheck e fun v => K v h) fun f h =>
  B.gd h a false (fun K => B.pv (V.fieldAddr 0 f) fun v => K v h) fun g h =>
  B.gd h a false (fun K => B.ld h g fun v => K v h) fun i h =>
  B.gd h a false (fun K => B.pv (V.zj i) fun v => K v h) fun j h =>
  B.gd h a false (fun K => K b h) fun k h =>
  B.gd h a false (fun K => B.nilCheck k fun v => K v h) fun l h =>
  B.gd h a false (fun K => B.pv (V.fieldAddr 1 l) fun v => K v h) fun m h =>
  B.gd h a false (fun K => B.ld h m fun v => K v h) fun n h =>
  B.gd h a false (fun K => B.pv (V.bin .sub j n) fun v => K v h) fun o h =>
  B.gd h a false (fun K => B.pv (V.bin .gtr d o) fun v => K v h) fun p h =>
  B.pick a (.bool true) p fun q =>
  B.cond q
  (B.nilCheck b fun r =>
  B.pv (V.fieldAddr 2 r) fun s =>
  B.st h s (.bool true) fun h =>
  Q (.int .i64 0) h)
  (ze (zo.l3 C N Q b c) [(.int .u64 0), (.int .i64 0)] h)
@[simp] def zo.cps (C : CSem) (N : zN) (a b : AVal) (h : za) (Q : zQ) : Prop :=
 zo.k4 C N Q a b h
def zo.Imp (C : CSem) (N : zN) : Prop := im2 C (N 71) (zo.cps C N)
@[simp] def zb0.k1 (C : CSem) (N : zN) (Q : zQ) (a : AVal) (h : za) : Prop :=
 B.nilCheck a fun w =>
  B.pv (V.fieldAddr 2 w) fun x =>
  B.ld h x fun y =>
  B.cond y
  (Q (.str []) h)
  (B.nilCheck a fun c =>
  B.pv (V.fieldAddr 0 c) fun d =>
  B.ld h d fun e =>
  B.nilCheck a fun f =>
  B.pv (V.fieldAddr 1 f) fun g =>
  B.ld h g fun i =>
  B.pv (V.zgo 1 e (some i) none) fun j =>
  B.call C (N 104) [j] h fun b h =>
  B.pv (V.ext 0 b) fun k =>
  B.pv (V.ext 1 b) fun l =>
  B.pv (V.ext 2 b) fun m =>
  B.pv (V.un .not m) fun n =>
  B.nilCheck a fun o =>
  B.pv (V.fieldAddr 2 o) fun p =>
  B.st h p n fun h =>
  B.nilCheck a fun q =>
  B.pv (V.fieldAddr 1 q) fun r =>
  B.ld h r fun s =>
  B.pv (V.bin .add s l) fun t =>
  B.nilCheck a fun u =>
  B.pv (V.fieldAddr 1 u) fun v =>
  B.st h v t fun h =>
  Q k h)
@[simp] def zb0.cps (C : CSem) (N : zN) (a : AVal) (h : za) (Q : zQ) : Prop :=
 zb0.k1 C N Q a h
def zb0.Imp (C : CSem) (N : zN) : Prop := im1 C (N 73) (zb0.cps C N)
@[simp] def zd6.k1 (C : CSem) (N : zN) (Q : zQ) (v0 : AVal) (h : za) : Prop :=
 B.pv (A.boxN 11 v0) fun a =>
  B.al a (B.pv (V.zg 0 a) fun v7 =>
  B.call C (N 476) [v7] h fun v8 h =>
  B.pv (V.ext 0 v8) fun b =>
  B.pv (V.ext 1 v8) fun cq =>
  B.pv (V.un .not cq) fun ab =>
  B.al a (B.gd h ab false (fun K => K .undef h) fun _ h =>
  B.gd h ab false (fun K => B.pv (V.zg 1 a) fun v => K v h) fun cr h =>
  B.gd h ab false (fun K => B.pv (V.bin .lss cr (.int .i64 0)) fun v => K v h) fun cs h =>
  B.pick ab (.bool true) cs fun ac =>
  B.al a (B.gd h ac false (fun K => K .undef h) fun _ h =>
  B.gd h ac false (fun K => B.pv (V.zg 1 a) fun v => K v h) fun ct h =>
  B.gd h ac false (fun K => B.pv (V.bin .gtr ct (.int .i64 4611686018427387904)) fun v => K v h) fun cu h =>
  B.pick ac (.bool true) cu fun cv =>
  B.cond cv
  (Q (.bool false) h)
  (B.al a (B.pv (V.zg 2 a) fun cw =>
  B.pv (V.bin .neq cw (.str [])) fun cx =>
  B.call C (N 477) [b, (.int .u8 105)] h fun cy h =>
  B.pv (V.zu9 .neq cy cx) fun n =>
  B.al a (B.gd h n false (fun K => K .undef h) fun _ h =>
  B.gd h n false (fun K => B.pv (V.zg 2 a) fun v => K v h) fun cz h =>
  B.gd h n false (fun K => B.pv (V.bin .neq cz (.str [])) fun v => K v h) fun da h =>
  B.gd h n false (fun K => K da h) fun aa h =>
  B.al a (B.gd h aa true (fun K => K .undef h) fun _ h =>
  B.gd h aa true (fun K => B.pv (V.zg 2 a) fun v => K v h) fun db h =>
  B.gd h aa true (fun K => B.call C (N 61) [db] h K) fun dc h =>
  B.gd h aa true (fun K => B.pv (V.un .not dc) fun v => K v h) fun dd h =>
  B.gd h n false (fun K => B.pick aa dd (.bool false) fun v => K v h) fun de h =>
  B.pick n (.bool true) de fun df =>
  B.cond df
  (Q (.bool false) h)
  (B.call C (N 477) [b, (.int .u8 113)] h fun o h =>
  B.al a (B.gd h o true (fun K => K .undef h) fun _ h =>
  B.gd h o true (fun K => B.pv (V.zg 3 a) fun v => K v h) fun dg h =>
  B.gd h o true (fun K => B.pv (V.bin .lss dg (.int .i64 1)) fun v => K v h) fun dh h =>
  B.gd h o true (fun K => K dh h) fun ad h =>
  B.al a (B.gd h ad false (fun K => K .undef h) fun _ h =>
  B.gd h ad false (fun K => B.pv (V.zg 3 a) fun v => K v h) fun di h =>
  B.gd h ad false (fun K => B.pv (V.bin .gtr di (.int .i64 1073741824)) fun v => K v h) fun dj h =>
  B.gd h o true (fun K => B.pick ad (.bool true) dj fun v => K v h) fun dk h =>
  B.pick o dk (.bool false) fun p =>
  B.gd h p false (fun K => K b h) fun dl h =>
  B.gd h p false (fun K => B.call C (N 477) [dl, (.int .u8 113)] h K) fun dm h =>
  B.gd h p false (fun K => B.pv (V.un .not dm) fun v => K v h) fun dn h =>
  B.gd h p false (fun K => K dn h) fun ae h =>
  B.al a (B.gd h ae true (fun K => K .undef h) fun _ h =>
  B.gd h ae true (fun K => B.pv (V.zg 3 a) fun v => K v h) fun dp h =>
  B.gd h ae true (fun K => B.pv (V.bin .neq dp (.int .i64 0)) fun v => K v h) fun dq h =>
  B.gd h p false (fun K => B.pick ae dq (.bool false) fun v => K v h) fun dr h =>
  B.pick p (.bool true) dr fun ds =>
  B.cond ds
  (Q (.bool false) h)
  (B.al a (B.pv (V.zg 4 a) fun dt =>
  B.pv (V.bin .lss dt (.int .i64 0)) fun af =>
  B.al a (B.gd h af false (fun K => K .undef h) fun _ h =>
  B.gd h af false (fun K => B.pv (V.zg 4 a) fun v => K v h) fun du h =>
  B.gd h af false (fun K => B.pv (V.bin .gtr du (.int .i64 4000)) fun v => K v h) fun dv h =>
  B.pick af (.bool true) dv fun q =>
  B.gd h q false (fun K => K b h) fun dw h =>
  B.gd h q false (fun K => B.call C (N 477) [dw, (.int .u8 100)] h K) fun dx h =>
  B.gd h q false (fun K => B.pv (V.un .not dx) fun v => K v h) fun dy h =>
  B.gd h q false (fun K => K dy h) fun ag h =>
  B.al a (B.gd h ag true (fun K => K .undef h) fun _ h =>
  B.gd h ag true (fun K => B.pv (V.zg 4 a) fun v => K v h) fun dz h =>
  B.gd h ag true (fun K => B.pv (V.bin .neq dz (.int .i64 0)) fun v => K v h) fun ea h =>
  B.gd h q false (fun K => B.pick ag ea (.bool false) fun v => K v h) fun eb h =>
  B.pick q (.bool true) eb fun ec =>
  B.cond ec
  (Q (.bool false) h)
  (B.call C (N 477) [b, (.int .u8 108)] h fun r h =>
  B.al a (B.gd h r true (fun K => K .undef h) fun _ h =>
  B.gd h r true (fun K => B.pv (V.zg 5 a) fun v => K v h) fun ed h =>
  B.gd h r true (fun K => B.pv (V.bin .lss ed (.int .i64 1)) fun v => K v h) fun ee h =>
  B.gd h r true (fun K => K ee h) fun ah h =>
  B.al a (B.gd h ah false (fun K => K .undef h) fun _ h =>
  B.gd h ah false (fun K => B.pv (V.zg 5 a) fun v => K v h) fun ef h =>
  B.gd h ah false (fun K => B.pv (V.bin .gtr ef (.int .i64 2000)) fun v => K v h) fun eg h =>
  B.gd h r true (fun K => B.pick ah (.bool true) eg fun v => K v h) fun eh h =>
  B.pick r eh (.bool false) fun s =>
  B.gd h s false (fun K => K b h) fun ei h =>
  B.gd h s false (fun K => B.call C (N 477) [ei, (.int .u8 108)] h K) fun ej h =>
  B.gd h s false (fun K => B.pv (V.un .not ej) fun v => K v h) fun ek h =>
  B.gd h s false (fun K => K ek h) fun ai h =>
  B.al a (B.gd h ai true (fun K => K .undef h) fun _ h =>
  B.gd h ai true (fun K => B.pv (V.zg 5 a) fun v => K v h) fun el h =>
  B.gd h ai true (fun K => B.pv (V.bin .neq el (.int .i64 0)) fun v => K v h) fun em h =>
  B.gd h s false (fun K => B.pick ai em (.bool false) fun v => K v h) fun aj h =>
  B.pick s (.bool true) aj fun ak =>
  B.cond ak
  (Q (.bool false) h)
  (B.al a (B.pv (V.zg 6 a) fun am =>
  B.pv (V.bin .lss am (.int .i64 0)) fun t =>
  B.al a (B.gd h t false (fun K => K .undef h) fun _ h =>
  B.gd h t false (fun K => B.pv (V.zg 6 a) fun v => K v h) fun an h =>
  B.gd h t false (fun K => B.pv (V.bin .gtr an (.int .i64 99)) fun v => K v h) fun ao h =>
  B.pick t (.bool true) ao fun c =>
  B.gd h c false (fun K => K b h) fun ap h =>
  B.gd h c false (fun K => B.call C (N 477) [ap, (.int .u8 114)] h K) fun aq h =>
  B.gd h c false (fun K => B.pv (V.un .not aq) fun v => K v h) fun ar h =>
  B.gd h c false (fun K => K ar h) fun u h =>
  B.al a (B.gd h u true (fun K => K .undef h) fun _ h =>
  B.gd h u true (fun K => B.pv (V.zg 6 a) fun v => K v h) fun au h =>
  B.gd h u true (fun K => B.pv (V.bin .neq au (.int .i64 0)) fun v => K v h) fun av h =>
  B.gd h c false (fun K => B.pick u av (.bool false) fun v => K v h) fun aw h =>
  B.pick c (.bool true) aw fun ax =>
  B.cond ax
  (Q (.bool false) h)
  (B.call C (N 477) [b, (.int .u8 116)] h fun w h =>
  B.al a (B.gd h w true (fun K => K .undef h) fun _ h =>
  B.gd h w true (fun K => B.pv (V.zg 7 a) fun v => K v h) fun ay h =>
  B.gd h w true (fun K => B.pv (V.bin .lss ay (.int .i64 1)) fun v => K v h) fun az h =>
  B.pick w az (.bool false) fun d =>
  B.gd h d false (fun K => K b h) fun ba h =>
  B.gd h d false (fun K => B.call C (N 477) [ba, (.int .u8 116)] h K) fun bb h =>
  B.gd h d false (fun K => B.pv (V.un .not bb) fun v => K v h) fun bc h =>
  B.gd h d false (fun K => K bc h) fun x h =>
  B.al a (B.gd h x true (fun K => K .undef h) fun _ h =>
  B.gd h x true (fun K => B.pv (V.zg 7 a) fun v => K v h) fun bd h =>
  B.gd h x true (fun K => B.pv (V.bin .neq bd (.int .i64 0)) fun v => K v h) fun be h =>
  B.gd h d false (fun K => B.pick x be (.bool false) fun v => K v h) fun bf h =>
  B.pick d (.bool true) bf fun j =>
  B.gd h j false (fun K => K b h) fun bg h =>
  B.gd h j false (fun K => B.call C (N 477) [bg, (.int .u8 110)] h K) fun bh h =>
  B.gd h j false (fun K => K bh h) fun y h =>
  B.al a (B.gd h y true (fun K => K .undef h) fun _ h =>
  B.gd h y true (fun K => B.pv (V.zg 8 a) fun v => K v h) fun bi h =>
  B.gd h y true (fun K => B.pv (V.bin .lss bi (.int .i64 1)) fun v => K v h) fun bj h =>
  B.gd h j false (fun K => B.pick y bj (.bool false) fun v => K v h) fun bk h =>
  B.pick j (.bool true) bk fun e =>
  B.gd h e false (fun K => K b h) fun bl h =>
  B.gd h e false (fun K => B.call C (N 477) [bl, (.int .u8 110)] h K) fun bm h =>
  B.gd h e false (fun K => B.pv (V.un .not bm) fun v => K v h) fun bn h =>
  B.gd h e false (fun K => K bn h) fun z h =>
  B.al a (B.gd h z true (fun K => K .undef h) fun _ h =>
  B.gd h z true (fun K => B.pv (V.zg 8 a) fun v => K v h) fun bo h =>
  B.gd h z true (fun K => B.pv (V.bin .neq bo (.int .i64 0)) fun v => K v h) fun bp h =>
  B.gd h e false (fun K => B.pick z bp (.bool false) fun v => K v h) fun bq h =>
  B.pick e (.bool true) bq fun br =>
  B.cond br
  (Q (.bool false) h)
  (B.call C (N 477) [b, (.int .u8 112)] h fun k h =>
  B.al a (B.gd h k true (fun K => K .undef h) fun _ h =>
  B.gd h k true (fun K => B.pv (V.zg 9 a) fun v => K v h) fun bs h =>
  B.gd h k true (fun K => B.call C (N 478) [bs] h K) fun bt h =>
  B.gd h k true (fun K => B.pv (V.un .not bt) fun v => K v h) fun bu h =>
  B.pick k bu (.bool false) fun f =>
  B.gd h f false (fun K => K b h) fun bv h =>
  B.gd h f false (fun K => B.call C (N 477) [bv, (.int .u8 112)] h K) fun bw h =>
  B.gd h f false (fun K => B.pv (V.un .not bw) fun v => K v h) fun bx h =>
  B.gd h f false (fun K => K bx h) fun l h =>
  B.al a (B.gd h l true (fun K => K .undef h) fun _ h =>
  B.gd h l true (fun K => B.pv (V.zg 9 a) fun v => K v h) fun bz h =>
  B.gd h l true (fun K => B.pv (V.zj bz) fun v => K v h) fun ca h =>
  B.gd h l true (fun K => B.pv (V.bin .gtr ca (.int .i64 0)) fun v => K v h) fun cb h =>
  B.gd h f false (fun K => B.pick l cb (.bool false) fun v => K v h) fun cc h =>
  B.pick f (.bool true) cc fun cd =>
  B.cond cd
  (Q (.bool false) h)
  (B.call C (N 477) [b, (.int .u8 111)] h fun g h =>
  B.al a (B.gd h g true (fun K => K .undef h) fun _ h =>
  B.gd h g true (fun K => B.pv (V.zg 10 a) fun v => K v h) fun ce h =>
  B.al a (B.gd h g true (fun K => K .undef h) fun _ h =>
  B.gd h g true (fun K => B.pv (V.zg 2 a) fun v => K v h) fun cf h =>
  B.gd h g true (fun K => B.call C (N 479) [ce, cf] h K) fun cg h =>
  B.pick g cg (.bool false) fun i =>
  B.gd h i false (fun K => K b h) fun ch h =>
  B.gd h i false (fun K => B.call C (N 477) [ch, (.int .u8 111)] h K) fun ci h =>
  B.gd h i false (fun K => B.pv (V.un .not ci) fun v => K v h) fun cj h =>
  B.gd h i false (fun K => K cj h) fun m h =>
  B.al a (B.gd h m true (fun K => K .undef h) fun _ h =>
  B.gd h m true (fun K => B.pv (V.zg 10 a) fun v => K v h) fun ck h =>
  B.gd h m true (fun K => B.pv (V.zj ck) fun v => K v h) fun cl h =>
  B.gd h m true (fun K => B.pv (V.bin .eql cl (.int .i64 0)) fun v => K v h) fun cm h =>
  B.gd h i false (fun K => B.pick m cm (.bool false) fun v => K v h) fun cn h =>
  B.pick i (.bool true) cn fun co =>
  Q co h)))))))))))))))))))))))))))))))))))
@[simp] def zd6.cps (C : CSem) (N : zN) (a : AVal) (h : za) (Q : zQ) : Prop :=
 zd6.k1 C N Q a h
def zd6.Imp (C : CSem) (N : zN) : Prop := im1 C (N 474) (zd6.cps C N)
@[simp] def zbi.k1 (C : CSem) (N : zN) (Q : zQ) (a b : AVal) (h : za) : Prop :=
 B.cond b
  (Q (.tup [(.str [110]), (.bool true)]) h)
  (B.pv (V.bin .eql a (.int .u8 12)) fun c =>
  B.cond c
  (Q (.tup [(.str []), (.bool true)]) h)
  (B.pv (V.bin .eql a (.int .u8 15)) fun d =>
  B.cond d
  (Q (.tup [(.str [105]), (.bool true)]) h)
  (Q (.tup [(.str []), (.bool false)]) h)))
@[simp] def zbi.k2 (C : CSem) (N : zN) (Q : zQ) (a : AVal) (h : za) : Prop :=
 B.pv (V.bin .eql a (.int .u8 10)) fun b =>
  B.cond b
  (zbi.k1 C N Q a b h)
  (B.pv (V.bin .eql a (.int .u8 11)) fun c =>
  B.cond c
  (zbi.k1 C N Q a c h)
  (B.pv (V.bin .eql a (.int .u8 14)) fun d =>
  zbi.k1 C N Q a d h))
@[simp] def zbi.k3 (C : CSem) (N : zN) (Q : zQ) (a : AVal) (h : za) : Prop :=
 B.pv (V.bin .eql a (.int .u8 7)) fun c =>
  B.cond c
  (B.cond c (Q (.tup [(.str [116]), (.bool true)]) h) (B.pv (V.bin .eql a (.int .u8 9)) fun b =>
  B.cond b (Q (.tup [(.str [105, 113, 100, 114]), (.bool true)]) h) (zbi.k2 C N Q a h)))
  (B.pv (V.bin .eql a (.int .u8 8)) fun d =>
  B.cond d (Q (.tup [(.str [116]), (.bool true)]) h) (B.pv (V.bin .eql a (.int .u8 9)) fun b =>
  B.cond b (Q (.tup [(.str [105, 113, 100, 114]), (.bool true)]) h) (zbi.k2 C N Q a h)))
@[simp] def zbi.k4 (C : CSem) (N : zN) (Q : zQ) (a : AVal) (h : za) : Prop :=
 B.pv (V.bin .eql a (.int .u8 5)) fun c =>
  B.cond c
  (B.cond c (Q (.tup [(.str [105, 113, 100]), (.bool true)]) h) (B.pv (V.bin .eql a (.int .u8 6)) fun b =>
  B.cond b (Q (.tup [(.str [116, 100]), (.bool true)]) h) (zbi.k3 C N Q a h)))
  (B.pv (V.bin .eql a (.int .u8 13)) fun d =>
  B.cond d (Q (.tup [(.str [105, 113, 100]), (.bool true)]) h) (B.pv (V.bin .eql a (.int .u8 6)) fun b =>
  B.cond b (Q (.tup [(.str [116, 100]), (.bool true)]) h) (zbi.k3 C N Q a h)))
@[simp] def zbi.k5 (C : CSem) (N : zN) (Q : zQ) (a : AVal) (h : za) : Prop :=
 B.pv (V.bin .eql a (.int .u8 3)) fun b =>
  B.cond b (Q (.tup [(.str [105, 111]), (.bool true)]) h) (B.pv (V.bin .eql a (.int .u8 4)) fun c =>
  B.cond c (Q (.tup [(.str [105, 113]), (.bool true)]) h) (zbi.k4 C N Q a h))
@[simp] def zbi.k6 (C : CSem) (N : zN) (Q : zQ) (a : AVal) (h : za) : Prop :=
 B.pv (V.bin .eql a (.int .u8 1)) fun b =>
  B.cond b (Q (.tup [(.str [105, 108]), (.bool true)]) h) (B.pv (V.bin .eql a (.int .u8 2)) fun c =>
  B.cond c (Q (.tup [(.str [105, 112]), (.bool true)]) h) (zbi.k5 C N Q a h))
@[simp] def zbi.cps (C : CSem) (N : zN) (a : AVal) (h : za) (Q : zQ) : Prop :=
 zbi.k6 C N Q a h
def zbi.Imp (C : CSem) (N : zN) : Prop := im1 C (N 476) (zbi.cps C N)
@[simp] def zdw.k1 (C : CSem) (N : zN) (Q : zQ) (Y1 : zL) (b f a : AVal) (h : za) : Prop :=
 B.pv (V.zij b) fun g =>
  B.pv (V.bin .lss a g) fun i =>
  B.cond i
  (B.pv (V.zh8 b a) fun c =>
  B.pv (V.bin .eql c f) fun d =>
  B.cond d
  (Q (.bool true) h)
  (B.pv (V.bin .add a (.int .i64 1)) fun e =>
  Y1 [e] h))
  (Q (.bool false) h)
@[simp] def zdw.l2 (C : CSem) (N : zN) (Q : zQ) (a b : AVal) : zG
 | [c], h, Y1 => zdw.k1 C N Q Y1 a b c h
 | _, _, _ => False
@[simp] def zdw.cps (C : CSem) (N : zN) (a b : AVal) (h : za) (Q : zQ) : Prop :=
 ze (zdw.l2 C N Q a b) [(.int .i64 0)] h
def zdw.Imp (C : CSem) (N : zN) : Prop := im2 C (N 477) (zdw.cps C N)
@[simp] def zbt.k1 (C : CSem) (N : zN) (Q : zQ) (b : AVal) (h : za) : Prop :=
 B.pv (V.zj b) fun c =>
  B.pv (V.bin .geq c (.int .i64 1)) fun a =>
  B.gd h a true (fun K => K b h) fun d h =>
  B.gd h a true (fun K => B.pv (V.zj d) fun v => K v h) fun e h =>
  B.gd h a true (fun K => B.pv (V.bin .leq e (.int .i64 8)) fun v => K v h) fun f h =>
  B.pick a f (.bool false) fun g =>
  Q g h
@[simp] def zbt.k2 (C : CSem) (N : zN) (Q : zQ) (Y1 : zL) (Y2 : zL) (c a b : AVal) (h : za) : Prop :=
 B.pv (V.bin .lss b a) fun d =>
  B.cond d
  (B.pv (V.idxS 2 c b) fun e =>
  B.pv (V.fieldAddr 0 e) fun f =>
  B.ld h f fun g =>
  B.pv (V.idxS 2 c a) fun i =>
  B.pv (V.fieldAddr 0 i) fun j =>
  B.ld h j fun k =>
  B.pv (V.bin .eql g k) fun l =>
  B.cond l
  (Q (.bool false) h)
  (B.pv (V.bin .add b (.int .i64 1)) fun m =>
  Y2 [m] h))
  (B.pv (V.bin .add a (.int .i64 1)) fun n =>
  Y1 [n] h)
@[simp] def zbt.l3 (C : CSem) (N : zN) (Q : zQ) (Y1 : zL) (a b : AVal) : zG
 | [c], h, Y2 => zbt.k2 C N Q Y1 Y2 a b c h
 | _, _, _ => False
@[simp] def zbt.k4 (C : CSem) (N : zN) (Q : zQ) (Y1 : zL) (c d : AVal) (h : za) : Prop :=
 B.pv (V.idxS 2 c d) fun e =>
  B.pv (V.fieldAddr 0 e) fun f =>
  B.ld h f fun g =>
  B.call C (N 61) [g] h fun i h =>
  B.pv (V.un .not i) fun a =>
  B.gd h a false (fun K => K c h) fun j h =>
  B.gd h a false (fun K => K d h) fun k h =>
  B.gd h a false (fun K => B.pv (V.idxS 2 j k) fun v => K v h) fun l h =>
  B.gd h a false (fun K => B.pv (V.fieldAddr 1 l) fun v => K v h) fun m h =>
  B.gd h a false (fun K => B.ld h m fun v => K v h) fun n h =>
  B.gd h a false (fun K => B.pv (V.bin .lss n (.int .i64 1)) fun v => K v h) fun o h =>
  B.pick a (.bool true) o fun b =>
  B.gd h b false (fun K => K c h) fun p h =>
  B.gd h b false (fun K => K d h) fun q h =>
  B.gd h b false (fun K => B.pv (V.idxS 2 p q) fun v => K v h) fun r h =>
  B.gd h b false (fun K => B.pv (V.fieldAddr 1 r) fun v => K v h) fun s h =>
  B.gd h b false (fun K => B.ld h s fun v => K v h) fun t h =>
  B.gd h b false (fun K => B.pv (V.bin .gtr t (.int .i64 1073741824)) fun v => K v h) fun u h =>
  B.pick b (.bool true) u fun w =>
  B.cond w
  (Q (.bool false) h)
  (ze (zbt.l3 C N Q Y1 c d) [(.int .i64 0)] h)
@[simp] def zbt.l5 (C : CSem) (N : zN) (Q : zQ) (a : AVal) : zG
 | [b], h, Y1 => B.pv (V.zj a) fun c =>
  B.pv (V.bin .lss b c) fun d =>
  B.cond d
  (zbt.k4 C N Q Y1 a b h)
  (zbt.k1 C N Q a h)
 | _, _, _ => False
@[simp] def zbt.cps (C : CSem) (N : zN) (a : AVal) (h : za) (Q : zQ) : Prop :=
 ze (zbt.l5 C N Q a) [(.int .i64 0)] h
def zbt.Imp (C : CSem) (N : zN) : Prop := im1 C (N 478) (zbt.cps C N)
@[simp] def zbq.k1 (C : CSem) (N : zN) (Q : zQ) (Y1 : zL) (Y2 : zL) (c m a b : AVal) (h : za) : Prop :=
 B.pv (V.bin .lss b a) fun d =>
  B.cond d
  (B.pv (V.idxS 1 c b) fun e =>
  B.ld h e fun f =>
  B.pv (V.idxS 1 c a) fun g =>
  B.ld h g fun i =>
  B.pv (V.bin .eql f i) fun j =>
  B.cond j
  (Q (.bool false) h)
  (B.pv (V.bin .add b (.int .i64 1)) fun k =>
  Y2 [k] h))
  (B.pv (V.bin .add a (.int .i64 1)) fun l =>
  Y1 [l] h)
@[simp] def zbq.l2 (C : CSem) (N : zN) (Q : zQ) (Y1 : zL) (a b c : AVal) : zG
 | [d], h, Y2 => zbq.k1 C N Q Y1 Y2 a b c d h
 | _, _, _ => False
@[simp] def zbq.k3 (C : CSem) (N : zN) (Q : zQ) (Y1 : zL) (b d c : AVal) (h : za) : Prop :=
 B.pv (V.idxS 1 b c) fun e =>
  B.ld h e fun f =>
  B.call C (N 61) [f] h fun g h =>
  B.pv (V.un .not g) fun a =>
  B.gd h a false (fun K => K b h) fun i h =>
  B.gd h a false (fun K => K c h) fun j h =>
  B.gd h a false (fun K => B.pv (V.idxS 1 i j) fun v => K v h) fun k h =>
  B.gd h a false (fun K => B.ld h k fun v => K v h) fun l h =>
  B.gd h a false (fun K => K d h) fun m h =>
  B.gd h a false (fun K => B.pv (V.bin .eql l m) fun v => K v h) fun n h =>
  B.pick a (.bool true) n fun o =>
  B.cond o
  (Q (.bool false) h)
  (ze (zbq.l2 C N Q Y1 b d c) [(.int .i64 0)] h)
@[simp] def zbq.k4 (C : CSem) (N : zN) (Q : zQ) (Y1 : zL) (a f b : AVal) (h : za) : Prop :=
 B.pv (V.zj a) fun g =>
  B.pv (V.bin .lss b g) fun c =>
  B.cond c
  (zbq.k3 C N Q Y1 a f b h)
  (B.pv (V.zj a) fun d =>
  B.pv (V.bin .leq d (.int .i64 4)) fun e =>
  Q e h)
@[simp] def zbq.l5 (C : CSem) (N : zN) (Q : zQ) (a b : AVal) : zG
 | [c], h, Y1 => zbq.k4 C N Q Y1 a b c h
 | _, _, _ => False
@[simp] def zbq.cps (C : CSem) (N : zN) (a b : AVal) (h : za) (Q : zQ) : Prop :=
 ze (zbq.l5 C N Q a b) [(.int .i64 0)] h
def zbq.Imp (C : CSem) (N : zN) : Prop := im2 C (N 479) (zbq.cps C N)
end Go.Ab
