import Derived.Test.YtjhlaifflhjafaaOd
namespace Go.Proofs.Ytjhlaifflhjafaa
open Go.RowKit Go.Maps

/-- What is known of an op behind its own call. -/
structure KeF (n k : Nat) (S S2 : Sd) (l : SlO) (kd : Int) (nm : ByteArray) (sd qt pr : Int) (ts : List Tr) (gone er : Int) : Prop where
  r : KpR S l (kd, nm, sd, qt, pr) ((ts, gone, er), S2)
  i : KpI S l
  z : SzI S
  td : ∀ t ∈ ts, t.maker ∈ idsS S
  ns : nm.size ≤ 100
  lk : l.length ≤ k
  kn : k < n
  n9 : n ≤ 9223372036854775807
  q1 : qt ≤ 1099511627776
  q2 : 0 ≤ qt

set_option maxHeartbeats 16000000 in
set_option maxRecDepth 1000000 in
theorem keRest {J K : Act → World → Prop} {Q' : Exit → Act → World → Prop} (hMK : ∀ a w, Met J a w → K a w) (w Z0 : World) (mb gm N B m ct n k : Nat) (At : Option Addr) (S S2 : Sd) (l : SlO) (kd : Int) (nm : ByteArray) (sd qt pr gone er : Int) (ts : List Tr)
    (hm : ts.length = m) (hF : KeF n k S S2 l kd nm sd qt pr ts gone er)
    (hK : KwAt w Z0 mb gm N B S2 l [.int .i64 kd, .string nm, .int .i64 sd, .int .i64 qt, .int .i64 pr] (.slice At m ct) m (ts.flatMap trC))
    (u0 u1 u2 u5 u9 u13 u14 u15 u16 u17 u18 u19 u20 u21 u22 u23 u24 u25 u26 u27 u28 u29 u30 u31 u32 u33 u34 u35 u36 u37 u38 u39 u40 u41 u42 u43 u44 u45 u46 u47 u48 u49 u50 u51 u52 u53 u54 u55 u56 u57 u58 u59 u60 u61 u62 u63 u64 u65 u66 u67 u68 u69 u70 u71 u72 u73 u74 u75 u76 u77 u78 u79 u80 u81 u82 u83 u84 u85 u86 u87 u88 u89 u90 u91 u92 u93 u94 u95 u96 u97 u98 u99 u100 u101 u102 u103 u104 u105 u106 u107 u108 u109 u110 u111 u112 u113 u114 u115 u116 u117 u118 u119 u120 u121 u122 u123 u124 u125 u126 u127 u128 u129 u130 u131 u132 u133 u134 u135 u136 u137 u138 u139 u140 u141 u142 u143 u144 u145 u146 u147 u148 u149 u150 u151 u152 u153 u154 u155 u156 u157 u158 u159 u160 u161 u162 u163 u164 u165 u166 u167 u168 u169 u170 u171 u172 u173 u174 u175 u176 u177 u178 u179 u180 u181 u182 u183 u184 u185 u186 u187 u188 u189 u190 u191 u192 u193 u194 u195 : Value)
    (hJ : ∀ (v2 v13 v15 v16 v17 v18 v29 v30 v31 v32 v33 v34 v35 v36 v37 v38 v39 v40 v41 v42 v43 v44 v45 v46 v47 v48 v49 v50 v51 v52 v53 v54 v55 v56 v57 v58 v59 v60 v61 v62 v63 v64 v65 v66 v67 v68 v69 v70 v71 v72 v73 v74 v75 v76 v77 v78 v79 v80 v81 v82 v83 v84 v85 v86 v87 v88 v89 v90 v91 v92 v93 v94 v95 v96 v97 v98 v99 v100 v101 v102 v103 v104 v105 v106 v107 v108 v109 v110 v111 v112 v113 v114 v115 v116 v117 v118 v119 v120 v121 v122 v123 v124 v125 v126 v127 v128 v129 v130 v131 v132 v133 v134 v135 v136 v137 v138 v139 v140 v141 v142 v143 v144 v145 v146 v147 v148 v149 v150 v151 v152 v153 v154 v155 v156 v157 v158 v159 v160 v161 v162 v163 v164 v165 v166 v167 v168 v169 v170 v171 v172 v173 v174 v175 v176 v177 v178 v179 v180 v181 v182 v183 v184 v185 v186 v187 v188 v189 v190 v191 v192 v193 v194 v195 : Value) (Z : World) (sd' : Int), KwAt w Z mb gm N B S2 (limUp l (kd, nm, sd, qt, pr) er) [.int .i64 kd, .string nm, .int .i64 sd', .int .i64 qt, .int .i64 pr] (.slice At m ct) m (ts.flatMap trC) → J ⟨List.toArray (u0 :: u1 :: v2 :: .pointer (some ⟨mb, 0, none⟩) :: .map (some gm) :: u5 :: .pointer (some ⟨N, 0, none⟩) :: .int .i64 (sumS S) :: .int .i64 (leftM S nm).1 :: u9 :: .slice At m ct :: .int .i64 gone :: .int .i64 er :: v13 :: u14 :: v15 :: v16 :: v17 :: v18 :: u19 :: u20 :: u21 :: u22 :: u23 :: u24 :: u25 :: u26 :: u27 :: u28 :: v29 :: v30 :: v31 :: v32 :: v33 :: v34 :: v35 :: v36 :: v37 :: v38 :: v39 :: v40 :: v41 :: v42 :: v43 :: v44 :: v45 :: v46 :: v47 :: v48 :: v49 :: v50 :: v51 :: v52 :: v53 :: v54 :: v55 :: v56 :: v57 :: v58 :: v59 :: v60 :: v61 :: v62 :: v63 :: v64 :: v65 :: v66 :: v67 :: v68 :: v69 :: v70 :: v71 :: v72 :: v73 :: v74 :: v75 :: v76 :: v77 :: v78 :: v79 :: v80 :: v81 :: v82 :: v83 :: v84 :: v85 :: v86 :: v87 :: v88 :: v89 :: v90 :: v91 :: v92 :: v93 :: v94 :: v95 :: v96 :: v97 :: v98 :: v99 :: v100 :: v101 :: v102 :: v103 :: v104 :: v105 :: v106 :: v107 :: v108 :: v109 :: v110 :: v111 :: v112 :: v113 :: v114 :: v115 :: v116 :: v117 :: v118 :: v119 :: v120 :: v121 :: v122 :: v123 :: v124 :: v125 :: v126 :: v127 :: v128 :: v129 :: v130 :: v131 :: v132 :: v133 :: v134 :: v135 :: v136 :: v137 :: v138 :: v139 :: v140 :: v141 :: v142 :: v143 :: v144 :: v145 :: v146 :: v147 :: v148 :: v149 :: v150 :: v151 :: v152 :: v153 :: v154 :: v155 :: v156 :: v157 :: v158 :: v159 :: v160 :: v161 :: v162 :: v163 :: v164 :: v165 :: v166 :: v167 :: v168 :: v169 :: v170 :: v171 :: v172 :: v173 :: v174 :: v175 :: v176 :: v177 :: v178 :: v179 :: v180 :: v181 :: v182 :: v183 :: v184 :: v185 :: v186 :: v187 :: v188 :: v189 :: v190 :: v191 :: v192 :: v193 :: v194 :: v195 :: []), []⟩ Z) :
    Code.wp Try.prog keC17 (Exit.inBlock 1 (Exit.then K Q')) ⟨List.toArray (u0 :: u1 :: u2 :: .pointer (some ⟨mb, 0, none⟩) :: .map (some gm) :: u5 :: .pointer (some ⟨N, 0, none⟩) :: .int .i64 (sumS S) :: .int .i64 (leftM S nm).1 :: u9 :: .slice At m ct :: .int .i64 gone :: .int .i64 er :: u13 :: u14 :: u15 :: u16 :: u17 :: u18 :: u19 :: u20 :: u21 :: u22 :: u23 :: u24 :: u25 :: u26 :: u27 :: u28 :: u29 :: u30 :: u31 :: u32 :: u33 :: u34 :: u35 :: u36 :: u37 :: u38 :: u39 :: u40 :: u41 :: u42 :: u43 :: u44 :: u45 :: u46 :: u47 :: u48 :: u49 :: u50 :: u51 :: u52 :: u53 :: u54 :: u55 :: u56 :: u57 :: u58 :: u59 :: u60 :: u61 :: u62 :: u63 :: u64 :: u65 :: u66 :: u67 :: u68 :: u69 :: u70 :: u71 :: u72 :: u73 :: u74 :: u75 :: u76 :: u77 :: u78 :: u79 :: u80 :: u81 :: u82 :: u83 :: u84 :: u85 :: u86 :: u87 :: u88 :: u89 :: u90 :: u91 :: u92 :: u93 :: u94 :: u95 :: u96 :: u97 :: u98 :: u99 :: u100 :: u101 :: u102 :: u103 :: u104 :: u105 :: u106 :: u107 :: u108 :: u109 :: u110 :: u111 :: u112 :: u113 :: u114 :: u115 :: u116 :: u117 :: u118 :: u119 :: u120 :: u121 :: u122 :: u123 :: u124 :: u125 :: u126 :: u127 :: u128 :: u129 :: u130 :: u131 :: u132 :: u133 :: u134 :: u135 :: u136 :: u137 :: u138 :: u139 :: u140 :: u141 :: u142 :: u143 :: u144 :: u145 :: u146 :: u147 :: u148 :: u149 :: u150 :: u151 :: u152 :: u153 :: u154 :: u155 :: u156 :: u157 :: u158 :: u159 :: u160 :: u161 :: u162 :: u163 :: u164 :: u165 :: u166 :: u167 :: u168 :: u169 :: u170 :: u171 :: u172 :: u173 :: u174 :: u175 :: u176 :: u177 :: u178 :: u179 :: u180 :: u181 :: u182 :: u183 :: u184 :: u185 :: u186 :: u187 :: u188 :: u189 :: u190 :: u191 :: u192 :: u193 :: u194 :: u195 :: []), []⟩ Z0 := by
  have HK := Lib.hid hK
  have HF := Lib.hid hF
  have HMl := Lib.hid hm
  have HJ := Lib.hid hJ
  have hoc := hK.ob.cell
  have h9 := hF.n9
  have hkn := hF.kn
  have hlk := hF.lk
  clear hK hF hm hJ
  let Qx : Exit → Act → World → Prop := bodyPost Try.prog Try.f14 (fun _ _ => True)
  conv => arg 2; whnf
  go_upto_region 17 with (fail)
  go_cut [79] (fun v Z => v = .bool (decide (er = 0 ∧ kd = 1)) ∧ KwAt w Z mb gm N B S2 l [.int .i64 kd, .string nm, .int .i64 sd, .int .i64 qt, .int .i64 pr] (.slice At m ct) m (ts.flatMap trC))
  case first =>
    by_cases he : er = 0
    · have d1 : (er == 0) = true := by simp [he]
      have HHe := Lib.hid he
      clear he
      by_cases hk1 : kd = 1
      · have d2 : (kd == 1) = true := by simp [hk1]
        have HHk := Lib.hid hk1
        clear hk1
        go_wp2_with fail
        go_meet
        exact ⟨by simp [HHe.out, HHk.out], HK.out⟩
      · have d2 : (kd == 1) = false := by simp [hk1]
        have HHk := Lib.hid hk1
        clear hk1
        go_wp2_with fail
        go_meet
        exact ⟨by simp [HHk.out], HK.out⟩
    · have d1 : (er == 0) = false := by simp [he]
      have HHe := Lib.hid he
      clear he
      go_wp2_with fail
      go_meet
      exact ⟨by simp [HHe.out], HK.out⟩
  case rest =>
  obtain ⟨rfl, hK⟩ := hcut
  clear HK hoc
  have HK := Lib.hid hK
  have hoc := hK.ob.cell
  clear hK
  obtain ⟨c1, hc1⟩ : ∃ c1, decide (er = 0 ∧ kd = 1) = c1 := ⟨_, rfl⟩
  rw [hc1]
  have HC1 := Lib.hid hc1
  clear hc1
  have hl512 : l.length < maxLen := by simp only [maxLen]; omega
  have HL5 := Lib.hid hl512
  clear hl512
  have hnk : nm.size ≤ maxLen := by have := HF.out.ns; simp only [maxLen]; omega
  have HNK := Lib.hid hnk
  clear hnk
  obtain ⟨l1, hl1⟩ : ∃ l1, (if c1 then putO l nm ⟨kd, nm, sd, qt, pr⟩ else l) = l1 := ⟨_, rfl⟩
  have HL1 := Lib.hid hl1
  clear hl1
  go_upto_if 79 with (fail)
  go_cut [] (fun Z => KwAt w Z mb gm N B S2 l1 [.int .i64 kd, .string nm, .int .i64 sd, .int .i64 qt, .int .i64 pr] (.slice At m ct) m (ts.flatMap trC))
  case first =>
    cases c1 with
    | false =>
      go_wp2_with fail
      go_meet
      have := HL1.out
      simp only [Bool.false_eq_true, if_false] at this
      rw [← this]
      exact HK.out
    | true =>
      obtain ⟨Z', hrun, hm', ht⟩ := HK.out.ke.hm.store nm ⟨kd, nm, sd, qt, pr⟩ HNK.out HL5.out
      have hrun2 : (Instr.mapUpdate 105 (.map (some gm)) (.string nm) (.agg #[.int .i64 kd, .string nm, .int .i64 sd, .int .i64 qt, .int .i64 pr])).run Try.prog wc = .ok () Z' := hrun
      have HM' := Lib.hid hm'
      have HT := Lib.hid ht
      clear hrun hm' ht
      go_wp2_with fail
      go_meet
      have := HL1.out
      simp only [if_true] at this
      rw [← this]
      exact HK.out.store HM'.out HT.out
  case rest =>
  clear HK hoc
  have HK := Lib.hid hcut
  have hoc := hcut.ob.cell
  clear hcut
  have hl1n : l1.length ≤ k + 1 := by
    rw [← HL1.out]
    split
    · rw [lenO_put]; split <;> omega
    · omega
  have HL1n := Lib.hid hl1n
  clear hl1n
  go_upto_region 19 with (fail)
  go_cut [90] (fun v Z => v = .bool (decide (er = 0 ∧ kd = 3)) ∧ KwAt w Z mb gm N B S2 l1 [.int .i64 kd, .string nm, .int .i64 sd, .int .i64 qt, .int .i64 pr] (.slice At m ct) m (ts.flatMap trC))
  case first =>
    by_cases he : er = 0
    · have d1 : (er == 0) = true := by simp [he]
      have HHe := Lib.hid he
      clear he
      by_cases hk1 : kd = 3
      · have d2 : (kd == 3) = true := by simp [hk1]
        have HHk := Lib.hid hk1
        clear hk1
        go_wp2_with fail
        go_meet
        exact ⟨by simp [HHe.out, HHk.out], HK.out⟩
      · have d2 : (kd == 3) = false := by simp [hk1]
        have HHk := Lib.hid hk1
        clear hk1
        go_wp2_with fail
        go_meet
        exact ⟨by simp [HHk.out], HK.out⟩
    · have d1 : (er == 0) = false := by simp [he]
      have HHe := Lib.hid he
      clear he
      go_wp2_with fail
      go_meet
      exact ⟨by simp [HHe.out], HK.out⟩
  case rest =>
  obtain ⟨rfl, hK⟩ := hcut
  clear HK hoc
  have HK := Lib.hid hK
  have hoc := hK.ob.cell
  clear hK
  obtain ⟨c2, hc2⟩ : ∃ c2, decide (er = 0 ∧ kd = 3) = c2 := ⟨_, rfl⟩
  rw [hc2]
  have HC2 := Lib.hid hc2
  clear hc2
  obtain ⟨l2, hl2⟩ : ∃ l2, limUp l (kd, nm, sd, qt, pr) er = l2 := ⟨_, rfl⟩
  have HL2 := Lib.hid hl2
  rw [hl2] at HJ
  clear hl2
  have hl2n : l2.length ≤ k + 1 ∧ ((c2 = false → l2 = l1) ∧ (c2 = true → l1 = l ∧ l2 = putO l1 nm ⟨kd, nm, (lookVO l1 nm).sd, qt, pr⟩)) := by
    have e1 := HL1.out
    have e2 := HL2.out
    have b1 := HC1.out
    have b2 := HC2.out
    have hn1 := HL1n.out
    unfold limUp at e2
    simp only at e2
    by_cases g1 : er = 0 ∧ kd = 1
    · have g2 : ¬ (er = 0 ∧ kd = 3) := by omega
      rw [decide_eq_true g1] at b1
      rw [decide_eq_false g2] at b2
      subst b1 b2
      rw [if_pos g1] at e2
      rw [if_pos rfl] at e1
      have e3 : l2 = l1 := e2.symm.trans e1
      subst e3
      exact ⟨hn1, fun _ => rfl, fun h => by cases h⟩
    · rw [decide_eq_false g1] at b1
      subst b1
      rw [if_neg g1] at e2
      simp only [Bool.false_eq_true, if_false] at e1
      subst e1
      by_cases g2 : er = 0 ∧ kd = 3
      · rw [decide_eq_true g2] at b2
        subst b2
        rw [if_pos g2] at e2
        subst e2
        refine ⟨?_, (fun h => by cases h), fun _ => ⟨rfl, rfl⟩⟩
        rw [lenO_put]; split <;> omega
      · rw [decide_eq_false g2] at b2
        subst b2
        rw [if_neg g2] at e2
        subst e2
        exact ⟨hn1, fun _ => rfl, fun h => by cases h⟩
  have HL2n := Lib.hid hl2n
  clear hl2n HC1 HL1
  go_upto_if 90 with (fail)
  go_cut [] (fun Z => ∃ sd', KwAt w Z mb gm N B S2 l2 [.int .i64 kd, .string nm, .int .i64 sd', .int .i64 qt, .int .i64 pr] (.slice At m ct) m (ts.flatMap trC))
  case first =>
    cases c2 with
    | false =>
      have HE9 := Lib.hid (HL2n.out.2.1 rfl)
      clear HL2n
      go_wp2_with fail
      go_meet
      rw [HE9.out]
      exact ⟨sd, HK.out⟩
    | true =>
      obtain ⟨e1, e2⟩ := HL2n.out.2.2 rfl
      have hlk := HK.out.ke.hm.look1 nm HNK.out
      rcases hy : lookVO l1 nm with ⟨y0, y1, y2, y3, y4⟩
      have hlk2 : (Instr.lookup 105 (.map (some gm)) (.string nm) false).run Try.prog wc = .ok (.agg #[.int .i64 y0, .string y1, .int .i64 y2, .int .i64 y3, .int .i64 y4]) wc := by rw [hlk, hy]; rfl
      have hfl : (Instr.field 90 (.agg #[.int .i64 y0, .string y1, .int .i64 y2, .int .i64 y3, .int .i64 y4]) 2).run Try.prog wc = .ok (.int .i64 y2) wc := by kernel_rfl
      rw [hy] at e2
      simp only at e2
      have E1 := Lib.hid e1
      have E2 := Lib.hid e2
      have hfz := HK.out.ob.frozen
      have hlt := HK.out.ob.lt
      clear hlk hy e1 e2
      go_upto_region 21 with (fail)
      refine cutW (fun Z => KwAt w Z mb gm N B S2 l1 [.int .i64 kd, .string nm, .int .i64 y2, .int .i64 qt, .int .i64 pr] (.slice At m ct) m (ts.flatMap trC)) (HK.out.setN 2 (.int .i64 y2)) ?_
      clear HK hoc hlk2 hfl hfz hlt
      intro Z3 hK3
      have HK3 := Lib.hid hK3
      have hoc3 := hK3.ob.cell
      clear hK3
      obtain ⟨Z', hrun, hm', ht⟩ := HK3.out.ke.hm.store nm ⟨kd, nm, y2, qt, pr⟩ HNK.out (by rw [E1.out]; exact HL5.out)
      have hrun2 : (Instr.mapUpdate 105 (.map (some gm)) (.string nm) (.agg #[.int .i64 kd, .string nm, .int .i64 y2, .int .i64 qt, .int .i64 pr])).run Try.prog Z3 = .ok () Z' := hrun
      have HM' := Lib.hid hm'
      have HT := Lib.hid ht
      clear hrun hm' ht
      go_wp2_with fail
      go_meet
      rw [E2.out]
      exact ⟨y2, HK3.out.store HM'.out HT.out⟩
  case rest =>
  obtain ⟨sd', hK⟩ := hcut
  clear HK hoc HL5 HL2n HL1n
  have HK := Lib.hid hK
  clear hK
  go_upto_block 2 with (fail)
  go_cut [13, 101, 102, 103] (fun v _ _ _ Z => v = .int .i64 (qtyS ts) ∧ KwAt w Z mb gm N B S2 l2 [.int .i64 kd, .string nm, .int .i64 sd', .int .i64 qt, .int .i64 pr] (.slice At m ct) m (ts.flatMap trC))
  case first =>
    refine keLoop (J := ?_) ?_ w _ mb gm N B m ct At S S2 l2 kd nm sd' qt pr gone er ts HMl.out (by have := HF.out.r.ln; rw [HMl.out] at this; exact this) (by have := HF.out.r.tr; rw [HL2.out] at this; exact this) (fun t ht => by have := HF.out.z _ (HF.out.td t ht); simp only [maxLen]; omega) HNK.out HF.out.r.q HK.out _ _ _ _ _ _ _ _ _ _ _ _ _ _ _ _ _ _ _ _ _ _ _ _ _ _ _ _ _ _ _ _ _ _ _ _ _ _ _ _ _ _ _ _ _ _ _ _ _ _ _ _ _ _ _ _ _ _ _ _ _ _ _ _ _ _ _ _ _ _ _ _ _ _ _ _ _ _ _ _ _ _ _ _ _ _ _ _ _ _ _ _ _ _ _ _ _ _ _ _ _ _ _ _ _ _ _ _ _ _ _ _ _ _ _ _ _ _ _ _ _ _ _ _ _ _ _ _ _ _ _ _ _ _ _ _ _ _ _ _ _ _ _ _ _ _ _ _ _ _ _ _ _ _ _ _ _ _ _ _ _ _ _ _ _ _ _ _ _ _ _ _ _ _ _ _ _ _ _ _ _ _ _ _ ?_
    rotate_left
    · assumption
    · intro _ _ _ _ _ _ _ _ _ _ _ _ _ _ _ _ _ _ _ _ _ _ _ _ _ _ _ _ _ _ _ _ _ _ _ _ _ _ _ _ _ _ _ _ _ _ _ _ _ _ _ _ _ _ _ _ _ _ _ _ _ _ _ _ Z hZ
      go_step
      (repeat apply Exists.intro)
      exact ⟨⟨rfl, hZ⟩, rfl⟩
  case rest =>
  obtain ⟨rfl, hK⟩ := hcut
  clear HK
  have HK := Lib.hid hK
  have hoc := hK.ob.cell
  obtain ⟨r0, r1, hmb, -⟩ := hK.mb
  have hI2 : MbI S2 := HF.out.r.kp.i
  have H51 := Lib.hid (rests51 wc mb r0 r1 S2 hmb hI2)
  have hb1 := sum_bnd HF.out.i.i
  have hb2 := sum_bnd hI2
  have hq : 0 ≤ qtyS ts ∧ qtyS ts ≤ 1099511627776 := HF.out.r.q
  have hsm : sumS S2 = sumS S + cameM S (kd, nm, sd, qt, pr) er - 2 * qtyS ts - gone := HF.out.r.sm
  have hlf := leftM_bnd HF.out.i.i.ok nm
  have hcm : cameM S (kd, nm, sd, qt, pr) er = if er = 0 ∧ kd = 1 then qt else if er = 0 ∧ kd = 3 then qt - (leftM S nm).1 else 0 := rfl
  rw [hcm] at hsm
  have es0 : sumS S = leftS S.1 + leftS S.2 := rfl
  have es2 : sumS S2 = leftS S2.1 + leftS S2.2 := rfl
  have hqt1 := HF.out.q1
  have hqt2 := HF.out.q2
  clear hK hmb hcm hI2
  generalize sumS S = s0 at *
  generalize sumS S2 = s2 at *
  generalize (leftM S nm).1 = lf at *
  generalize qtyS ts = q at *
  have hs0 : 0 ≤ s0 ∧ s0 ≤ 562949953421312 := by omega
  have hs2 : 0 ≤ s2 ∧ s2 ≤ 562949953421312 := by omega
  have hne : (s2 != s2) = false := by simp
  have hw2 : IntKind.i64.wrap (2 * q) = 2 * q := IntWalk.i64_in _ (by omega)
  clear es0 es2 hb1 hb2
  by_cases g1 : er = 0 ∧ kd = 1
  · rw [if_pos g1] at hsm
    obtain ⟨rfl, rfl⟩ := g1
    have hw1 : IntKind.i64.wrap (s0 + qt) = s0 + qt := IntWalk.i64_in _ (by omega)
    have hw3 : IntKind.i64.wrap (s0 + qt - 2 * q) = s0 + qt - 2 * q := IntWalk.i64_in _ (by omega)
    have hw4 : IntKind.i64.wrap (s0 + qt - 2 * q - gone) = s2 := by rw [IntWalk.i64_in _ (by omega)]; omega
    clear hsm hs0 hs2 hq hlf hqt1 hqt2
    go_wp2_with (go_at_call 51; refine H51.out.mono ?_; rintro e w7 ⟨rfl, hb7⟩)
    refine Met.intro ?_
    apply HJ.out
    exact HK.out.below hb7
  rw [if_neg g1] at hsm
  by_cases g2 : er = 0 ∧ kd = 3
  · rw [if_pos g2] at hsm
    obtain ⟨rfl, rfl⟩ := g2
    have hw0 : IntKind.i64.wrap (qt - lf) = qt - lf := IntWalk.i64_in _ (by omega)
    have hw1 : IntKind.i64.wrap (s0 + (qt - lf)) = s0 + (qt - lf) := IntWalk.i64_in _ (by omega)
    have hw3 : IntKind.i64.wrap (s0 + (qt - lf) - 2 * q) = s0 + (qt - lf) - 2 * q := IntWalk.i64_in _ (by omega)
    have hw4 : IntKind.i64.wrap (s0 + (qt - lf) - 2 * q - gone) = s2 := by rw [IntWalk.i64_in _ (by omega)]; omega
    clear hsm hs0 hs2 hq hlf hqt1 hqt2 g1
    go_wp2_with (go_at_call 51; refine H51.out.mono ?_; rintro e w7 ⟨rfl, hb7⟩)
    refine Met.intro ?_
    apply HJ.out
    exact HK.out.below hb7
  rw [if_neg g2] at hsm
  have hw1 : IntKind.i64.wrap s0 = s0 := IntWalk.i64_in _ (by omega)
  have hw3 : IntKind.i64.wrap (s0 - 2 * q) = s0 - 2 * q := IntWalk.i64_in _ (by omega)
  have hw4 : IntKind.i64.wrap (s0 - 2 * q - gone) = s2 := by rw [IntWalk.i64_in _ (by omega)]; omega
  by_cases he : er = 0
  · have d1 : (er == 0) = true := by simp [he]
    have d2 : (kd == 1) = false := by simp; omega
    have d3 : (kd == 3) = false := by simp; omega
    clear hsm hs0 hs2 hq hlf hqt1 hqt2 g1 g2 he
    go_wp2_with (go_at_call 51; refine H51.out.mono ?_; rintro e w7 ⟨rfl, hb7⟩)
    refine Met.intro ?_
    apply HJ.out
    exact HK.out.below hb7
  · have d1 : (er == 0) = false := by simp [he]
    clear hsm hs0 hs2 hq hlf hqt1 hqt2 g1 g2 he
    go_wp2_with (go_at_call 51; refine H51.out.mono ?_; rintro e w7 ⟨rfl, hb7⟩)
    refine Met.intro ?_
    apply HJ.out
    exact HK.out.below hb7

end Go.Proofs.Ytjhlaifflhjafaa
