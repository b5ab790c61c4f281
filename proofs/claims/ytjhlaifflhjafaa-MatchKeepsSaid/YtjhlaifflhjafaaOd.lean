import Derived.Test.YtjhlaifflhjafaaOc
import Derived.Carry
import Derived.Deep.RegionHeld3
namespace Go.Proofs.Ytjhlaifflhjafaa
open Go.RowKit Go.Maps

/-! Parts of a function's code, found by a region's or a block's number. -/
def leftR : Code → Option Nat
  | .region id _ _ => some id
  | .seq a _ => leftR a
  | _ => none
def eqN : Option Nat → Nat → Bool
  | some a, b => Nat.beq a b
  | none, _ => false
def findR (n : Nat) : Code → Option Code
  | .seq a b => bif eqN (leftR (.seq a b)) n then some (.seq a b) else match findR n a with
    | some c => some c
    | none => findR n b
  | .loop c => findR n c
  | .block _ c => findR n c
  | .scope c => findR n c
  | .cond _ a b => match findR n a with
    | some c => some c
    | none => findR n b
  | _ => none
def findB (n : Nat) : Code → Option Code
  | .seq a b => match findB n a with
    | some c => some c
    | none => findB n b
  | .loop c => findB n c
  | .block m c => bif Nat.beq m n then some (.block m c) else findB n c
  | .scope c => findB n c
  | .cond _ a b => match findB n a with
    | some c => some c
    | none => findB n b
  | _ => none
theorem takeD {l t : List Oper} {i : Nat} {o : Oper} (h : l.drop i = o :: t) : (l.toArray)[i]? = some o := by
  have h2 : (l.drop i)[0]? = some o := by rw [h]; rfl
  rw [List.getElem?_drop] at h2
  simpa using h2
theorem takeK {c : Code} {Q : Exit → Act → World → Prop} {K : Act → World → Prop} {a : Act} {w : World} (h : ∀ a' w', Code.wp Try.prog c Q a' w' → K a' w') (k : Code.wp Try.prog c Q a w) : K a w := h a w k
noncomputable def keC2 : Code := (Try.f14.body.bind (findB 2)).getD .skip
noncomputable def keC17 : Code := (Try.f14.body.bind (findR 17)).getD .skip

set_option maxHeartbeats 16000000 in
set_option maxRecDepth 1000000 in
theorem keLoop {J K : Act → World → Prop} {Q' : Exit → Act → World → Prop} (hMK : ∀ a w, Met J a w → K a w) (w Z0 : World) (mb gm N B m ct : Nat) (At : Option Addr) (S S2 : Sd) (l2 : SlO) (kd : Int) (nm : ByteArray) (sd' qt pr gone er : Int) (ts : List Tr)
    (hm : ts.length = m) (hLn : m ≤ 1000) (hTr : ∀ t ∈ ts, TrK l2 nm t) (hMk : ∀ t ∈ ts, t.maker.size ≤ maxLen) (hnk : nm.size ≤ maxLen) (hQ : 0 ≤ qtyS ts ∧ qtyS ts ≤ 1099511627776)
    (hK : KwAt w Z0 mb gm N B S2 l2 [.int .i64 kd, .string nm, .int .i64 sd', .int .i64 qt, .int .i64 pr] (.slice At m ct) m (ts.flatMap trC))
    (u0 u1 u2 u5 u9 u14 u15 u16 u17 u18 u19 u20 u21 u22 u23 u24 u25 u26 u27 u28 u29 u30 u31 u32 u33 u34 u35 u36 u37 u38 u39 u40 u41 u42 u43 u44 u45 u46 u47 u48 u49 u50 u51 u52 u53 u54 u55 u56 u57 u58 u59 u60 u61 u62 u63 u64 u65 u66 u67 u68 u69 u70 u71 u72 u73 u74 u75 u76 u77 u78 u79 u80 u81 u82 u83 u84 u85 u86 u87 u88 u89 u90 u91 u92 u93 u94 u95 u96 u97 u98 u99 u100 u104 u105 u106 u107 u108 u109 u110 u111 u112 u113 u114 u115 u116 u117 u118 u119 u120 u121 u122 u123 u124 u125 u126 u127 u128 u129 u130 u131 u132 u133 u134 u135 u136 u137 u138 u139 u140 u141 u142 u143 u144 u145 u146 u147 u148 u149 u150 u151 u152 u153 u154 u155 u156 u157 u158 u159 u160 u161 u162 u163 u164 u165 u166 u167 u168 u169 u170 u171 u172 u173 u174 u175 u176 u177 u178 u179 u180 u181 u182 u183 u184 u185 u186 u187 u188 u189 u190 u191 u192 u193 u194 u195 : Value)
    (hJ : ∀ (v2 v15 v16 v17 v104 v105 v106 v107 v108 v109 v110 v111 v112 v113 v114 v115 v116 v117 v118 v119 v120 v121 v122 v123 v124 v125 v126 v127 v128 v129 v130 v131 v132 v133 v134 v135 v136 v137 v138 v139 v140 v141 v142 v143 v144 v145 v146 v147 v148 v149 v150 v151 v152 v153 v154 v155 v156 v157 v158 v159 v160 v161 v162 v163 : Value) (Z : World), KwAt w Z mb gm N B S2 l2 [.int .i64 kd, .string nm, .int .i64 sd', .int .i64 qt, .int .i64 pr] (.slice At m ct) m (ts.flatMap trC) → J ⟨List.toArray (u0 :: u1 :: v2 :: .pointer (some ⟨mb, 0, none⟩) :: .map (some gm) :: u5 :: .pointer (some ⟨N, 0, none⟩) :: .int .i64 (sumS S) :: .int .i64 (leftM S nm).1 :: u9 :: .slice At m ct :: .int .i64 gone :: .int .i64 er :: .int .i64 (qtyS ts) :: u14 :: v15 :: v16 :: v17 :: u18 :: u19 :: u20 :: u21 :: u22 :: u23 :: u24 :: u25 :: u26 :: u27 :: u28 :: u29 :: u30 :: u31 :: u32 :: u33 :: u34 :: u35 :: u36 :: u37 :: u38 :: u39 :: u40 :: u41 :: u42 :: u43 :: u44 :: u45 :: u46 :: u47 :: u48 :: u49 :: u50 :: u51 :: u52 :: u53 :: u54 :: u55 :: u56 :: u57 :: u58 :: u59 :: u60 :: u61 :: u62 :: u63 :: u64 :: u65 :: u66 :: u67 :: u68 :: u69 :: u70 :: u71 :: u72 :: u73 :: u74 :: u75 :: u76 :: u77 :: u78 :: u79 :: u80 :: u81 :: u82 :: u83 :: u84 :: u85 :: u86 :: u87 :: u88 :: u89 :: u90 :: u91 :: u92 :: u93 :: u94 :: u95 :: u96 :: u97 :: u98 :: u99 :: u100 :: .slice At m ct :: .int .i64 m :: .int .i64 m :: v104 :: v105 :: v106 :: v107 :: v108 :: v109 :: v110 :: v111 :: v112 :: v113 :: v114 :: v115 :: v116 :: v117 :: v118 :: v119 :: v120 :: v121 :: v122 :: v123 :: v124 :: v125 :: v126 :: v127 :: v128 :: v129 :: v130 :: v131 :: v132 :: v133 :: v134 :: v135 :: v136 :: v137 :: v138 :: v139 :: v140 :: v141 :: v142 :: v143 :: v144 :: v145 :: v146 :: v147 :: v148 :: v149 :: v150 :: v151 :: v152 :: v153 :: v154 :: v155 :: v156 :: v157 :: v158 :: v159 :: v160 :: v161 :: v162 :: v163 :: u164 :: u165 :: u166 :: u167 :: u168 :: u169 :: u170 :: u171 :: u172 :: u173 :: u174 :: u175 :: u176 :: u177 :: u178 :: u179 :: u180 :: u181 :: u182 :: u183 :: u184 :: u185 :: u186 :: u187 :: u188 :: u189 :: u190 :: u191 :: u192 :: u193 :: u194 :: u195 :: []), []⟩ Z) :
    Code.wp Try.prog keC2 (Exit.then K Q') ⟨List.toArray (u0 :: u1 :: u2 :: .pointer (some ⟨mb, 0, none⟩) :: .map (some gm) :: u5 :: .pointer (some ⟨N, 0, none⟩) :: .int .i64 (sumS S) :: .int .i64 (leftM S nm).1 :: u9 :: .slice At m ct :: .int .i64 gone :: .int .i64 er :: .int .i64 0 :: u14 :: u15 :: u16 :: u17 :: u18 :: u19 :: u20 :: u21 :: u22 :: u23 :: u24 :: u25 :: u26 :: u27 :: u28 :: u29 :: u30 :: u31 :: u32 :: u33 :: u34 :: u35 :: u36 :: u37 :: u38 :: u39 :: u40 :: u41 :: u42 :: u43 :: u44 :: u45 :: u46 :: u47 :: u48 :: u49 :: u50 :: u51 :: u52 :: u53 :: u54 :: u55 :: u56 :: u57 :: u58 :: u59 :: u60 :: u61 :: u62 :: u63 :: u64 :: u65 :: u66 :: u67 :: u68 :: u69 :: u70 :: u71 :: u72 :: u73 :: u74 :: u75 :: u76 :: u77 :: u78 :: u79 :: u80 :: u81 :: u82 :: u83 :: u84 :: u85 :: u86 :: u87 :: u88 :: u89 :: u90 :: u91 :: u92 :: u93 :: u94 :: u95 :: u96 :: u97 :: u98 :: u99 :: u100 :: .slice At m ct :: .int .i64 m :: .int .i64 0 :: u104 :: u105 :: u106 :: u107 :: u108 :: u109 :: u110 :: u111 :: u112 :: u113 :: u114 :: u115 :: u116 :: u117 :: u118 :: u119 :: u120 :: u121 :: u122 :: u123 :: u124 :: u125 :: u126 :: u127 :: u128 :: u129 :: u130 :: u131 :: u132 :: u133 :: u134 :: u135 :: u136 :: u137 :: u138 :: u139 :: u140 :: u141 :: u142 :: u143 :: u144 :: u145 :: u146 :: u147 :: u148 :: u149 :: u150 :: u151 :: u152 :: u153 :: u154 :: u155 :: u156 :: u157 :: u158 :: u159 :: u160 :: u161 :: u162 :: u163 :: u164 :: u165 :: u166 :: u167 :: u168 :: u169 :: u170 :: u171 :: u172 :: u173 :: u174 :: u175 :: u176 :: u177 :: u178 :: u179 :: u180 :: u181 :: u182 :: u183 :: u184 :: u185 :: u186 :: u187 :: u188 :: u189 :: u190 :: u191 :: u192 :: u193 :: u194 :: u195 :: []), []⟩ Z0 := by
  have HK := Lib.hid hK
  have HTr := Lib.hid hTr
  have HMk := Lib.hid hMk
  have HNK := Lib.hid hnk
  have HQ := Lib.hid hQ
  have HMl := Lib.hid hm
  have HJ := Lib.hid hJ
  clear hK hTr hMk hnk hQ hm hJ
  have hnn9 : m ≤ 1000 := hLn
  clear hLn
  let Qx : Exit → Act → World → Prop := bodyPost Try.prog Try.f14 (fun _ _ => True)
  conv => arg 2; whnf
  go_wp2_with fail
  go_loopw [13, 103] (fun v i wx => ∃ j : Nat, j ≤ m ∧ i = .int .i64 j ∧ v = .int .i64 (qtyS (ts.take j)) ∧ KwAt w wx mb gm N B S2 l2 [.int .i64 kd, .string nm, .int .i64 sd', .int .i64 qt, .int .i64 pr] (.slice At m ct) m (ts.flatMap trC)) (fun _ i _ => m - (intOf i).toNat)
  case atStart => exact ⟨0, by omega, rfl, by simp [qtyS], HK.out⟩
  case round =>
    clear HK
    obtain ⟨j, hj, rfl, rfl, hK⟩ := hrel
    have HK := Lib.hid hK
    clear hK
    by_cases hjm : j < m
    · obtain ⟨x, hx⟩ : ∃ x, ts[j]? = some x := ⟨_, List.getElem?_eq_getElem (by rw [HMl.out]; exact hjm)⟩
      obtain ⟨g, off, rfl, b0, b1, b2, b3⟩ := tr_cells (Rd.of_own HK.out.tr) hjm hx
      have HX := Lib.hid hx
      clear hx
      go_upto_region 26 with (fail)
      have hO := Ob.new wr 108 [.string x.maker, .string x.taker, .int .i64 x.qty, .int .i64 x.price]
      refine cutW (fun Y => Ob Y wr.heap.size 108 [.string x.maker, .string x.taker, .int .i64 x.qty, .int .i64 x.price] ∧ KwAt w Y mb gm N B S2 l2 [.int .i64 kd, .string nm, .int .i64 sd', .int .i64 qt, .int .i64 pr] (.slice (some ⟨g, off, none⟩) m ct) m (ts.flatMap trC)) ⟨hO, HK.out.below Below.alloc_set⟩ ?_
      clear hO HK b0 b1 b2 b3
      generalize wr.heap.size = X at *
      rintro Y ⟨hO, hK⟩
      have HO := Lib.hid hO
      have HK := Lib.hid hK
      have hoy := hO.cell
      have hmem := List.mem_of_getElem? HX.out
      obtain ⟨t1, t2, t3, t4, t5, t6⟩ := HTr.out x hmem
      have hxk : x.maker.size ≤ maxLen := HMk.out x hmem
      have htk : x.taker.size ≤ maxLen := by rw [t1]; exact HNK.out
      rw [← t1] at t3 t5
      rcases hy1 : lookVO l2 x.maker with ⟨y0, y1, y2, y3, y4⟩
      rcases hy2 : lookVO l2 x.taker with ⟨z0, z1, z2, z3, z4⟩
      have hlk1 : ∀ Z, MqAt Z gm l2 → (Instr.lookup 105 (.map (some gm)) (.string x.maker) false).run Try.prog Z = .ok (.agg #[.int .i64 y0, .string y1, .int .i64 y2, .int .i64 y3, .int .i64 y4]) Z := fun Z hZ => by rw [hZ.look1 x.maker hxk, hy1]; rfl
      have hlk2 : ∀ Z, MqAt Z gm l2 → (Instr.lookup 105 (.map (some gm)) (.string x.taker) false).run Try.prog Z = .ok (.agg #[.int .i64 z0, .string z1, .int .i64 z2, .int .i64 z3, .int .i64 z4]) Z := fun Z hZ => by rw [hZ.look1 x.taker htk, hy2]; rfl
      rw [hy1, hy2] at t3
      rw [hy1] at t4 t6
      rw [hy2] at t5
      simp only at t3 t4 t5 t6
      have HLK1 := Lib.hid hlk1
      have HLK2 := Lib.hid hlk2
      clear hlk1 hlk2 hO hK hy1 hy2 hmem
      have T1 := Lib.hid t1
      have T2 := Lib.hid t2
      have T3 := Lib.hid t3
      have T4 := Lib.hid t4
      have T5 := Lib.hid t5
      have T6 := Lib.hid t6
      clear t1 t2 t3 t4 t5 t6
      go_cut [16, 17] (fun a b Z => ∃ X1 X2, a = .pointer (some ⟨X1, 0, none⟩) ∧ b = .pointer (some ⟨X2, 0, none⟩) ∧ Ob Z X1 90 [.int .i64 y0, .string y1, .int .i64 y2, .int .i64 y3, .int .i64 y4] ∧ Ob Z X2 90 [.int .i64 z0, .string z1, .int .i64 z2, .int .i64 z3, .int .i64 z4] ∧ Ob Z X 108 [.string x.maker, .string x.taker, .int .i64 x.qty, .int .i64 x.price] ∧ KwAt w Z mb gm N B S2 l2 [.int .i64 kd, .string nm, .int .i64 sd', .int .i64 qt, .int .i64 pr] (.slice (some ⟨g, off, none⟩) m ct) m (ts.flatMap trC))
      case first =>
        have f0 : ∀ W, Below Y.heap.size Y W → W.cell? ⟨X, 0, none⟩ = some (.string x.maker) := fun W hW => (hW.cell (p := ⟨X, 0, none⟩) HO.out.lt).trans (hoy 0)
        have f1 : ∀ W, Below Y.heap.size Y W → W.cell? ⟨X, 1, none⟩ = some (.string x.taker) := fun W hW => (hW.cell (p := ⟨X, 1, none⟩) HO.out.lt).trans (hoy 1)
        have f2 : ∀ W, Below Y.heap.size Y W → _ := fun W hW => HLK1.out W (HK.out.ke.hm.below hW HK.out.ke.hm.lt)
        have f3 : ∀ W, Below Y.heap.size Y W → _ := fun W hW => HLK2.out W (HK.out.ke.hm.below hW HK.out.ke.hm.lt)
        have hal2 : ∀ o1 o2, Below Y.heap.size Y ((Y.alloc o1).alloc o2).drew := fun o1 o2 => Below.drew (((Below.refl _ Y).alloc (Nat.le_refl _) o1).alloc (by simp) o2)
        refine wp_region_noPanic ?_
        refine wp_region_held_drew (S := fun w' => Below Y.heap.size Y w') (by kernel_rfl) (Below.drew (Below.refl _ _)) (fun hHeld => ?_)
        refine wpAnyH_take (i := 0) (v := ?_) (takeD rfl) (by kernel_rfl) (by kernel_rfl) (by kernel_rfl) (fun _ _ _ h => h) (Or.inl ⟨by rfl, ?_⟩) (by assumption) ?_
        rotate_left
        · intro W9 hSw
          try dsimp only at hSw
          go_simp
          try with_reducible rfl
        try simp only [Act.put, List.setIfInBounds_toArray, List.set_cons_zero, List.set_cons_succ]
        refine wpAnyH_take (i := 1) (v := ?_) (takeD rfl) (by kernel_rfl) (by kernel_rfl) (by kernel_rfl) (fun _ _ _ h => h) (Or.inl ⟨by rfl, ?_⟩) (by assumption) ?_
        rotate_left
        · intro W9 hSw
          try dsimp only at hSw
          go_simp
          try with_reducible rfl
        try simp only [Act.put, List.setIfInBounds_toArray, List.set_cons_zero, List.set_cons_succ]
        refine wpAnyH_take (i := 2) (v := ?_) (takeD rfl) (by kernel_rfl) (by kernel_rfl) (by kernel_rfl) (fun _ _ _ h => h) (Or.inl ⟨by rfl, ?_⟩) (by assumption) ?_
        rotate_left
        · intro W9 hSw
          try dsimp only at hSw
          have f0 := f0 W9 hSw
          go_simp
          try with_reducible rfl
        try simp only [Act.put, List.setIfInBounds_toArray, List.set_cons_zero, List.set_cons_succ]
        refine wpAnyH_take (i := 3) (v := ?_) (takeD rfl) (by kernel_rfl) (by kernel_rfl) (by kernel_rfl) (fun _ _ _ h => h) (Or.inl ⟨by rfl, ?_⟩) (by assumption) ?_
        rotate_left
        · intro W9 hSw
          try dsimp only at hSw
          have f2 := f2 W9 hSw
          go_simp
          try with_reducible rfl
        try simp only [Act.put, List.setIfInBounds_toArray, List.set_cons_zero, List.set_cons_succ]
        refine wpAnyH_take (i := 4) (v := ?_) (takeD rfl) (by kernel_rfl) (by kernel_rfl) (by kernel_rfl) (fun _ _ _ h => h) (Or.inl ⟨by rfl, ?_⟩) (by assumption) ?_
        rotate_left
        · intro W9 hSw
          try dsimp only at hSw
          go_simp
          try with_reducible rfl
        try simp only [Act.put, List.setIfInBounds_toArray, List.set_cons_zero, List.set_cons_succ]
        refine wpAnyH_take (i := 5) (v := ?_) (takeD rfl) (by kernel_rfl) (by kernel_rfl) (by kernel_rfl) (fun _ _ _ h => h) (Or.inl ⟨by rfl, ?_⟩) (by assumption) ?_
        rotate_left
        · intro W9 hSw
          try dsimp only at hSw
          go_simp
          try with_reducible rfl
        try simp only [Act.put, List.setIfInBounds_toArray, List.set_cons_zero, List.set_cons_succ]
        refine wpAnyH_take (i := 6) (v := ?_) (takeD rfl) (by kernel_rfl) (by kernel_rfl) (by kernel_rfl) (fun _ _ _ h => h) (Or.inl ⟨by rfl, ?_⟩) (by assumption) ?_
        rotate_left
        · intro W9 hSw
          try dsimp only at hSw
          have f1 := f1 W9 hSw
          go_simp
          try with_reducible rfl
        try simp only [Act.put, List.setIfInBounds_toArray, List.set_cons_zero, List.set_cons_succ]
        refine wpAnyH_take (i := 7) (v := ?_) (takeD rfl) (by kernel_rfl) (by kernel_rfl) (by kernel_rfl) (fun _ _ _ h => h) (Or.inl ⟨by rfl, ?_⟩) (by assumption) ?_
        rotate_left
        · intro W9 hSw
          try dsimp only at hSw
          have f3 := f3 W9 hSw
          go_simp
          try with_reducible rfl
        try simp only [Act.put, List.setIfInBounds_toArray, List.set_cons_zero, List.set_cons_succ]
        refine wpAnyH_ready (rs := [8, 9]) (by kernel_rfl) (by simp) ?_
        refine AllReadyH.cons (takeD rfl) (fun K hK => ?_) ?_
        · go_simp
          refine hK.out _ _ ?_ (fun hHeld => ?_)
          · first | exact (hHeld.alloc hHeld.size _) | exact hal2 _ _
          clear hK K
          try simp only [Act.put, List.setIfInBounds_toArray, List.set_cons_zero, List.set_cons_succ]
          refine wpAnyH_ready (rs := [9]) (by kernel_rfl) (by simp) ?_
          refine AllReadyH.cons (takeD rfl) (fun K hK => ?_) ?_
          · go_simp
            refine hK.out _ _ ?_ (fun hHeld => ?_)
            · first | exact (hHeld.alloc hHeld.size _) | exact hal2 _ _
            clear hK K
            try simp only [Act.put, List.setIfInBounds_toArray, List.set_cons_zero, List.set_cons_succ]
            refine wpAnyH_ready (rs := [10]) (by kernel_rfl) (by simp) ?_
            refine AllReadyH.cons (takeD rfl) (fun K hK => ?_) ?_
            · go_simp
              refine hK.out _ _ ?_ (fun hHeld => ?_)
              · first | exact (hHeld.alloc hHeld.size _) | exact hal2 _ _
              clear hK K
              try simp only [Act.put, List.setIfInBounds_toArray, List.set_cons_zero, List.set_cons_succ]
              refine wpAnyH_ready (rs := [11]) (by kernel_rfl) (by simp) ?_
              refine AllReadyH.cons (takeD rfl) (fun K hK => ?_) ?_
              · go_simp
                refine hK.out _ _ ?_ (fun hHeld => ?_)
                · first | exact (hHeld.alloc hHeld.size _) | exact hal2 _ _
                clear hK K
                try simp only [Act.put, List.setIfInBounds_toArray, List.set_cons_zero, List.set_cons_succ]
                refine wpAnyH_done (by kernel_rfl) ?_ _
                refine NoPanic.normal ?_
                go_wp2_with fail
                go_meet
                exact ⟨Y.heap.size, Y.heap.size + 1, rfl, rfl, ((Ob.new Y 90 _).alloc _).drew, (Ob.new2 Y _ 90 _).drew, HO.out.below (hal2 _ _) HO.out.lt, HK.out.below (hal2 _ _)⟩
              exact AllReadyH.nil
            exact AllReadyH.nil
          exact AllReadyH.nil
        refine AllReadyH.cons (takeD rfl) (fun K hK => ?_) ?_
        · go_simp
          refine hK.out _ _ ?_ (fun hHeld => ?_)
          · first | exact (hHeld.alloc hHeld.size _) | exact hal2 _ _
          clear hK K
          try simp only [Act.put, List.setIfInBounds_toArray, List.set_cons_zero, List.set_cons_succ]
          refine wpAnyH_ready (rs := [8]) (by kernel_rfl) (by simp) ?_
          refine AllReadyH.cons (takeD rfl) (fun K hK => ?_) ?_
          · go_simp
            refine hK.out _ _ ?_ (fun hHeld => ?_)
            · first | exact (hHeld.alloc hHeld.size _) | exact hal2 _ _
            clear hK K
            try simp only [Act.put, List.setIfInBounds_toArray, List.set_cons_zero, List.set_cons_succ]
            refine wpAnyH_ready (rs := [10]) (by kernel_rfl) (by simp) ?_
            refine AllReadyH.cons (takeD rfl) (fun K hK => ?_) ?_
            · go_simp
              refine hK.out _ _ ?_ (fun hHeld => ?_)
              · first | exact (hHeld.alloc hHeld.size _) | exact hal2 _ _
              clear hK K
              try simp only [Act.put, List.setIfInBounds_toArray, List.set_cons_zero, List.set_cons_succ]
              refine wpAnyH_ready (rs := [11]) (by kernel_rfl) (by simp) ?_
              refine AllReadyH.cons (takeD rfl) (fun K hK => ?_) ?_
              · go_simp
                refine hK.out _ _ ?_ (fun hHeld => ?_)
                · first | exact (hHeld.alloc hHeld.size _) | exact hal2 _ _
                clear hK K
                try simp only [Act.put, List.setIfInBounds_toArray, List.set_cons_zero, List.set_cons_succ]
                refine wpAnyH_done (by kernel_rfl) ?_ _
                refine NoPanic.normal ?_
                go_wp2_with fail
                go_meet
                exact ⟨Y.heap.size + 1, Y.heap.size, rfl, rfl, (Ob.new2 Y _ 90 _).drew, ((Ob.new Y 90 _).alloc _).drew, HO.out.below (hal2 _ _) HO.out.lt, HK.out.below (hal2 _ _)⟩
              exact AllReadyH.nil
            exact AllReadyH.nil
          exact AllReadyH.nil
        exact AllReadyH.nil
      case rest =>
      obtain ⟨X1, X2, rfl, rfl, o1, o2, hO, hK⟩ := hcut
      clear HO HK hoy HLK1 HLK2
      have c1 := o1.cell
      have c2 := o2.cell
      have c3 := hO.cell
      have c4 := hK.ob.cell
      have HK := Lib.hid hK
      have d1 : decide (x.qty < 1) = false := by have := T2.out; simp; omega
      have d2 : x.taker.toList = nm.toList := by rw [T1.out]
      have d3 : (y2 == z2) = false := by have := T3.out; simp; omega
      have d4 : (!goodB y2 y4 x.price) = false := by rw [T4.out]; rfl
      have d5 : (!goodB z2 z4 x.price) = false := by rw [T5.out]; rfl
      have d6 : (x.price != y4) = false := by rw [T6.out]; simp
      have hqs := qtyS_succ HX.out
      have hq1 := qtyS_take ts j (fun t ht => (HTr.out t ht).2.1)
      have hq2 := qtyS_take ts (j + 1) (fun t ht => (HTr.out t ht).2.1)
      have hQ := HQ.out
      have hwn : IntKind.i64.wrap (qtyS (ts.take j) + x.qty) = qtyS (ts.take (j + 1)) := by
        rw [IntWalk.i64_in _ (by omega), hqs]
        try omega
      clear o1 o2 hO hK hqs hq1 hq2 hQ T1 T2 T3 T4 T5 T6
      generalize hsj : qtyS (ts.take j) = sj at *
      clear hsj
      have h52 := mo52
      go_wp2_with (go_at_call 52; refine (h52 _ _ _ _).mono ?_; rintro e w' ⟨rfl, rfl⟩)
      go_roundw
      case rel => exact ⟨j + 1, by omega, by go_num, rfl, HK.out⟩
      case measure => simp [intOf]; omega
    · obtain rfl : j = m := by omega
      have ht : qtyS (ts.take j) = qtyS ts := by rw [List.take_of_length_le (by rw [HMl.out]; exact Nat.le_refl _)]
      rw [ht]
      clear ht
      go_wp2_with fail
      refine Met.intro ?_
      apply HJ.out
      exact HK.out

end Go.Proofs.Ytjhlaifflhjafaa
