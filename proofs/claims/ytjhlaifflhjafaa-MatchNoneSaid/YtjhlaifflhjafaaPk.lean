import Derived.Test.YtjhlaifflhjafaaPi
import Derived.Carry
namespace Go.Proofs.Ytjhlaifflhjafaa
open Go.RowKit

theorem info132 : (Try.prog.info? 132).map (fun i => (i.zero, i.size, i.bytes)) = some (some (.agg #[.int .i64 0, .int .i64 0, .int .i64 0]), 3, 24) := by kernel_rfl
def lenS : Value → Nat
  | .slice _ n _ => n
  | _ => 0
theorem depth_len0 : ∀ (l : List Mo) (M : List Lv), (l.foldl lvUp M).length ≤ M.length + l.length
  | [], M => by simp
  | o :: l, M => by
    have h1 := depth_len0 l (lvUp M o)
    have h2 : (lvUp M o).length ≤ M.length + 1 := by
      unfold lvUp
      rw [putL_len]
      split <;> omega
    simp only [List.foldl_cons, List.length_cons]
    omega
theorem depth_len (l : List Mo) : (depthM l).length ≤ l.length := by
  have := depth_len0 l []
  unfold depthM
  simpa using this
def passK (side : Int) (lim : Option Int) (L : List Ro) (j : Nat) : Lv := (L.take j).foldl (pasU side lim) zLv
theorem passK_succ {side : Int} {lim : Option Int} {L : List Ro} {j : Nat} {o : Ro} (h : L[j]? = some o) : passK side lim L (j + 1) = pasU side lim (passK side lim L j) o := by
  unfold passK
  rw [List.take_add_one, h, List.foldl_append]
  rfl
theorem passK_bnd (side : Int) (lim : Option Int) (L : List Ro) (hL : ∀ o ∈ L, 1 ≤ o.left ∧ o.left ≤ 1099511627776) : ∀ j, 0 ≤ (passK side lim L j).qty ∧ (passK side lim L j).qty ≤ j * 1099511627776 ∧ 0 ≤ (passK side lim L j).orders ∧ (passK side lim L j).orders ≤ j
  | 0 => by unfold passK; simp [zLv]
  | j + 1 => by
    have ih := passK_bnd side lim L hL j
    cases ho : L[j]? with
    | none =>
      have e : passK side lim L (j + 1) = passK side lim L j := by
        unfold passK
        rw [List.take_add_one, ho]
        simp
      rw [e]
      omega
    | some o =>
      have hb := hL o (List.mem_of_getElem? ho)
      rw [passK_succ ho]
      unfold pasU
      split
      · split
        · simp only; omega
        · split
          · simp only; omega
          · omega
      · omega

set_option maxHeartbeats 6400000 in
set_option maxRecDepth 100000 in
theorem rb80_1 (w : World) (rb : Nat) (v : Value) (L : List Ro) (h : RbAt w rb v L) (hx : RoB L) :
    Calls Try.prog 80 #[.pointer (some ⟨rb, 0, none⟩), .int .i64 1] w fun e w' => ∃ vo, e = .returned vo ∧ w'.ownsRow w.heap.size 132 3 vo (depthM (sideOf 1 L)).length ((depthM (sideOf 1 L)).flatMap lvC) ∧ Below w.heap.size w w' := by
  have hdp := dep_pass 1 L (fun o ho => (hx.x o ho).1)
  have hbn := fun lim => passK_bnd 1 lim L hx.x
  have hML : (depthM (sideOf 1 L)).length ≤ L.length := by
    have h1 := depthM_ok (side := 1) (sideOf_srt 1 L) (fun x hxx => by
      obtain ⟨o, ho, -, h2⟩ := sideOf_mem.1 hxx
      rw [← h2]
      exact (hx.x o ho).1)
    have h2 := depth_len (sideOf 1 L)
    have h3 := (sideOf_perm 1 L).length_eq
    rw [List.length_map] at h3
    have h4 := List.length_filter_le (fun o : Ro => decide (o.side = 1)) L
    omega
  have hn := hx.n
  obtain ⟨A, c, rfl⟩ := h.shape
  obtain ⟨i0, hi0, hz0, hz1, hz2⟩ := info_parts info132
  have HI := Lib.hid hi0
  have HZ0 := Lib.hid hz0
  have HZ1 := Lib.hid hz1
  have HZ2 := Lib.hid hz2
  have H := Lib.hid h
  have HX := Lib.hid hx
  have HDP := Lib.hid hdp
  have HBN := Lib.hid hbn
  obtain ⟨n, hnn⟩ : ∃ n, L.length = n := ⟨_, rfl⟩
  rw [hnn] at hn hML H
  have HNN := Lib.hid hnn
  generalize depthM (sideOf 1 L) = M at *
  have HML := Lib.hid hML
  clear h hx hdp hbn hML hnn hi0 hz0 hz1 hz2
  go_enter Try.func80, Try.ntmps80
  go_wp2_with fail
  go_loopw [5] (fun vo wr => ∃ (k : Nat) (Ao : Option Addr) (co : Nat), k ≤ M.length ∧ vo = .slice Ao k co ∧ wr.ownsRow w.heap.size 132 3 (.slice Ao k co) k ((M.take k).flatMap lvC) ∧ Below w.heap.size w wr) (fun vo _ => M.length + 1 - lenS vo)
  case atStart => exact ⟨0, none, 0, by omega, rfl, own_nil _ _ _ _, Below.refl _ _⟩
  case round =>
    obtain ⟨k, Ao, co, hk, rfl, hown, hB⟩ := hrel
    have HOw := Lib.hid hown
    have HB := Lib.hid hB
    have HK := Lib.hid hk
    clear hown hB
    obtain ⟨lim, hlim⟩ : ∃ lim, limK M k = lim := ⟨_, rfl⟩
    have HLim := Lib.hid hlim
    have hdp := HDP.out k hk
    rw [hlim] at hdp
    have hbn := HBN.out lim
    have HD := Lib.hid hdp
    have HBk := Lib.hid hbn
    clear hlim hdp hbn
    have hkn : k ≤ n := by have := HML.out; omega
    clear hk
    go_upto_region 3 with (fail)
    have hO := Ob.new wr 132 [.int .i64 0, .int .i64 0, .int .i64 0]
    refine cutW (fun Y => Ob Y wr.heap.size 132 [.int .i64 0, .int .i64 0, .int .i64 0] ∧ Below wr.heap.size wr Y) ⟨hO, Below.alloc_set⟩ ?_
    clear hO
    rintro Y ⟨hO, hBY⟩
    have HO := Lib.hid hO
    have HBY := Lib.hid hBY
    clear hO hBY
    obtain ⟨N1, hN1⟩ : ∃ N1, wr.heap.size = N1 := ⟨_, rfl⟩
    rw [hN1] at HO HBY ⊢
    have HN1 := Lib.hid hN1
    clear hN1
    obtain ⟨wo, hwo⟩ : ∃ x : World, x = wr := ⟨_, rfl⟩
    subst hwo
    go_wp2_with fail
    · go_loopw [7] (fun i wx => ∃ (j : Nat) (lp lq lo : Int), j ≤ n ∧ i = .int .i64 j ∧ passK 1 lim L j = ⟨lp, lq, lo⟩ ∧ Ob wx N1 132 [.int .i64 lp, .int .i64 lq, .int .i64 lo] ∧ Below N1 wo wx) (fun i _ => n - (intOf i).toNat)
      case atStart => exact ⟨0, 0, 0, 0, by omega, rfl, rfl, HO.out, HBY.out⟩
      case round =>
        clear HO HBY
        obtain ⟨j, lp, lq, lo, hj, rfl, hpk, hO, hBx⟩ := hrel
        have hBx2 : Below wo.heap.size wo wr := by rw [HN1.out]; exact hBx
        have hBw : Below w.heap.size w wr := HB.out.trans (hBx2.mono HB.out.size)
        have hw := H.out.below hBw
        have hc := hw.ho.cell
        have hoc := hO.cell
        have HPK := Lib.hid hpk
        have HO := Lib.hid hO
        have HBx := Lib.hid hBx
        have hbq := HBk.out j
        rw [hpk] at hbq
        simp only at hbq
        by_cases hlt : j < n
        · obtain ⟨o, ho⟩ : ∃ o, L[j]? = some o := ⟨_, List.getElem?_eq_getElem (by rw [HNN.out]; exact hlt)⟩
          have hw' := hw
          rw [← HNN.out] at hw'
          obtain ⟨g, off, rfl, x0, x1, x2, x3⟩ := hw'.cells ho
          have hps := passK_succ (side := 1) (lim := lim) ho
          rw [hpk] at hps
          have HPS := Lib.hid hps
          have HLo := Lib.hid ho
          have hN1l := hO.lt
          clear hw hw' ho hBw hBx2 hpk hO hBx hps
          go_upto_region 7 with (fail)
          have hO2 := Ob.new wr 129 [.string o.id, .int .i64 o.side, .int .i64 o.left, .int .i64 o.price]
          refine cutW (fun Z => Ob Z wr.heap.size 129 [.string o.id, .int .i64 o.side, .int .i64 o.left, .int .i64 o.price] ∧ Ob Z N1 132 [.int .i64 lp, .int .i64 lq, .int .i64 lo] ∧ Below N1 wo Z ∧ N1 ≠ wr.heap.size) ⟨hO2, HO.out.below Below.alloc_set hN1l, HBx.out.trans ((Below.alloc_set : Below wr.heap.size wr _).mono (by omega)), by omega⟩ ?_
          clear hO2 HO HBx x0 x1 x2 x3 hc hoc
          generalize wr.heap.size = N2 at *
          rintro Z ⟨hO2, hO, hBZ, hN12⟩
          have hoc := hO.cell
          have hoc2 := hO2.cell
          have HO := Lib.hid hO
          have HO2 := Lib.hid hO2
          have HBZ := Lib.hid hBZ
          clear hO hO2 hBZ hN1l
          obtain ⟨b, hb⟩ : ∃ b, (!(decide (o.side = 1) && limB 1 lim o.price)) = b := ⟨_, rfl⟩
          have HBb := Lib.hid hb
          clear hb
          go_cut [66] (fun x V => x = .bool b ∧ Ob V N2 129 [.string o.id, .int .i64 o.side, .int .i64 o.left, .int .i64 o.price] ∧ Ob V N1 132 [.int .i64 lp, .int .i64 lq, .int .i64 lo] ∧ Below N1 wo V)
          case first =>
            have hgen : ∀ q, Ob (Z.drewN q) N2 129 [.string o.id, .int .i64 o.side, .int .i64 o.left, .int .i64 o.price] ∧ Ob (Z.drewN q) N1 132 [.int .i64 lp, .int .i64 lq, .int .i64 lo] ∧ Below N1 wo (Z.drewN q) := fun q => ⟨HO2.out.drewN q, HO.out.drewN q, Below.drewN HBZ.out q⟩
            have HGen := Lib.hid hgen
            clear hgen
            by_cases hs : o.side = 1
            · have d0 : (o.side != 1) = false := by simp [hs]
              have hbb := HBb.out
              rw [decide_eq_true hs, Bool.true_and] at hbb
              have HBb := Lib.hid hbb
              clear hbb hs
              cases k with
              | zero =>
                have e : b = false := by rw [← HBb.out, ← HLim.out]; rfl
                subst e
                go_quiet (fail)
                (try go_wp2_with fail)
                go_meet
                exact ⟨rfl, HGen.out _⟩
              | succ m =>
                obtain ⟨z, hz⟩ : ∃ z, M[m]? = some z := ⟨_, List.getElem?_eq_getElem (by have := HK.out; omega)⟩
                have e1 : lim = some z.price := by rw [← HLim.out]; show (M[m]?).map (·.price) = _; rw [hz]; rfl
                have hrd : Rd Z Ao (m + 1) 3 ((M.take (m + 1)).flatMap lvC) := (Rd.of_own HOw.out).below (by rw [HN1.out]; exact HBZ.out)
                have hzt : (M.take (m + 1))[m]? = some z := by rw [List.getElem?_take_of_lt (by omega)]; exact hz
                obtain ⟨g5, o5, rfl, z0, -, -⟩ := lv_cells hrd (by omega) hzt
                have hw1 : IntKind.i64.wrap (m : Int) = (m : Int) := IntWalk.i64_in _ (by omega)
                have dl : decide (((m + 1 : Nat) : Int) > 0) = true := by simp
                have hbb := HBb.out
                rw [e1] at hbb
                have hbb2 : decide (z.price ≤ o.price) = b := by
                  rw [← hbb]
                  have e9 : limB 1 (some z.price) o.price = decide (o.price < z.price) := by simp [limB, btr]
                  rw [e9]
                  by_cases hh : o.price < z.price
                  · rw [decide_eq_true hh, decide_eq_false (by omega)]; rfl
                  · rw [decide_eq_false hh, decide_eq_true (by omega)]; rfl
                clear hbb hrd hzt hz e1 HLim HBb HD HBk HPK HPS HDP HBN
                cases b with
                | false =>
                  go_quiet (fail)
                  (try go_wp2_with fail)
                  go_meet
                  exact ⟨rfl, HGen.out _⟩
                | true =>
                  go_quiet (fail)
                  (try go_wp2_with fail)
                  go_meet
                  exact ⟨rfl, HGen.out _⟩
            · have d0 : (o.side != 1) = true := by simp [hs]
              have e : b = true := by rw [← HBb.out, decide_eq_false hs]; rfl
              subst e
              clear hs
              go_quiet (fail)
              (try go_wp2_with fail)
              go_meet
              exact ⟨rfl, HGen.out _⟩
          case rest =>
          obtain ⟨rfl, hO2, hO, hBV⟩ := hcut
          clear HO HO2 HBZ hoc hoc2
          have HO := Lib.hid hO
          have HO2 := Lib.hid hO2
          have HBV := Lib.hid hBV
          have hoc := hO.cell
          have hoc2 := hO2.cell
          have hz := hO.frozen
          have hl := hO.lt
          clear hO hO2 hBV
          cases b with
          | true =>
            have hno : passK 1 lim L (j + 1) = ⟨lp, lq, lo⟩ := by
              rw [HPS.out]
              unfold pasU
              rw [if_neg (fun hh => by have := HBb.out; rw [decide_eq_true hh.1, hh.2] at this; cases this)]
            have HNo := Lib.hid hno
            clear hno
            go_wp2_with fail
            go_roundw
            case rel => exact ⟨j + 1, lp, lq, lo, by omega, by go_num, HNo.out, HO.out, HBV.out⟩
            case measure => simp [intOf]; omega
          | false =>
            have hel : o.side = 1 ∧ limB 1 lim o.price = true := by
              have := HBb.out
              simp only [Bool.not_eq_false', Bool.and_eq_true, decide_eq_true_eq] at this
              exact this
            have hps := HPS.out
            unfold pasU at hps
            rw [if_pos hel] at hps
            have hbo := HX.out.x o (List.mem_of_getElem? HLo.out)
            have HN12 := Lib.hid hN12
            have hwq : IntKind.i64.wrap (lq + o.left) = lq + o.left := IntWalk.i64_in _ (by omega)
            have hwl : IntKind.i64.wrap o.left = o.left := IntWalk.i64_in _ (by omega)
            have hwo : IntKind.i64.wrap (lo + 1) = lo + 1 := IntWalk.i64_in _ (by omega)
            have hw1 : IntKind.i64.wrap 1 = 1 := by rfl
            clear hbo hbq hel
            by_cases hfirst : lo = 0 ∨ btr 1 o.price lp = true
            · rw [if_pos hfirst] at hps
              have HNew : Hid (passK 1 lim L (j + 1) = ⟨o.price, o.left, 1⟩) := Lib.hid hps
              have HFi := Lib.hid hfirst
              clear hps hfirst
              go_upto_region 8 with (fail)
              go_cut [91] (fun x V => x = .bool true ∧ Ob V N2 129 [.string o.id, .int .i64 o.side, .int .i64 o.left, .int .i64 o.price] ∧ Ob V N1 132 [.int .i64 lp, .int .i64 lq, .int .i64 lo] ∧ Below N1 wo V)
              case first =>
                by_cases h0 : lo = 0
                · have d0 : (lo == 0) = true := by simp [h0]
                  clear h0
                  go_wp2_with fail
                  go_meet
                  exact ⟨rfl, HO2.out, HO.out, HBV.out⟩
                · have d0 : (lo == 0) = false := by simp [h0]
                  have hb2 : lp < o.price := by
                    rcases HFi.out with h1 | h1
                    · exact absurd h1 h0
                    · simpa [btr] using h1
                  have d1 : decide (lp < o.price) = true := decide_eq_true hb2
                  clear h0 hb2
                  go_wp2_with fail
                  go_meet
                  exact ⟨rfl, HO2.out, HO.out, HBV.out⟩
              case rest =>
              obtain ⟨rfl, hO2, hO, hBV⟩ := hcut
              clear hoc hoc2 hz hl HO HO2 HBV
              have hoc := hO.cell
              have hoc2 := hO2.cell
              have hz := hO.frozen
              have hl := hO.lt
              have HO := Lib.hid hO
              have HO2 := Lib.hid hO2
              have HBV := Lib.hid hBV
              clear hO hO2 hBV
              go_upto_region 10 with (fail)
              refine cutW (fun V => Ob V N2 129 [.string o.id, .int .i64 o.side, .int .i64 o.left, .int .i64 o.price] ∧ Ob V N1 132 [.int .i64 o.price, .int .i64 0, .int .i64 0] ∧ Below N1 wo V) ⟨HO2.out.mods ((((Mods.refl (fun q => q = N1) _).setCell (⟨N1, 0, none⟩ : Addr) (.inl rfl) _).setCell (⟨N1, 1, none⟩ : Addr) (.inl rfl) _).setCell (⟨N1, 2, none⟩ : Addr) (.inl rfl) _) (fun e => HN12.out e.symm), ((HO.out.set 0 _).set 1 _).set 2 _, ((HBV.out.setCell (p := ⟨N1, 0, none⟩) (Nat.le_refl _) _).setCell (p := ⟨N1, 1, none⟩) (Nat.le_refl _) _).setCell (p := ⟨N1, 2, none⟩) (Nat.le_refl _) _⟩ ?_
              clear hoc hoc2 hz hl HO HO2 HBV
              rintro V ⟨hO2, hO, hBV⟩
              have hoc := hO.cell
              have hoc2 := hO2.cell
              have hz := hO.frozen
              have hl := hO.lt
              have HO := Lib.hid hO
              have HO2 := Lib.hid hO2
              have HBV := Lib.hid hBV
              clear hO hO2 hBV
              go_upto_region 12 with (fail)
              refine cutW (fun V => Ob V N2 129 [.string o.id, .int .i64 o.side, .int .i64 o.left, .int .i64 o.price] ∧ Ob V N1 132 [.int .i64 o.price, .int .i64 o.left, .int .i64 0] ∧ Below N1 wo V) ⟨HO2.out.mods ((Mods.refl (fun q => q = N1) _).setCell (⟨N1, 1, none⟩ : Addr) (.inl rfl) _) (fun e => HN12.out e.symm), HO.out.set 1 _, HBV.out.setCell (p := ⟨N1, 1, none⟩) (Nat.le_refl _) _⟩ ?_
              clear hoc hoc2 hz hl HO HO2 HBV
              rintro V ⟨hO2, hO, hBV⟩
              have hoc := hO.cell
              have hoc2 := hO2.cell
              have hz := hO.frozen
              have hl := hO.lt
              have HO := Lib.hid hO
              have HO2 := Lib.hid hO2
              have HBV := Lib.hid hBV
              clear hO hO2 hBV
              go_wp2_with fail
              go_roundw
              case rel => exact ⟨j + 1, o.price, o.left, 1, by omega, by go_num, HNew.out, HO.out.set 2 _, HBV.out.setCell (p := ⟨N1, 2, none⟩) (Nat.le_refl _) _⟩
              case measure => simp [intOf]; omega
            · rw [if_neg hfirst] at hps
              have d0 : (lo == 0) = false := by
                have : ¬ lo = 0 := fun e => hfirst (.inl e)
                simp [this]
              have d1 : decide (lp < o.price) = false := by
                have : ¬ btr 1 o.price lp = true := fun e => hfirst (.inr e)
                simpa [btr] using this
              clear hfirst
              by_cases heq : o.price = lp
              · rw [if_pos heq] at hps
                have HNew : Hid (passK 1 lim L (j + 1) = ⟨lp, lq + o.left, lo + 1⟩) := Lib.hid hps
                have d2 : (o.price == lp) = true := by simp [heq]
                clear hps heq
                go_upto_region 12 with (fail)
                refine cutW (fun V => Ob V N2 129 [.string o.id, .int .i64 o.side, .int .i64 o.left, .int .i64 o.price] ∧ Ob V N1 132 [.int .i64 lp, .int .i64 (lq + o.left), .int .i64 lo] ∧ Below N1 wo V) ⟨HO2.out.mods ((Mods.refl (fun q => q = N1) _).setCell (⟨N1, 1, none⟩ : Addr) (.inl rfl) _) (fun e => HN12.out e.symm), HO.out.set 1 _, HBV.out.setCell (p := ⟨N1, 1, none⟩) (Nat.le_refl _) _⟩ ?_
                clear hoc hoc2 hz hl HO HO2 HBV
                rintro V ⟨hO2, hO, hBV⟩
                have hoc := hO.cell
                have hoc2 := hO2.cell
                have hz := hO.frozen
                have hl := hO.lt
                have HO := Lib.hid hO
                have HO2 := Lib.hid hO2
                have HBV := Lib.hid hBV
                clear hO hO2 hBV
                go_wp2_with fail
                go_roundw
                case rel => exact ⟨j + 1, lp, (lq + o.left), (lo + 1), by omega, by go_num, HNew.out, HO.out.set 2 _, HBV.out.setCell (p := ⟨N1, 2, none⟩) (Nat.le_refl _) _⟩
                case measure => simp [intOf]; omega
              · rw [if_neg heq] at hps
                have HNew : Hid (passK 1 lim L (j + 1) = ⟨lp, lq, lo⟩) := Lib.hid hps
                have d2 : (o.price == lp) = false := by simp [heq]
                clear hps heq
                go_wp2_with fail
                go_roundw
                case rel => exact ⟨j + 1, lp, lq, lo, by omega, by go_num, HNew.out, HO.out, HBV.out⟩
                case measure => simp [intOf]; omega
        · obtain rfl : j = n := by omega
          have hpl : pasL 1 lim L = ⟨lp, lq, lo⟩ := by
            rw [← HPK.out]
            unfold passK pasL
            rw [List.take_of_length_le (by rw [HNN.out]; exact Nat.le_refl _)]
          have hrow : wr.ownsRow w.heap.size 132 3 (.slice Ao k co) k ((M.take k).flatMap lvC) := own_mods HOw.out (Below.mods_ hBx2 (fun _ => False)) (fun _ _ h => h)
          have HRow := Lib.hid hrow
          have HBw := Lib.hid hBw
          clear hrow hw hBx hBx2 hBw hO hpk hbq
          cases hm : M[k]? with
          | none =>
            have e := HD.out.1 hm
            rw [hpl] at e
            have e3 : lo = 0 := congrArg Lv.orders e
            have hkM : M.length ≤ k := List.getElem?_eq_none_iff.1 hm
            have hkM2 : k = M.length := by have := HK.out; omega
            have hte : M.take k = M := List.take_of_length_le hkM
            have HTE := Lib.hid hte
            have HKM := Lib.hid hkM2
            have d0 : (lo == 0) = true := by simp [e3]
            clear e e3 hkM hkM2 hte hm hpl
            go_wp2_with fail
            go_ret
            have hr := HRow.out
            rw [HTE.out] at hr
            rw [← HKM.out]
            exact ⟨_, rfl, hr, HBw.out⟩
          | some x =>
            obtain ⟨e, h1⟩ := HD.out.2 x hm
            rw [hpl] at e
            subst e
            have d0 : (lo == 0) = false := by
              have : ¬ lo = 0 := by simp only at h1; omega
              simp [this]
            have HM := Lib.hid hm
            have hkM := (List.getElem?_eq_some_iff.1 hm).1
            have Hn3 : Hid (k + 1 ≤ 1000000) := Lib.hid (by have := HML.out; omega)
            have Hbs : Hid (w.heap.size ≤ wr.heap.size) := Lib.hid HBw.out.size
            have HKM := Lib.hid hkM
            clear hm hpl h1 hkM
            go_wp2_with (at_builtin; refine append1 rfl (.tmp 114) (.tmp 116) 130 rfl w.heap.size 132 i0 _ 3 24 Try.underlying130 HI.out HZ0.out HZ1.out HZ2.out rfl (by decide) _ k _ rfl (own_mods HRow.out ((Mods.refl (fun _ => False) _).alloc (.cells #[.int .i64 lp, .int .i64 lq, .int .i64 lo] 132)) (fun _ _ => id)) _ [.int .i64 lp, .int .i64 lq, .int .i64 lo] rfl (Ob.new _ 132 [.int .i64 lp, .int .i64 lq, .int .i64 lo]) rfl (by simp [Value.oneCell']) Hn3.out (by decide) (by simp; have := Hbs.out; omega) (fun v5 w5 hown5 hg5 hat5 => ?_); obtain ⟨A5, c5, rfl, -, -, -⟩ := own_shape hown5)
            have hB5 : Below w.heap.size w w5 := Below.grown (HBw.out.alloc HBw.out.size _) hg5 (by simp; have := Hbs.out; omega) (fun q hq => own_block HRow.out q hq)
            have HB5 := Lib.hid hB5
            have HO5 := Lib.hid hown5
            clear hown5 hg5 hat5 hB5
            go_wp2_with fail
            go_roundw
            case rel =>
              refine ⟨k + 1, A5, c5, by have := HKM.out; omega, rfl, ?_, HB5.out⟩
              rw [List.take_add_one, HM.out, List.flatMap_append]
              exact HO5.out
            case measure =>
              have := HKM.out
              simp [lenS]
              omega

set_option maxHeartbeats 6400000 in
set_option maxRecDepth 100000 in
theorem rb80_2 (w : World) (rb : Nat) (v : Value) (L : List Ro) (h : RbAt w rb v L) (hx : RoB L) :
    Calls Try.prog 80 #[.pointer (some ⟨rb, 0, none⟩), .int .i64 2] w fun e w' => ∃ vo, e = .returned vo ∧ w'.ownsRow w.heap.size 132 3 vo (depthM (sideOf 2 L)).length ((depthM (sideOf 2 L)).flatMap lvC) ∧ Below w.heap.size w w' := by
  have hdp := dep_pass 2 L (fun o ho => (hx.x o ho).1)
  have hbn := fun lim => passK_bnd 2 lim L hx.x
  have hML : (depthM (sideOf 2 L)).length ≤ L.length := by
    have h1 := depthM_ok (side := 2) (sideOf_srt 2 L) (fun x hxx => by
      obtain ⟨o, ho, -, h2⟩ := sideOf_mem.1 hxx
      rw [← h2]
      exact (hx.x o ho).1)
    have h2 := depth_len (sideOf 2 L)
    have h3 := (sideOf_perm 2 L).length_eq
    rw [List.length_map] at h3
    have h4 := List.length_filter_le (fun o : Ro => decide (o.side = 2)) L
    omega
  have hn := hx.n
  obtain ⟨A, c, rfl⟩ := h.shape
  obtain ⟨i0, hi0, hz0, hz1, hz2⟩ := info_parts info132
  have HI := Lib.hid hi0
  have HZ0 := Lib.hid hz0
  have HZ1 := Lib.hid hz1
  have HZ2 := Lib.hid hz2
  have H := Lib.hid h
  have HX := Lib.hid hx
  have HDP := Lib.hid hdp
  have HBN := Lib.hid hbn
  obtain ⟨n, hnn⟩ : ∃ n, L.length = n := ⟨_, rfl⟩
  rw [hnn] at hn hML H
  have HNN := Lib.hid hnn
  generalize depthM (sideOf 2 L) = M at *
  have HML := Lib.hid hML
  clear h hx hdp hbn hML hnn hi0 hz0 hz1 hz2
  go_enter Try.func80, Try.ntmps80
  go_wp2_with fail
  go_loopw [5] (fun vo wr => ∃ (k : Nat) (Ao : Option Addr) (co : Nat), k ≤ M.length ∧ vo = .slice Ao k co ∧ wr.ownsRow w.heap.size 132 3 (.slice Ao k co) k ((M.take k).flatMap lvC) ∧ Below w.heap.size w wr) (fun vo _ => M.length + 1 - lenS vo)
  case atStart => exact ⟨0, none, 0, by omega, rfl, own_nil _ _ _ _, Below.refl _ _⟩
  case round =>
    obtain ⟨k, Ao, co, hk, rfl, hown, hB⟩ := hrel
    have HOw := Lib.hid hown
    have HB := Lib.hid hB
    have HK := Lib.hid hk
    clear hown hB
    obtain ⟨lim, hlim⟩ : ∃ lim, limK M k = lim := ⟨_, rfl⟩
    have HLim := Lib.hid hlim
    have hdp := HDP.out k hk
    rw [hlim] at hdp
    have hbn := HBN.out lim
    have HD := Lib.hid hdp
    have HBk := Lib.hid hbn
    clear hlim hdp hbn
    have hkn : k ≤ n := by have := HML.out; omega
    clear hk
    go_upto_region 3 with (fail)
    have hO := Ob.new wr 132 [.int .i64 0, .int .i64 0, .int .i64 0]
    refine cutW (fun Y => Ob Y wr.heap.size 132 [.int .i64 0, .int .i64 0, .int .i64 0] ∧ Below wr.heap.size wr Y) ⟨hO, Below.alloc_set⟩ ?_
    clear hO
    rintro Y ⟨hO, hBY⟩
    have HO := Lib.hid hO
    have HBY := Lib.hid hBY
    clear hO hBY
    obtain ⟨N1, hN1⟩ : ∃ N1, wr.heap.size = N1 := ⟨_, rfl⟩
    rw [hN1] at HO HBY ⊢
    have HN1 := Lib.hid hN1
    clear hN1
    obtain ⟨wo, hwo⟩ : ∃ x : World, x = wr := ⟨_, rfl⟩
    subst hwo
    go_wp2_with fail
    · go_loopw [7] (fun i wx => ∃ (j : Nat) (lp lq lo : Int), j ≤ n ∧ i = .int .i64 j ∧ passK 2 lim L j = ⟨lp, lq, lo⟩ ∧ Ob wx N1 132 [.int .i64 lp, .int .i64 lq, .int .i64 lo] ∧ Below N1 wo wx) (fun i _ => n - (intOf i).toNat)
      case atStart => exact ⟨0, 0, 0, 0, by omega, rfl, rfl, HO.out, HBY.out⟩
      case round =>
        clear HO HBY
        obtain ⟨j, lp, lq, lo, hj, rfl, hpk, hO, hBx⟩ := hrel
        have hBx2 : Below wo.heap.size wo wr := by rw [HN1.out]; exact hBx
        have hBw : Below w.heap.size w wr := HB.out.trans (hBx2.mono HB.out.size)
        have hw := H.out.below hBw
        have hc := hw.ho.cell
        have hoc := hO.cell
        have HPK := Lib.hid hpk
        have HO := Lib.hid hO
        have HBx := Lib.hid hBx
        have hbq := HBk.out j
        rw [hpk] at hbq
        simp only at hbq
        by_cases hlt : j < n
        · obtain ⟨o, ho⟩ : ∃ o, L[j]? = some o := ⟨_, List.getElem?_eq_getElem (by rw [HNN.out]; exact hlt)⟩
          have hw' := hw
          rw [← HNN.out] at hw'
          obtain ⟨g, off, rfl, x0, x1, x2, x3⟩ := hw'.cells ho
          have hps := passK_succ (side := 2) (lim := lim) ho
          rw [hpk] at hps
          have HPS := Lib.hid hps
          have HLo := Lib.hid ho
          have hN1l := hO.lt
          clear hw hw' ho hBw hBx2 hpk hO hBx hps
          go_upto_region 7 with (fail)
          have hO2 := Ob.new wr 129 [.string o.id, .int .i64 o.side, .int .i64 o.left, .int .i64 o.price]
          refine cutW (fun Z => Ob Z wr.heap.size 129 [.string o.id, .int .i64 o.side, .int .i64 o.left, .int .i64 o.price] ∧ Ob Z N1 132 [.int .i64 lp, .int .i64 lq, .int .i64 lo] ∧ Below N1 wo Z ∧ N1 ≠ wr.heap.size) ⟨hO2, HO.out.below Below.alloc_set hN1l, HBx.out.trans ((Below.alloc_set : Below wr.heap.size wr _).mono (by omega)), by omega⟩ ?_
          clear hO2 HO HBx x0 x1 x2 x3 hc hoc
          generalize wr.heap.size = N2 at *
          rintro Z ⟨hO2, hO, hBZ, hN12⟩
          have hoc := hO.cell
          have hoc2 := hO2.cell
          have HO := Lib.hid hO
          have HO2 := Lib.hid hO2
          have HBZ := Lib.hid hBZ
          clear hO hO2 hBZ hN1l
          obtain ⟨b, hb⟩ : ∃ b, (!(decide (o.side = 2) && limB 2 lim o.price)) = b := ⟨_, rfl⟩
          have HBb := Lib.hid hb
          clear hb
          go_cut [66] (fun x V => x = .bool b ∧ Ob V N2 129 [.string o.id, .int .i64 o.side, .int .i64 o.left, .int .i64 o.price] ∧ Ob V N1 132 [.int .i64 lp, .int .i64 lq, .int .i64 lo] ∧ Below N1 wo V)
          case first =>
            have hgen : ∀ q, Ob (Z.drewN q) N2 129 [.string o.id, .int .i64 o.side, .int .i64 o.left, .int .i64 o.price] ∧ Ob (Z.drewN q) N1 132 [.int .i64 lp, .int .i64 lq, .int .i64 lo] ∧ Below N1 wo (Z.drewN q) := fun q => ⟨HO2.out.drewN q, HO.out.drewN q, Below.drewN HBZ.out q⟩
            have HGen := Lib.hid hgen
            clear hgen
            by_cases hs : o.side = 2
            · have d0 : (o.side != 2) = false := by simp [hs]
              have hbb := HBb.out
              rw [decide_eq_true hs, Bool.true_and] at hbb
              have HBb := Lib.hid hbb
              clear hbb hs
              cases k with
              | zero =>
                have e : b = false := by rw [← HBb.out, ← HLim.out]; rfl
                subst e
                go_quiet (fail)
                (try go_wp2_with fail)
                go_meet
                exact ⟨rfl, HGen.out _⟩
              | succ m =>
                obtain ⟨z, hz⟩ : ∃ z, M[m]? = some z := ⟨_, List.getElem?_eq_getElem (by have := HK.out; omega)⟩
                have e1 : lim = some z.price := by rw [← HLim.out]; show (M[m]?).map (·.price) = _; rw [hz]; rfl
                have hrd : Rd Z Ao (m + 1) 3 ((M.take (m + 1)).flatMap lvC) := (Rd.of_own HOw.out).below (by rw [HN1.out]; exact HBZ.out)
                have hzt : (M.take (m + 1))[m]? = some z := by rw [List.getElem?_take_of_lt (by omega)]; exact hz
                obtain ⟨g5, o5, rfl, z0, -, -⟩ := lv_cells hrd (by omega) hzt
                have hw1 : IntKind.i64.wrap (m : Int) = (m : Int) := IntWalk.i64_in _ (by omega)
                have dl : decide (((m + 1 : Nat) : Int) > 0) = true := by simp
                have hbb := HBb.out
                rw [e1] at hbb
                have hbb2 : decide (o.price ≤ z.price) = b := by
                  rw [← hbb]
                  have e9 : limB 2 (some z.price) o.price = decide (z.price < o.price) := by simp [limB, btr]
                  rw [e9]
                  by_cases hh : z.price < o.price
                  · rw [decide_eq_true hh, decide_eq_false (by omega)]; rfl
                  · rw [decide_eq_false hh, decide_eq_true (by omega)]; rfl
                clear hbb hrd hzt hz e1 HLim HBb HD HBk HPK HPS HDP HBN
                cases b with
                | false =>
                  go_quiet (fail)
                  (try go_wp2_with fail)
                  go_meet
                  exact ⟨rfl, HGen.out _⟩
                | true =>
                  go_quiet (fail)
                  (try go_wp2_with fail)
                  go_meet
                  exact ⟨rfl, HGen.out _⟩
            · have d0 : (o.side != 2) = true := by simp [hs]
              have e : b = true := by rw [← HBb.out, decide_eq_false hs]; rfl
              subst e
              clear hs
              go_quiet (fail)
              (try go_wp2_with fail)
              go_meet
              exact ⟨rfl, HGen.out _⟩
          case rest =>
          obtain ⟨rfl, hO2, hO, hBV⟩ := hcut
          clear HO HO2 HBZ hoc hoc2
          have HO := Lib.hid hO
          have HO2 := Lib.hid hO2
          have HBV := Lib.hid hBV
          have hoc := hO.cell
          have hoc2 := hO2.cell
          have hz := hO.frozen
          have hl := hO.lt
          clear hO hO2 hBV
          cases b with
          | true =>
            have hno : passK 2 lim L (j + 1) = ⟨lp, lq, lo⟩ := by
              rw [HPS.out]
              unfold pasU
              rw [if_neg (fun hh => by have := HBb.out; rw [decide_eq_true hh.1, hh.2] at this; cases this)]
            have HNo := Lib.hid hno
            clear hno
            go_wp2_with fail
            go_roundw
            case rel => exact ⟨j + 1, lp, lq, lo, by omega, by go_num, HNo.out, HO.out, HBV.out⟩
            case measure => simp [intOf]; omega
          | false =>
            have hel : o.side = 2 ∧ limB 2 lim o.price = true := by
              have := HBb.out
              simp only [Bool.not_eq_false', Bool.and_eq_true, decide_eq_true_eq] at this
              exact this
            have hps := HPS.out
            unfold pasU at hps
            rw [if_pos hel] at hps
            have hbo := HX.out.x o (List.mem_of_getElem? HLo.out)
            have HN12 := Lib.hid hN12
            have hwq : IntKind.i64.wrap (lq + o.left) = lq + o.left := IntWalk.i64_in _ (by omega)
            have hwl : IntKind.i64.wrap o.left = o.left := IntWalk.i64_in _ (by omega)
            have hwo : IntKind.i64.wrap (lo + 1) = lo + 1 := IntWalk.i64_in _ (by omega)
            have hw1 : IntKind.i64.wrap 1 = 1 := by rfl
            clear hbo hbq hel
            by_cases hfirst : lo = 0 ∨ btr 2 o.price lp = true
            · rw [if_pos hfirst] at hps
              have HNew : Hid (passK 2 lim L (j + 1) = ⟨o.price, o.left, 1⟩) := Lib.hid hps
              have HFi := Lib.hid hfirst
              clear hps hfirst
              go_upto_region 8 with (fail)
              go_cut [91] (fun x V => x = .bool true ∧ Ob V N2 129 [.string o.id, .int .i64 o.side, .int .i64 o.left, .int .i64 o.price] ∧ Ob V N1 132 [.int .i64 lp, .int .i64 lq, .int .i64 lo] ∧ Below N1 wo V)
              case first =>
                by_cases h0 : lo = 0
                · have d0 : (lo == 0) = true := by simp [h0]
                  clear h0
                  go_wp2_with fail
                  go_meet
                  exact ⟨rfl, HO2.out, HO.out, HBV.out⟩
                · have d0 : (lo == 0) = false := by simp [h0]
                  have hb2 : o.price < lp := by
                    rcases HFi.out with h1 | h1
                    · exact absurd h1 h0
                    · simpa [btr] using h1
                  have d1 : decide (o.price < lp) = true := decide_eq_true hb2
                  clear h0 hb2
                  go_wp2_with fail
                  go_meet
                  exact ⟨rfl, HO2.out, HO.out, HBV.out⟩
              case rest =>
              obtain ⟨rfl, hO2, hO, hBV⟩ := hcut
              clear hoc hoc2 hz hl HO HO2 HBV
              have hoc := hO.cell
              have hoc2 := hO2.cell
              have hz := hO.frozen
              have hl := hO.lt
              have HO := Lib.hid hO
              have HO2 := Lib.hid hO2
              have HBV := Lib.hid hBV
              clear hO hO2 hBV
              go_upto_region 10 with (fail)
              refine cutW (fun V => Ob V N2 129 [.string o.id, .int .i64 o.side, .int .i64 o.left, .int .i64 o.price] ∧ Ob V N1 132 [.int .i64 o.price, .int .i64 0, .int .i64 0] ∧ Below N1 wo V) ⟨HO2.out.mods ((((Mods.refl (fun q => q = N1) _).setCell (⟨N1, 0, none⟩ : Addr) (.inl rfl) _).setCell (⟨N1, 1, none⟩ : Addr) (.inl rfl) _).setCell (⟨N1, 2, none⟩ : Addr) (.inl rfl) _) (fun e => HN12.out e.symm), ((HO.out.set 0 _).set 1 _).set 2 _, ((HBV.out.setCell (p := ⟨N1, 0, none⟩) (Nat.le_refl _) _).setCell (p := ⟨N1, 1, none⟩) (Nat.le_refl _) _).setCell (p := ⟨N1, 2, none⟩) (Nat.le_refl _) _⟩ ?_
              clear hoc hoc2 hz hl HO HO2 HBV
              rintro V ⟨hO2, hO, hBV⟩
              have hoc := hO.cell
              have hoc2 := hO2.cell
              have hz := hO.frozen
              have hl := hO.lt
              have HO := Lib.hid hO
              have HO2 := Lib.hid hO2
              have HBV := Lib.hid hBV
              clear hO hO2 hBV
              go_upto_region 12 with (fail)
              refine cutW (fun V => Ob V N2 129 [.string o.id, .int .i64 o.side, .int .i64 o.left, .int .i64 o.price] ∧ Ob V N1 132 [.int .i64 o.price, .int .i64 o.left, .int .i64 0] ∧ Below N1 wo V) ⟨HO2.out.mods ((Mods.refl (fun q => q = N1) _).setCell (⟨N1, 1, none⟩ : Addr) (.inl rfl) _) (fun e => HN12.out e.symm), HO.out.set 1 _, HBV.out.setCell (p := ⟨N1, 1, none⟩) (Nat.le_refl _) _⟩ ?_
              clear hoc hoc2 hz hl HO HO2 HBV
              rintro V ⟨hO2, hO, hBV⟩
              have hoc := hO.cell
              have hoc2 := hO2.cell
              have hz := hO.frozen
              have hl := hO.lt
              have HO := Lib.hid hO
              have HO2 := Lib.hid hO2
              have HBV := Lib.hid hBV
              clear hO hO2 hBV
              go_wp2_with fail
              go_roundw
              case rel => exact ⟨j + 1, o.price, o.left, 1, by omega, by go_num, HNew.out, HO.out.set 2 _, HBV.out.setCell (p := ⟨N1, 2, none⟩) (Nat.le_refl _) _⟩
              case measure => simp [intOf]; omega
            · rw [if_neg hfirst] at hps
              have d0 : (lo == 0) = false := by
                have : ¬ lo = 0 := fun e => hfirst (.inl e)
                simp [this]
              have d1 : decide (o.price < lp) = false := by
                have : ¬ btr 2 o.price lp = true := fun e => hfirst (.inr e)
                simpa [btr] using this
              clear hfirst
              by_cases heq : o.price = lp
              · rw [if_pos heq] at hps
                have HNew : Hid (passK 2 lim L (j + 1) = ⟨lp, lq + o.left, lo + 1⟩) := Lib.hid hps
                have d2 : (o.price == lp) = true := by simp [heq]
                clear hps heq
                go_upto_region 12 with (fail)
                refine cutW (fun V => Ob V N2 129 [.string o.id, .int .i64 o.side, .int .i64 o.left, .int .i64 o.price] ∧ Ob V N1 132 [.int .i64 lp, .int .i64 (lq + o.left), .int .i64 lo] ∧ Below N1 wo V) ⟨HO2.out.mods ((Mods.refl (fun q => q = N1) _).setCell (⟨N1, 1, none⟩ : Addr) (.inl rfl) _) (fun e => HN12.out e.symm), HO.out.set 1 _, HBV.out.setCell (p := ⟨N1, 1, none⟩) (Nat.le_refl _) _⟩ ?_
                clear hoc hoc2 hz hl HO HO2 HBV
                rintro V ⟨hO2, hO, hBV⟩
                have hoc := hO.cell
                have hoc2 := hO2.cell
                have hz := hO.frozen
                have hl := hO.lt
                have HO := Lib.hid hO
                have HO2 := Lib.hid hO2
                have HBV := Lib.hid hBV
                clear hO hO2 hBV
                go_wp2_with fail
                go_roundw
                case rel => exact ⟨j + 1, lp, (lq + o.left), (lo + 1), by omega, by go_num, HNew.out, HO.out.set 2 _, HBV.out.setCell (p := ⟨N1, 2, none⟩) (Nat.le_refl _) _⟩
                case measure => simp [intOf]; omega
              · rw [if_neg heq] at hps
                have HNew : Hid (passK 2 lim L (j + 1) = ⟨lp, lq, lo⟩) := Lib.hid hps
                have d2 : (o.price == lp) = false := by simp [heq]
                clear hps heq
                go_wp2_with fail
                go_roundw
                case rel => exact ⟨j + 1, lp, lq, lo, by omega, by go_num, HNew.out, HO.out, HBV.out⟩
                case measure => simp [intOf]; omega
        · obtain rfl : j = n := by omega
          have hpl : pasL 2 lim L = ⟨lp, lq, lo⟩ := by
            rw [← HPK.out]
            unfold passK pasL
            rw [List.take_of_length_le (by rw [HNN.out]; exact Nat.le_refl _)]
          have hrow : wr.ownsRow w.heap.size 132 3 (.slice Ao k co) k ((M.take k).flatMap lvC) := own_mods HOw.out (Below.mods_ hBx2 (fun _ => False)) (fun _ _ h => h)
          have HRow := Lib.hid hrow
          have HBw := Lib.hid hBw
          clear hrow hw hBx hBx2 hBw hO hpk hbq
          cases hm : M[k]? with
          | none =>
            have e := HD.out.1 hm
            rw [hpl] at e
            have e3 : lo = 0 := congrArg Lv.orders e
            have hkM : M.length ≤ k := List.getElem?_eq_none_iff.1 hm
            have hkM2 : k = M.length := by have := HK.out; omega
            have hte : M.take k = M := List.take_of_length_le hkM
            have HTE := Lib.hid hte
            have HKM := Lib.hid hkM2
            have d0 : (lo == 0) = true := by simp [e3]
            clear e e3 hkM hkM2 hte hm hpl
            go_wp2_with fail
            go_ret
            have hr := HRow.out
            rw [HTE.out] at hr
            rw [← HKM.out]
            exact ⟨_, rfl, hr, HBw.out⟩
          | some x =>
            obtain ⟨e, h1⟩ := HD.out.2 x hm
            rw [hpl] at e
            subst e
            have d0 : (lo == 0) = false := by
              have : ¬ lo = 0 := by simp only at h1; omega
              simp [this]
            have HM := Lib.hid hm
            have hkM := (List.getElem?_eq_some_iff.1 hm).1
            have Hn3 : Hid (k + 1 ≤ 1000000) := Lib.hid (by have := HML.out; omega)
            have Hbs : Hid (w.heap.size ≤ wr.heap.size) := Lib.hid HBw.out.size
            have HKM := Lib.hid hkM
            clear hm hpl h1 hkM
            go_wp2_with (at_builtin; refine append1 rfl (.tmp 114) (.tmp 116) 130 rfl w.heap.size 132 i0 _ 3 24 Try.underlying130 HI.out HZ0.out HZ1.out HZ2.out rfl (by decide) _ k _ rfl (own_mods HRow.out ((Mods.refl (fun _ => False) _).alloc (.cells #[.int .i64 lp, .int .i64 lq, .int .i64 lo] 132)) (fun _ _ => id)) _ [.int .i64 lp, .int .i64 lq, .int .i64 lo] rfl (Ob.new _ 132 [.int .i64 lp, .int .i64 lq, .int .i64 lo]) rfl (by simp [Value.oneCell']) Hn3.out (by decide) (by simp; have := Hbs.out; omega) (fun v5 w5 hown5 hg5 hat5 => ?_); obtain ⟨A5, c5, rfl, -, -, -⟩ := own_shape hown5)
            have hB5 : Below w.heap.size w w5 := Below.grown (HBw.out.alloc HBw.out.size _) hg5 (by simp; have := Hbs.out; omega) (fun q hq => own_block HRow.out q hq)
            have HB5 := Lib.hid hB5
            have HO5 := Lib.hid hown5
            clear hown5 hg5 hat5 hB5
            go_wp2_with fail
            go_roundw
            case rel =>
              refine ⟨k + 1, A5, c5, by have := HKM.out; omega, rfl, ?_, HB5.out⟩
              rw [List.take_add_one, HM.out, List.flatMap_append]
              exact HO5.out
            case measure =>
              have := HKM.out
              simp [lenS]
              omega

end Go.Proofs.Ytjhlaifflhjafaa
