import Derived.Test.YteggpdhkpmkldaaQt
namespace Go.Proofs.Yteggpdhkpmkldaa
open Go.RowKit

theorem eq128 (w : World) (a0 a1 b0 b1 a4 b4 a5 b5 a6 b6 : Int) (a2 b2 a3 b3 : ByteArray) : (Op.equalIn 10000 128 (.agg #[.int .i64 a0, .int .i64 a1, .string a2, .string a3, .int .i64 a4, .int .i64 a5, .int .i64 a6]) (.agg #[.int .i64 b0, .int .i64 b1, .string b2, .string b3, .int .i64 b4, .int .i64 b5, .int .i64 b6])).run Try.prog w = .ok (a0 == b0 && (a1 == b1 && (a2.toList == b2.toList && (a3.toList == b3.toList && (a4 == b4 && (a5 == b5 && (a6 == b6 && true))))))) w :=
  eqA_of Try.underlying128 (by kernel_rfl) (eqf_cons (by rfl) (by kernel_rfl) (by kernel_rfl) (eqI (k := .i64) Try.underlying3)
    (eqf_cons (by rfl) (by kernel_rfl) (by kernel_rfl) (eqI (k := .i64) Try.underlying3)
    (eqf_cons (by rfl) (by kernel_rfl) (by kernel_rfl) (run_equalIn_string w _ _ _ _ Try.underlying9)
    (eqf_cons (by rfl) (by kernel_rfl) (by kernel_rfl) (run_equalIn_string w _ _ _ _ Try.underlying9)
    (eqf_cons (by rfl) (by kernel_rfl) (by kernel_rfl) (eqI (k := .i64) Try.underlying3)
    (eqf_cons (by rfl) (by kernel_rfl) (by kernel_rfl) (eqI (k := .i64) Try.underlying3)
    (eqf_cons (by rfl) (by kernel_rfl) (by kernel_rfl) (eqI (k := .i64) Try.underlying3) eqf_nil)))))))
theorem eql128_same (a0 a1 a4 a5 a6 : Int) (a2 a3 : ByteArray) : ∀ w, (binOp .eql 128 (.agg #[.int .i64 a0, .int .i64 a1, .string a2, .string a3, .int .i64 a4, .int .i64 a5, .int .i64 a6]) (.agg #[.int .i64 a0, .int .i64 a1, .string a2, .string a3, .int .i64 a4, .int .i64 a5, .int .i64 a6])).run Try.prog w = .ok (.bool true) w := by
  intro w; rw [run_eql_struct, eq128]; simp
theorem guard128 : Try.prog.eqGuardType Try.prog.depth 128 = false := by kernel_rfl

theorem sndR_len (R out : Nat) (L : List Od) (down : Bool) (o : Od) : L.length ≤ (sndR R out L down o).2.length ∧ (sndR R out L down o).2.length ≤ L.length + 1 := by
  unfold sndR
  split
  · split
    · simp
    · split <;> simp
  · simp

/-- SessionPlays' loop: the program's session and the document's. -/
structure SPy (w W : World) (sb rb g R fb : Nat) (v : Value) (L : List Od) (out tk fl : Nat) (down : Bool) (k : Nat) : Prop where
  hs : ∃ first arr, SsAt W sb rb g R first (L.drop out) arr L.length tk fl down
  hf : RfSe W fb v R out tk fl L down
  hb : Below w.heap.size w W
  ho : out ≤ L.length
  hi : L.length ≤ k
  ht : tk ≤ k
  hfl : fl ≤ k
  b1 : w.heap.size ≤ sb
  b2 : w.heap.size ≤ rb
  b3 : w.heap.size ≤ g
  l1 : rb < sb
  l2 : g < sb
  l3 : sb < fb
theorem SPy.hi1 {w W : World} {sb rb g R fb : Nat} {v : Value} {L : List Od} {out tk fl : Nat} {down : Bool} {k : Nat} (h : SPy w W sb rb g R fb v L out tk fl down k) : SPy w W sb rb g R fb v L out tk fl down (k + 1) :=
  ⟨h.hs, h.hf, h.hb, h.ho, Nat.le_succ_of_le h.hi, Nat.le_succ_of_le h.ht, Nat.le_succ_of_le h.hfl, h.b1, h.b2, h.b3, h.l1, h.l2, h.l3⟩
theorem SPy.below {w W W' : World} {sb rb g R fb : Nat} {v : Value} {L : List Od} {out tk fl : Nat} {down : Bool} {k : Nat} (h : SPy w W sb rb g R fb v L out tk fl down k) (hb : Below W.heap.size W W') : SPy w W' sb rb g R fb v L out tk fl down k :=
  ⟨by obtain ⟨f, a, hs⟩ := h.hs; exact ⟨f, a, hs.below hb⟩, h.hf.below hb, h.hb.trans (hb.mono h.hb.size), h.ho, h.hi, h.ht, h.hfl, h.b1, h.b2, h.b3, h.l1, h.l2, h.l3⟩
theorem SPy.ref {w W W1 : World} {sb rb g R fb : Nat} {v : Value} {L : List Od} {out tk fl : Nat} {down : Bool} {k : Nat} (h : SPy w W sb rb g R fb v L out tk fl down k) {S : Nat → Prop} (hm : Mods S W W1) (hS : ∀ i, S i → i = sb ∨ i = rb ∨ i = g) : RfSe W1 fb v R out tk fl L down := by
  have := h.l1
  have := h.l2
  have := h.l3
  refine h.hf.mods hm (fun hi => by have := hS _ hi; omega) (fun i hi hs => ?_)
  have := own_block h.hf.hown i hi
  have := hS i hs
  omega
theorem SPy.both {w W W1 W2 : World} {sb rb g R fb : Nat} {v v' : Value} {L L' : List Od} {out tk fl out' tk' fl' : Nat} {down down' : Bool} {k : Nat} (h : SPy w W sb rb g R fb v L out tk fl down k) {S T : Nat → Prop}
    (hm1 : Mods S W W1) (hS : ∀ i, S i → i = sb ∨ i = rb ∨ i = g) (hs : ∃ first arr, SsAt W1 sb rb g R first (L'.drop out') arr L'.length tk' fl' down')
    (hm2 : Mods T W1 W2) (hT : ∀ i, T i → i = fb ∨ v.ownBlock = some i) (hf : RfSe W2 fb v' R out' tk' fl' L' down')
    (ho : out' ≤ L'.length) (hi : L'.length ≤ k + 1) (ht : tk' ≤ k + 1) (hfl : fl' ≤ k + 1) : SPy w W2 sb rb g R fb v' L' out' tk' fl' down' (k + 1) := by
  have q1 := h.l1
  have q2 := h.l2
  have q3 := h.l3
  have q4 := h.b1
  have q5 := h.b2
  have q6 := h.b3
  have hob := own_block h.hf.hown
  refine ⟨?_, hf, ?_, ho, hi, ht, hfl, h.b1, h.b2, h.b3, h.l1, h.l2, h.l3⟩
  · obtain ⟨f, a, hs⟩ := hs
    refine ⟨f, a, hs.mods hm2 ?_ ?_ ?_⟩
    all_goals
      intro hi
      rcases hT _ hi with hi | hi
      · omega
      · have := hob _ hi; omega
  · have hB1 : Below w.heap.size w W1 := Below.mods h.hb hm1 (fun i hi => by have := hS i hi; omega) h.hb.size
    refine Below.mods hB1 hm2 (fun i hi => ?_) hB1.size
    rcases hT _ hi with hi | hi
    · omega
    · have := hob _ hi; omega
theorem SPy.lts {w W : World} {sb rb g R fb : Nat} {v : Value} {L : List Od} {out tk fl : Nat} {down : Bool} {k : Nat} (h : SPy w W sb rb g R fb v L out tk fl down k) : sb < W.heap.size ∧ rb < W.heap.size ∧ g < W.heap.size ∧ fb < W.heap.size ∧ (∀ i, v.ownBlock = some i → i < W.heap.size) := by
  obtain ⟨f, a, hs⟩ := h.hs
  exact ⟨hs.hse.ho.lt, hs.hro.ho.lt, hs.hro.hg.lt, h.hf.ho.lt, own_lt h.hf.hown⟩

/-- The step's end. -/
def StepP (w : World) (sb rb g R fb k : Nat) (e : Ending) (W' : World) : Prop := e = .returned (.bool true) ∧ ∃ v' L' out' tk' fl' down', SPy w W' sb rb g R fb v' L' out' tk' fl' down' (k + 1)

set_option maxHeartbeats 8000000 in
set_option maxRecDepth 100000 in
theorem seStep (w W : World) (sb rb g R fb : Nat) (v : Value) (L : List Od) (out tk fl : Nat) (down : Bool) (k : Nat) (h : SPy w W sb rb g R fb v L out tk fl down k) (hk : k ≤ 100) (hR : R ≤ 1024) (xk xn ok os : Int) (oi oy : ByteArray) (od oq op : Int) (hxi : oi.size ≤ 200) (hxy : oy.size ≤ 200) :
    Calls Try.prog 47 #[.pointer (some ⟨sb, 0, none⟩), .pointer (some ⟨fb, 0, none⟩), .agg #[.int .i64 xk, .int .i64 xn, .int .i64 ok, .int .i64 os, .string oi, .string oy, .int .i64 od, .int .i64 oq, .int .i64 op]] W fun e W' => StepP w sb rb g R fb k e W' := by
  obtain ⟨p1, p2, p3, p4, p5⟩ := h.lts
  have q1 := h.l1
  have q2 := h.l2
  have q3 := h.l3
  have hi := h.hi
  have ht := h.ht
  have hfl := h.hfl
  have ho := h.ho
  have H := Lib.hid h
  have P5 := Lib.hid p5
  clear h p5
  go_enter Try.func47, Try.ntmps47
  go_upto_region 1 with (fail)
  have hO := Ob.new W 87 [.int .i64 xk, .int .i64 xn, .int .i64 ok, .int .i64 os, .string oi, .string oy, .int .i64 od, .int .i64 oq, .int .i64 op]
  refine cutW (fun V => SPy w V sb rb g R fb v L out tk fl down k ∧ Ob V W.heap.size 87 [.int .i64 xk, .int .i64 xn, .int .i64 ok, .int .i64 os, .string oi, .string oy, .int .i64 od, .int .i64 oq, .int .i64 op]) ⟨H.out.below Below.alloc_set, hO⟩ ?_
  clear H hO
  rintro V ⟨h, hO⟩
  generalize W.heap.size = N at *
  have hc := hO.cell
  obtain ⟨first, arr, hs⟩ := h.hs
  have H := Lib.hid h
  have HO := Lib.hid hO
  have HS := Lib.hid hs
  clear h hO hs
  by_cases k1 : xk = 1
  · subst k1
    obtain ⟨r, hr⟩ : ∃ r, sndR R out L down ⟨ok, os, oi, oy, od, oq, op⟩ = r := ⟨_, rfl⟩
    have hln := sndR_len R out L down ⟨ok, os, oi, oy, od, oq, op⟩
    have hs1 := seSend' V sb rb g R first L arr out tk fl down HS.out (by omega) ho ⟨ok, os, oi, oy, od, oq, op⟩
    have hs2 := fun V1 hf => rfSend V1 fb v R out tk fl L down hf (by omega) hR ho ⟨ok, os, oi, oy, od, oq, op⟩ (by simp only; omega) (by simp only; omega)
    rw [hr] at hs1 hs2 hln
    obtain ⟨⟨ra, re⟩, L2⟩ := r
    have HS1 : Hid (Calls Try.prog 40 #[.pointer (some ⟨sb, 0, none⟩), .agg #[.int .i64 ok, .int .i64 os, .string oi, .string oy, .int .i64 od, .int .i64 oq, .int .i64 op]] V fun e w' => e = .returned (.tuple #[.int .i64 ra, .int .i64 re]) ∧ ∃ arr', SsAt w' sb rb g R first (L2.drop out) arr' L2.length tk fl down ∧ Mods (fun k => k = sb ∨ k = rb ∨ k = g) V w') := Lib.hid hs1
    have HS2 : Hid (∀ V1, RfSe V1 fb v R out tk fl L down → Calls Try.prog 73 #[.pointer (some ⟨fb, 0, none⟩), .agg #[.int .i64 ok, .int .i64 os, .string oi, .string oy, .int .i64 od, .int .i64 oq, .int .i64 op]] V1 fun e w' => e = .returned (.tuple #[.int .i64 ra, .int .i64 re]) ∧ ∃ v', RfSe w' fb v' R out tk fl L2 down ∧ Mods (fun k => k = fb ∨ v.ownBlock = some k) V1 w') := Lib.hid hs2
    obtain ⟨hln1, hln2⟩ := hln
    simp only at hln1 hln2
    clear hs1 hs2 hr
    go_wp2_with fail
    refine HS1.out.mono ?_
    rintro e w4 ⟨rfl, arr4, h4, hm4⟩
    have hO4 := HO.out.mods hm4 (by omega)
    have hc4 := hO4.cell
    have hf4 := H.out.ref hm4 (fun i hi => hi)
    have H4 := Lib.hid h4
    have HM4 := Lib.hid hm4
    have HF4 := Lib.hid hf4
    clear h4 hm4 hf4 hO4 hc HS1
    go_wp2_with fail
    refine (HS2.out _ HF4.out).mono ?_
    rintro e w5 ⟨rfl, v5, h5, hm5⟩
    have hJ := H.out.both HM4.out (fun i hi => hi) ⟨first, arr4, H4.out⟩ hm5 (fun i hi => hi) h5 (by omega) (by omega) (by omega) (by omega)
    have HJ := Lib.hid hJ
    clear h5 hm5 hJ hc4 HS2
    go_wp2_with fail
    go_ret
    exact ⟨ret_bool (by simp), v5, L2, out, tk, fl, down, HJ.out⟩
  by_cases k2 : xk = 2
  · subst k2
    by_cases he : out = L.length
    · subst he
      have hdr : L.drop L.length = [] := by simp
      have hpp := sePop_empty V sb rb g R first arr L.length tk fl down (by have := HS.out; rwa [hdr] at this)
      have HPp := Lib.hid hpp
      clear hpp hdr
      go_upto_region 8 with (go_at_call 41; refine HPp.out.mono ?_; rintro e w4 ⟨rfl, hb4⟩)
      have hO4 := Ob.new w4 85 [.int .i64 0, .int .i64 0, .string ⟨#[]⟩, .string ⟨#[]⟩, .int .i64 0, .int .i64 0, .int .i64 0]
      refine cutW (fun Z => SPy w Z sb rb g R fb v L L.length tk fl down k ∧ Ob Z w4.heap.size 85 [.int .i64 0, .int .i64 0, .string ⟨#[]⟩, .string ⟨#[]⟩, .int .i64 0, .int .i64 0, .int .i64 0]) ⟨(H.out.below hb4).below Below.alloc_set, hO4⟩ ?_
      clear hb4 hO4 HPp H HO HS hc
      generalize w4.heap.size = N4 at *
      rintro Z ⟨h, hO⟩
      have hpp := rfPop_empty Z fb v R tk fl L down h.hf
      have HPp := Lib.hid hpp
      have H := Lib.hid h
      have HO := Lib.hid hO
      clear hpp h hO
      go_upto_region 9 with (go_at_call 74; refine HPp.out.mono ?_; rintro e w5 ⟨rfl, hb5⟩)
      have hO5 := Ob.new w5 128 [.int .i64 0, .int .i64 0, .string ⟨#[]⟩, .string ⟨#[]⟩, .int .i64 0, .int .i64 0, .int .i64 0]
      refine cutW (fun Z => SPy w Z sb rb g R fb v L L.length tk fl down k ∧ Ob Z N4 85 [.int .i64 0, .int .i64 0, .string ⟨#[]⟩, .string ⟨#[]⟩, .int .i64 0, .int .i64 0, .int .i64 0] ∧ Ob Z w5.heap.size 128 [.int .i64 0, .int .i64 0, .string ⟨#[]⟩, .string ⟨#[]⟩, .int .i64 0, .int .i64 0, .int .i64 0]) ⟨(H.out.below hb5).below Below.alloc_set, (HO.out.below hb5 HO.out.lt).alloc _, hO5⟩ ?_
      clear hb5 hO5 HPp H HO
      generalize w5.heap.size = N5 at *
      rintro U ⟨h, hO, hO5⟩
      have hc4 := hO.cell
      have hc5 := hO5.cell
      have hg := guard128
      have he := eql128_same 0 0 0 0 0 ⟨#[]⟩ ⟨#[]⟩
      have H := Lib.hid h
      clear h hO hO5
      go_wp2_with fail
      go_ret
      exact ⟨rfl, _, _, _, _, _, _, H.out.hi1⟩
    · have hol : out < L.length := by omega
      obtain ⟨y, hy⟩ : ∃ y, L[out]? = some y := ⟨_, List.getElem?_eq_getElem hol⟩
      have hdr : L.drop out = y :: L.drop (out + 1) := by rw [List.drop_eq_getElem_cons hol]; rw [List.getElem?_eq_getElem hol] at hy; injection hy with hy; rw [hy]
      have hpp := sePop_some V sb rb g R first y (L.drop (out + 1)) arr L.length tk fl down (by have := HS.out; rwa [hdr] at this)
      have hpr := fun Z hf => rfPop_some Z fb v R out tk fl L down hf y hy (by omega)
      obtain ⟨yk, ys, yi, yy, yd, yq, yp⟩ := y
      have HPp : Hid (Calls Try.prog 41 #[.pointer (some ⟨sb, 0, none⟩)] V fun e w' => e = .returned (.tuple #[.agg #[.int .i64 yk, .int .i64 ys, .string yi, .string yy, .int .i64 yd, .int .i64 yq, .int .i64 yp], .int .i64 0]) ∧ ∃ first' arr', SsAt w' sb rb g R first' (L.drop (out + 1)) arr' L.length tk fl down ∧ Mods (fun k => k = rb ∨ k = g) V w') := Lib.hid hpp
      have HPr : Hid (∀ Z, RfSe Z fb v R out tk fl L down → Calls Try.prog 74 #[.pointer (some ⟨fb, 0, none⟩)] Z fun e w' => e = .returned (.tuple #[.agg #[.int .i64 yk, .int .i64 ys, .string yi, .string yy, .int .i64 yd, .int .i64 yq, .int .i64 yp], .int .i64 0]) ∧ RfSe w' fb v R (out + 1) tk fl L down ∧ Mods (fun k => k = fb) Z w') := Lib.hid hpr
      clear hpp hpr hdr he hy
      go_upto_region 8 with (go_at_call 41; refine HPp.out.mono ?_; rintro e w4 ⟨rfl, f4, a4, h4, hm4⟩)
      have hO4 := Ob.new w4 85 [.int .i64 yk, .int .i64 ys, .string yi, .string yy, .int .i64 yd, .int .i64 yq, .int .i64 yp]
      have hf4 := H.out.ref hm4 (fun i hi => .inr hi)
      have hm4' := hm4.alloc (.cells #[.int .i64 yk, .int .i64 ys, .string yi, .string yy, .int .i64 yd, .int .i64 yq, .int .i64 yp] 85)
      refine cutW (fun Z => Mods (fun k => k = rb ∨ k = g) V Z ∧ SsAt Z sb rb g R f4 (L.drop (out + 1)) a4 L.length tk fl down ∧ RfSe Z fb v R out tk fl L down ∧ Ob Z w4.heap.size 85 [.int .i64 yk, .int .i64 ys, .string yi, .string yy, .int .i64 yd, .int .i64 yq, .int .i64 yp] ∧ fb < w4.heap.size ∧ (∀ i, v.ownBlock = some i → i < w4.heap.size)) ⟨hm4', h4.below Below.alloc_set, hf4.below Below.alloc_set, hO4, hf4.ho.lt, own_lt hf4.hown⟩ ?_
      clear h4 hm4 hO4 hf4 hm4' HPp HO HS hc
      generalize w4.heap.size = N4 at *
      rintro Z ⟨hm, hs, hf, hO, n1, n2⟩
      have HM := Lib.hid hm
      have HS := Lib.hid hs
      have HF := Lib.hid hf
      have HO := Lib.hid hO
      have N2 := Lib.hid n2
      clear hm hs hf hO n2
      go_upto_region 9 with (go_at_call 74; refine (HPr.out _ HF.out).mono ?_; rintro e w5 ⟨rfl, hf5, hm5⟩)
      have hO5 := Ob.new w5 128 [.int .i64 yk, .int .i64 ys, .string yi, .string yy, .int .i64 yd, .int .i64 yq, .int .i64 yp]
      have hJ := H.out.both HM.out (fun i hi => .inr hi) ⟨f4, a4, HS.out⟩ hm5 (fun i hi => .inl hi) hf5 (by omega) (by omega) (by omega) (by omega)
      refine cutW (fun U => SPy w U sb rb g R fb v L (out + 1) tk fl down (k + 1) ∧ Ob U N4 85 [.int .i64 yk, .int .i64 ys, .string yi, .string yy, .int .i64 yd, .int .i64 yq, .int .i64 yp] ∧ Ob U w5.heap.size 128 [.int .i64 yk, .int .i64 ys, .string yi, .string yy, .int .i64 yd, .int .i64 yq, .int .i64 yp]) ⟨hJ.below Below.alloc_set, (HO.out.mods hm5 (by omega)).alloc _, hO5⟩ ?_
      clear hf5 hm5 hO5 hJ H HM HS HF HO HPr N2
      generalize w5.heap.size = N5 at *
      rintro U ⟨h, hO, hO5⟩
      have hc4 := hO.cell
      have hc5 := hO5.cell
      have hg := guard128
      have he := eql128_same yk ys yd yq yp yi yy
      have H := Lib.hid h
      clear h hO hO5
      go_wp2_with fail
      go_ret
      exact ⟨rfl, _, _, _, _, _, _, H.out⟩
  by_cases k3 : xk = 3
  · subst k3
    obtain ⟨r, hr⟩ : ∃ r, eTake tk xn = r := ⟨_, rfl⟩
    have hs1 := fun V1 hse => seTake V1 sb rb L.length tk fl down hse (by omega) (by omega) xn
    have hs2 := fun V1 hf => rfTake V1 fb v R out tk fl L down hf (by omega) (by omega) xn
    rw [hr] at hs1 hs2
    have hrt : ∃ t : Nat, r.2 = t ∧ t ≤ k + 1 := by
      rw [← hr]; unfold eTake
      split
      · exact ⟨tk, rfl, by omega⟩
      · split
        · exact ⟨tk, rfl, by omega⟩
        · exact ⟨tk + 1, by simp only; omega, by omega⟩
    obtain ⟨ra, rt⟩ := r
    obtain ⟨t, rfl, htk⟩ := hrt
    have hse : ∀ j, SeAt (V.drewN j) sb rb L.length tk fl down := fun j => ⟨HS.out.hse.ho.drewN j⟩
    have hc1 : ∀ j, Calls Try.prog 42 #[.pointer (some ⟨sb, 0, none⟩), .int .i64 xn] (V.drewN j) fun e w' => e = .returned (.int .i64 ra) ∧ SsAt w' sb rb g R first (L.drop out) arr L.length t fl down ∧ Mods (fun k => k = sb) V w' := fun j => (hs1 _ (hse j)).mono fun e w' ⟨he, h1, h2⟩ => ⟨he, ⟨h1, (HS.out.hro.drewN j).mods h2 (by omega) (by omega), HS.out.n1, HS.out.n2⟩, ((Mods.refl _ V).drewN j).trans h2⟩
    have f1 : V.cell? ⟨N, 1, none⟩ = some (.int .i64 xn) := hc 1
    have HC1 := Lib.hid hc1
    have HS2 : Hid (∀ V1, RfSe V1 fb v R out tk fl L down → Calls Try.prog 75 #[.pointer (some ⟨fb, 0, none⟩), .int .i64 xn] V1 fun e w' => e = .returned (.int .i64 ra) ∧ RfSe w' fb v R out t fl L down ∧ Mods (fun k => k = fb) V1 w') := Lib.hid hs2
    clear hs1 hs2 hr hse hc1
    go_upto_region 11 with (fail)
    go_region_held3 (fun w' => w'.cell? ⟨N, 1, none⟩ = some (.int .i64 xn)) (first | exact f1 | exact g1 | exact h1 | go_keep)
      (first
        | (go_at_call 42; refine (HC1.out _).mono ?_; rintro e w4 ⟨rfl, h4, hm4⟩; have g1 := (HO.out.mods hm4 (by omega)).cell 1; have H4 := Lib.hid h4; have HM4 := Lib.hid hm4; clear h4 hm4)
        | (go_at_call 75; refine (HS2.out _ (H.out.ref HM4.out (fun i hi => .inl hi))).mono ?_; rintro e w5 ⟨rfl, h5, hm5⟩; have h1 := ((HO.out.mods HM4.out (by omega)).mods hm5 (by omega)).cell 1; have H5 := Lib.hid h5; have HM5 := Lib.hid hm5; clear h5 hm5))
    have hJ := H.out.both HM4.out (fun i hi => .inl hi) ⟨first, arr, H4.out⟩ HM5.out (fun i hi => .inl hi) H5.out (by omega) (by omega) (by omega) (by omega)
    have HJ := Lib.hid hJ
    clear hJ
    go_wp2_with fail
    go_ret
    exact ⟨ret_bool (by simp), _, _, _, _, _, _, HJ.out⟩
  by_cases k4 : xk = 4
  · subst k4
    go_wp2_with fail
    refine (seFault V sb rb g R first _ arr _ tk fl down HS.out (by omega) (by omega)).mono ?_
    rintro e w4 ⟨⟨u, rfl⟩, h4, hm4⟩
    have hf4 := H.out.ref hm4 (fun i hi => .inl hi)
    have hcf := hf4.ho.cell
    have hzf := hf4.ho.frozen
    have hlf := hf4.ho.lt
    have hwf : IntKind.i64.wrap ((fl : Int) + 1) = (fl : Int) + 1 := by rw [IntWalk.i64_in _ (by omega)]
    have hJ := H.out.both (fl' := fl + 1) hm4 (fun i hi => .inl hi) ⟨first, arr, h4⟩ ((Mods.refl (fun k => k = fb) w4).setCell (⟨fb, 3, none⟩ : Addr) (.inl rfl) (.int .i64 ((fl : Int) + 1))) (fun i hi => .inl hi) (hf4.setS 3 (.int .i64 ((fl : Int) + 1)) rfl) ho (by omega) (by omega) (by omega)
    have HJ := Lib.hid hJ
    clear h4 hm4 hf4 hJ hc
    go_wp2_with fail
    go_ret
    exact ⟨rfl, _, _, _, _, _, _, HJ.out⟩
  by_cases k5 : xk = 5
  · subst k5
    go_wp2_with fail
    refine (seDown V sb rb g R first _ arr _ tk fl down HS.out).mono ?_
    rintro e w4 ⟨⟨u, rfl⟩, h4, hm4⟩
    have hf4 := H.out.ref hm4 (fun i hi => .inl hi)
    have hcf := hf4.ho.cell
    have hzf := hf4.ho.frozen
    have hlf := hf4.ho.lt
    have hJ := H.out.both hm4 (fun i hi => .inl hi) ⟨first, arr, h4⟩ ((Mods.refl (fun k => k = fb) w4).setCell (⟨fb, 5, none⟩ : Addr) (.inl rfl) (.bool true)) (fun i hi => .inl hi) (hf4.setS 5 (.bool true) rfl) ho (by omega) (by omega) (by omega)
    have HJ := Lib.hid hJ
    clear h4 hm4 hf4 hJ hc
    go_wp2_with fail
    go_ret
    exact ⟨rfl, _, _, _, _, _, _, HJ.out⟩
  by_cases k6 : xk = 6
  · subst k6
    go_wp2_with fail
    refine (seUp V sb rb g R first _ arr _ tk fl down HS.out).mono ?_
    rintro e w4 ⟨⟨u, rfl⟩, h4, hm4⟩
    have hf4 := H.out.ref hm4 (fun i hi => .inl hi)
    have hcf := hf4.ho.cell
    have hzf := hf4.ho.frozen
    have hlf := hf4.ho.lt
    have hJ := H.out.both hm4 (fun i hi => .inl hi) ⟨first, arr, h4⟩ ((Mods.refl (fun k => k = fb) w4).setCell (⟨fb, 5, none⟩ : Addr) (.inl rfl) (.bool false)) (fun i hi => .inl hi) (hf4.setS 5 (.bool false) rfl) ho (by omega) (by omega) (by omega)
    have HJ := Lib.hid hJ
    clear h4 hm4 hf4 hJ hc
    go_wp2_with fail
    go_ret
    exact ⟨rfl, _, _, _, _, _, _, HJ.out⟩
  go_wp2_with fail
  go_ret
  exact ⟨rfl, _, _, _, _, _, _, H.out.hi1⟩

end Go.Proofs.Yteggpdhkpmkldaa
