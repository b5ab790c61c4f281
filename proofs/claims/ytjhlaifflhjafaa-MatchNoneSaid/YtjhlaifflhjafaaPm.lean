import Derived.Test.YtjhlaifflhjafaaPl
import Derived.Carry
namespace Go.Proofs.Ytjhlaifflhjafaa
open Go.RowKit

/-- The program's book and the document's, side by side. -/
structure PlAt (w W : World) (mb rb : Nat) (v0 v1 v : Value) (S : Sd) (L : List Ro) : Prop where
  m : MbAt W mb v0 v1 S
  r : RbAt W rb v L
  d : ∀ k, MbS mb v0 v1 k → ¬ RbS rb v k
  hB : Below w.heap.size w W
  b1 : w.heap.size ≤ mb
  b2 : w.heap.size ≤ rb
theorem PlAt.below {w W W' : World} {mb rb : Nat} {v0 v1 v : Value} {S : Sd} {L : List Ro} (h : PlAt w W mb rb v0 v1 v S L) (hb : Below W.heap.size W W') : PlAt w W' mb rb v0 v1 v S L :=
  ⟨h.m.below hb, h.r.below hb, h.d, h.hB.trans (hb.mono h.hB.size), h.b1, h.b2⟩
theorem PlAt.toM {w W W' : World} {mb rb : Nat} {v0 v1 v u0 u1 : Value} {S S' : Sd} {L : List Ro} (h : PlAt w W mb rb v0 v1 v S L) (a : MbAt W' mb u0 u1 S') (b : Mods (MbS mb v0 v1) W W') (c : ∀ k, MbS mb u0 u1 k → MbS mb v0 v1 k ∨ W.heap.size ≤ k) : PlAt w W' mb rb u0 u1 v S' L := by
  refine ⟨a, h.r.mods b (fun k hk hm => h.d k hm hk), fun k hk hr => ?_, Below.mods h.hB b (fun k hk => Nat.le_trans h.b1 (h.m.lt hk).1) h.hB.size, h.b1, h.b2⟩
  rcases c k hk with h2 | h2
  · exact h.d k h2 hr
  · have := (h.r.lt hr).2; omega
theorem PlAt.toR {w W W' : World} {mb rb : Nat} {v0 v1 v u : Value} {S : Sd} {L L' : List Ro} (h : PlAt w W mb rb v0 v1 v S L) (a : RbAt W' rb u L') (b : Mods (RbS rb v) W W') (c : ∀ k, RbS rb u k → RbS rb v k ∨ W.heap.size ≤ k) : PlAt w W' mb rb v0 v1 u S L' := by
  refine ⟨h.m.mods b (fun k hk hr => h.d k hk hr), a, fun k hk hr => ?_, Below.mods h.hB b (fun k hk => Nat.le_trans h.b2 (h.r.lt hk).1) h.hB.size, h.b1, h.b2⟩
  rcases c k hr with h2 | h2
  · exact h.d k hk h2
  · have := (h.m.lt hk).2; omega
/-- An op of the document's. -/
def doR (L : List Ro) (x : MOp) : List Ro :=
  if x.1 = 1 then (addR L x.2.1 x.2.2.1 x.2.2.2.1 x.2.2.2.2).2 else if x.1 = 2 then (canR L x.2.1).2 else if x.1 = 3 then (repR L x.2.1 x.2.2.2.1 x.2.2.2.2).2 else L
theorem do_sim {S : Sd} {L : List Ro} (h : RSim S L) (x : MOp) : RSim (doM S x).2 (doR L x) := by
  unfold doM doR
  split
  · exact (add_sim h _ _ _ _).2
  · split
    · exact (can_sim h _).2
    · split
      · exact (rep_sim h _ _ _).2
      · exact h
theorem RSim.b {S : Sd} {L : List Ro} (h : RSim S L) (hi : MbI S) : RoB L := by
  have hl := h.len
  refine ⟨fun o ho => ?_, by have := hi.n; omega, h.i.s⟩
  rcases h.i.s o ho with hs | hs
  · exact hi.ok.b1 o.mo (by rw [h.s1]; exact sideOf_mem.2 ⟨o, ho, hs, rfl⟩)
  · exact hi.ok.b2 o.mo (by rw [h.s2]; exact sideOf_mem.2 ⟨o, ho, hs, rfl⟩)
/-- What is the books' own. -/
def PlS (mb rb : Nat) (v0 v1 v : Value) (k : Nat) : Prop := MbS mb v0 v1 k ∨ RbS rb v k
def Step (w W : World) (mb rb : Nat) (v0 v1 v : Value) (S : Sd) (L : List Ro) (e : Ending) (w' : World) : Prop := e = .returned (.bool true) ∧ (∃ u0 u1 u, PlAt w w' mb rb u0 u1 u S L) ∧ Mods (PlS mb rb v0 v1 v) W w'
theorem mods_trans2 {T T1 : Nat → Prop} {a b c : World} (h : Mods T a b) (k : Mods T1 b c) (hs : ∀ i, T1 i → T i) : Mods T a c := h.trans (k.mono (fun i _ hi => hs i hi))

set_option maxHeartbeats 3200000 in
set_option maxRecDepth 100000 in
theorem step44_1 (w W : World) (mb rb : Nat) (v0 v1 v : Value) (S : Sd) (L : List Ro) (h : PlAt w W mb rb v0 v1 v S L) (hi : MbI S) (hs : RSim S L) (nm : ByteArray) (hnm : nm.size ≤ 100) (sd qt pr : Int) :
    Calls Try.prog 44 #[.pointer (some ⟨mb, 0, none⟩), .pointer (some ⟨rb, 0, none⟩), .agg #[.int .i64 1, .string nm, .int .i64 sd, .int .i64 qt, .int .i64 pr]] W fun e W' => Step w W mb rb v0 v1 v (addM S nm sd qt pr).2 (addR L nm sd qt pr).2 e W' := by
  have hsim := add_sim hs nm sd qt pr
  have hob := hs.b hi
  have hn := hi.n
  have H := Lib.hid h
  have HI := Lib.hid hi
  have HOB := Lib.hid hob
  obtain ⟨⟨⟨ts, er⟩, S2⟩, hD⟩ : ∃ D, addM S nm sd qt pr = D := ⟨_, rfl⟩
  obtain ⟨⟨⟨ts', er'⟩, L2⟩, hE⟩ : ∃ E, addR L nm sd qt pr = E := ⟨_, rfl⟩
  rw [hD, hE] at hsim ⊢
  have he := hsim.1
  simp only at he
  injection he with he1 he2
  subst he1 he2
  have HD := Lib.hid hD
  have HE := Lib.hid hE
  have HN : Hid (nm.size ≤ 70368744177664) := Lib.hid (by omega)
  clear h hi hs hsim hob hD hE hnm
  go_enter Try.func44, Try.ntmps44
  go_upto_region 1 with (fail)
  have hO := Ob.new W 90 [.int .i64 1, .string nm, .int .i64 sd, .int .i64 qt, .int .i64 pr]
  refine cutW (fun V => Ob V W.heap.size 90 [.int .i64 1, .string nm, .int .i64 sd, .int .i64 qt, .int .i64 pr] ∧ PlAt w V mb rb v0 v1 v S L ∧ Mods (PlS mb rb v0 v1 v) W V) ⟨hO, H.out.below Below.alloc_set, Below.mods_ Below.alloc_set _⟩ ?_
  clear hO
  rintro V ⟨hO, hP, hWV⟩
  have HWV := Lib.hid hWV
  clear hWV
  have HNM : Hid (∀ k, MbS mb v0 v1 k → k ≠ W.heap.size) := Lib.hid (fun k hk e => by have := (H.out.m.lt hk).2; omega)
  have HNR : Hid (∀ k, RbS rb v k → k ≠ W.heap.size) := Lib.hid (fun k hk e => by have := (H.out.r.lt hk).2; omega)
  generalize W.heap.size = N at *
  have hoc := hO.cell
  have HO := Lib.hid hO
  have HP := Lib.hid hP
  have HP0 := Lib.hid hP
  have h34 := mo34 V mb v0 v1 S hP.m HI.out.ok nm sd qt pr
  rw [HD.out] at h34
  have H34 := Lib.hid h34
  clear hO hP h34
  go_upto_region 4 with (go_at_call 34; refine H34.out.mono ?_; rintro e V1 ⟨vt, rfl, hown, u0, u1, q1, q2, q3⟩)
  have hO1 := HO.out.mods q2 (fun hk => HNM.out _ hk rfl)
  have hP1 := HP.out.toM q1 q2 q3
  have hoc1 := hO1.cell
  obtain ⟨At, ct, rfl, -, -, -⟩ := own_shape hown
  have HOw := Lib.hid hown
  have HO1 := Lib.hid hO1
  have HP1 := Lib.hid hP1
  have h75 := rb75 V1 rb v L hP1.r HOB.out nm HN.out sd qt pr
  rw [HE.out] at h75
  have H75 := Lib.hid h75
  have Hsz := Lib.hid q2.size
  have HQ2 := Lib.hid q2
  clear hoc hO1 hP1 hown q1 q2 q3 h75 HO HP H34
  go_upto_region 5 with (go_at_call 75; refine H75.out.mono ?_; rintro e V2 ⟨vu, rfl, hown2, u, p1, p2, p3⟩)
  have hP2 := HP1.out.toR p1 p2 p3
  obtain ⟨Au, cu, rfl, hr2, -, -⟩ := own_shape hown2
  have hr1 : Rd V2 At ts.length 4 (ts.flatMap trC) := Rd.of_own (own_mods HOw.out p2 (fun k hk hr => by
    have h1 := own_block HOw.out k hk
    have h2 := (HP0.out.r.lt hr).2
    omega))
  have h76 := tr76 V2 At Au ts.length ct cu ts hr1 hr2 rfl
  have H76 := Lib.hid h76
  have HP2 := Lib.hid hP2
  have HPm := Lib.hid p2
  clear hr1 hr2 h76 hP2 hown2 p1 p2 p3 hoc1
  have hee : (er == er) = true := by simp
  go_wp2_with (go_at_call 76; refine H76.out.mono ?_; rintro e V3 ⟨rfl, hb3⟩)
  go_ret
  exact ⟨rfl, ⟨u0, u1, u, HP2.out.below hb3⟩, mods_trans2 (mods_trans2 (mods_trans2 HWV.out HQ2.out (fun _ h => .inl h)) HPm.out (fun _ h => .inr h)) (Below.mods_ hb3 (fun _ => False)) (fun _ h => h.elim)⟩

set_option maxHeartbeats 3200000 in
set_option maxRecDepth 100000 in
theorem step44_3 (w W : World) (mb rb : Nat) (v0 v1 v : Value) (S : Sd) (L : List Ro) (h : PlAt w W mb rb v0 v1 v S L) (hi : MbI S) (hs : RSim S L) (nm : ByteArray) (hnm : nm.size ≤ 100) (sd qt pr : Int) :
    Calls Try.prog 44 #[.pointer (some ⟨mb, 0, none⟩), .pointer (some ⟨rb, 0, none⟩), .agg #[.int .i64 3, .string nm, .int .i64 sd, .int .i64 qt, .int .i64 pr]] W fun e W' => Step w W mb rb v0 v1 v (repM S nm qt pr).2 (repR L nm qt pr).2 e W' := by
  have hsim := rep_sim hs nm qt pr
  have hob := hs.b hi
  have hn := hi.n
  have H := Lib.hid h
  have HI := Lib.hid hi
  have HOB := Lib.hid hob
  obtain ⟨⟨⟨ts, er⟩, S2⟩, hD⟩ : ∃ D, repM S nm qt pr = D := ⟨_, rfl⟩
  obtain ⟨⟨⟨ts', er'⟩, L2⟩, hE⟩ : ∃ E, repR L nm qt pr = E := ⟨_, rfl⟩
  rw [hD, hE] at hsim ⊢
  have he := hsim.1
  simp only at he
  injection he with he1 he2
  subst he1 he2
  have HD := Lib.hid hD
  have HE := Lib.hid hE
  have HN : Hid (nm.size ≤ 70368744177664) := Lib.hid (by omega)
  clear h hi hs hsim hob hD hE hnm
  go_enter Try.func44, Try.ntmps44
  go_upto_region 1 with (fail)
  have hO := Ob.new W 90 [.int .i64 3, .string nm, .int .i64 sd, .int .i64 qt, .int .i64 pr]
  refine cutW (fun V => Ob V W.heap.size 90 [.int .i64 3, .string nm, .int .i64 sd, .int .i64 qt, .int .i64 pr] ∧ PlAt w V mb rb v0 v1 v S L ∧ Mods (PlS mb rb v0 v1 v) W V) ⟨hO, H.out.below Below.alloc_set, Below.mods_ Below.alloc_set _⟩ ?_
  clear hO
  rintro V ⟨hO, hP, hWV⟩
  have HWV := Lib.hid hWV
  clear hWV
  have HNM : Hid (∀ k, MbS mb v0 v1 k → k ≠ W.heap.size) := Lib.hid (fun k hk e => by have := (H.out.m.lt hk).2; omega)
  have HNR : Hid (∀ k, RbS rb v k → k ≠ W.heap.size) := Lib.hid (fun k hk e => by have := (H.out.r.lt hk).2; omega)
  generalize W.heap.size = N at *
  have hoc := hO.cell
  have HO := Lib.hid hO
  have HP := Lib.hid hP
  have HP0 := Lib.hid hP
  have h34 := mo47 V mb v0 v1 S hP.m (by omega) HI.out.ok nm qt pr
  rw [HD.out] at h34
  have H34 := Lib.hid h34
  clear hO hP h34
  go_upto_region 12 with (go_at_call 47; refine H34.out.mono ?_; rintro e V1 ⟨vt, rfl, hown, u0, u1, q1, q2, q3⟩)
  have hO1 := HO.out.mods q2 (fun hk => HNM.out _ hk rfl)
  have hP1 := HP.out.toM q1 q2 q3
  have hoc1 := hO1.cell
  obtain ⟨At, ct, rfl, -, -, -⟩ := own_shape hown
  have HOw := Lib.hid hown
  have HO1 := Lib.hid hO1
  have HP1 := Lib.hid hP1
  have h75 := rb78 V1 rb v L hP1.r HOB.out nm qt pr
  rw [HE.out] at h75
  have H75 := Lib.hid h75
  have Hsz := Lib.hid q2.size
  have HQ2 := Lib.hid q2
  clear hoc hO1 hP1 hown q1 q2 q3 h75 HO HP H34
  go_upto_region 13 with (go_at_call 78; refine H75.out.mono ?_; rintro e V2 ⟨vu, rfl, hown2, u, p1, p2, p3⟩)
  have hP2 := HP1.out.toR p1 p2 p3
  obtain ⟨Au, cu, rfl, hr2, -, -⟩ := own_shape hown2
  have hr1 : Rd V2 At ts.length 4 (ts.flatMap trC) := Rd.of_own (own_mods HOw.out p2 (fun k hk hr => by
    have h1 := own_block HOw.out k hk
    have h2 := (HP0.out.r.lt hr).2
    omega))
  have h76 := tr76 V2 At Au ts.length ct cu ts hr1 hr2 rfl
  have H76 := Lib.hid h76
  have HP2 := Lib.hid hP2
  have HPm := Lib.hid p2
  clear hr1 hr2 h76 hP2 hown2 p1 p2 p3 hoc1
  have hee : (er == er) = true := by simp
  go_wp2_with (go_at_call 76; refine H76.out.mono ?_; rintro e V3 ⟨rfl, hb3⟩)
  go_ret
  exact ⟨rfl, ⟨u0, u1, u, HP2.out.below hb3⟩, mods_trans2 (mods_trans2 (mods_trans2 HWV.out HQ2.out (fun _ h => .inl h)) HPm.out (fun _ h => .inr h)) (Below.mods_ hb3 (fun _ => False)) (fun _ h => h.elim)⟩

set_option maxHeartbeats 3200000 in
set_option maxRecDepth 100000 in
theorem step44_2 (w W : World) (mb rb : Nat) (v0 v1 v : Value) (S : Sd) (L : List Ro) (h : PlAt w W mb rb v0 v1 v S L) (hi : MbI S) (hs : RSim S L) (nm : ByteArray) (sd qt pr : Int) :
    Calls Try.prog 44 #[.pointer (some ⟨mb, 0, none⟩), .pointer (some ⟨rb, 0, none⟩), .agg #[.int .i64 2, .string nm, .int .i64 sd, .int .i64 qt, .int .i64 pr]] W fun e W' => Step w W mb rb v0 v1 v (canM S nm).2 (canR L nm).2 e W' := by
  have hsim := can_sim hs nm
  have hn := hi.n
  have H := Lib.hid h
  obtain ⟨⟨⟨nn, er⟩, S2⟩, hD⟩ : ∃ D, canM S nm = D := ⟨_, rfl⟩
  obtain ⟨⟨⟨nn', er'⟩, L2⟩, hE⟩ : ∃ E, canR L nm = E := ⟨_, rfl⟩
  rw [hD, hE] at hsim ⊢
  have he := hsim.1
  simp only at he
  injection he with he1 he2
  subst he1 he2
  have HD := Lib.hid hD
  have HE := Lib.hid hE
  clear h hi hs hsim hD hE
  go_enter Try.func44, Try.ntmps44
  go_upto_region 1 with (fail)
  have hO := Ob.new W 90 [.int .i64 2, .string nm, .int .i64 sd, .int .i64 qt, .int .i64 pr]
  refine cutW (fun V => Ob V W.heap.size 90 [.int .i64 2, .string nm, .int .i64 sd, .int .i64 qt, .int .i64 pr] ∧ PlAt w V mb rb v0 v1 v S L ∧ Mods (PlS mb rb v0 v1 v) W V) ⟨hO, H.out.below Below.alloc_set, Below.mods_ Below.alloc_set _⟩ ?_
  clear hO
  rintro V ⟨hO, hP, hWV⟩
  have HWV := Lib.hid hWV
  clear hWV
  have HNM : Hid (∀ k, MbS mb v0 v1 k → k ≠ W.heap.size) := Lib.hid (fun k hk e => by have := (H.out.m.lt hk).2; omega)
  generalize W.heap.size = N at *
  have hoc := hO.cell
  have HO := Lib.hid hO
  have HP := Lib.hid hP
  have h46 := mo46 V mb v0 v1 S hP.m (by omega) nm
  rw [HD.out] at h46
  have H46 := Lib.hid h46
  clear hO hP h46
  go_upto_region 8 with (go_at_call 46; refine H46.out.mono ?_; rintro e V1 ⟨rfl, u0, u1, q1, q2, q3⟩)
  have hO1 := HO.out.mods q2 (fun hk => HNM.out _ hk rfl)
  have hP1 := HP.out.toM q1 q2 q3
  have hoc1 := hO1.cell
  have HP1 := Lib.hid hP1
  have HQ2 := Lib.hid q2
  have h77 := rb77 V1 rb v L hP1.r nm
  rw [HE.out] at h77
  have H77 := Lib.hid h77
  clear hoc hO1 hP1 q1 q2 q3 h77 HO HP H46
  go_upto_region 9 with (go_at_call 77; refine H77.out.mono ?_; rintro e V2 ⟨rfl, u, p1, p2, p3⟩)
  have hP2 := HP1.out.toR p1 p2 p3
  have HP2 := Lib.hid hP2
  have HPm := Lib.hid p2
  clear hP2 p1 p2 p3 hoc1
  have hee : (er == er) = true := by simp
  have hnn : (nn == nn) = true := by simp
  go_wp2_with fail
  go_ret
  exact ⟨rfl, ⟨u0, u1, u, HP2.out⟩, mods_trans2 (mods_trans2 HWV.out HQ2.out (fun _ h => .inl h)) HPm.out (fun _ h => .inr h)⟩

set_option maxHeartbeats 3200000 in
set_option maxRecDepth 100000 in
theorem step44_0 (w W : World) (mb rb : Nat) (v0 v1 v : Value) (S : Sd) (L : List Ro) (h : PlAt w W mb rb v0 v1 v S L) (kd : Int) (k1 : kd ≠ 1) (k2 : kd ≠ 2) (k3 : kd ≠ 3) (nm : ByteArray) (sd qt pr : Int) :
    Calls Try.prog 44 #[.pointer (some ⟨mb, 0, none⟩), .pointer (some ⟨rb, 0, none⟩), .agg #[.int .i64 kd, .string nm, .int .i64 sd, .int .i64 qt, .int .i64 pr]] W fun e W' => Step w W mb rb v0 v1 v S L e W' := by
  have H := Lib.hid h
  have d1 : (kd == 1) = false := by simpa using k1
  have d2 : (kd == 2) = false := by simpa using k2
  have d3 : (kd == 3) = false := by simpa using k3
  clear h k1 k2 k3
  go_enter Try.func44, Try.ntmps44
  go_upto_region 1 with (fail)
  have hO := Ob.new W 90 [.int .i64 kd, .string nm, .int .i64 sd, .int .i64 qt, .int .i64 pr]
  refine cutW (fun V => Ob V W.heap.size 90 [.int .i64 kd, .string nm, .int .i64 sd, .int .i64 qt, .int .i64 pr] ∧ PlAt w V mb rb v0 v1 v S L ∧ Mods (PlS mb rb v0 v1 v) W V) ⟨hO, H.out.below Below.alloc_set, Below.mods_ Below.alloc_set _⟩ ?_
  clear hO
  rintro V ⟨hO, hP, hWV⟩
  have HWV := Lib.hid hWV
  clear hWV
  generalize W.heap.size = N at *
  have hoc := hO.cell
  have HP := Lib.hid hP
  clear hO hP
  go_wp2_with fail
  go_ret
  exact ⟨rfl, ⟨v0, v1, v, HP.out⟩, HWV.out⟩

theorem step44 (w W : World) (mb rb : Nat) (v0 v1 v : Value) (S : Sd) (L : List Ro) (h : PlAt w W mb rb v0 v1 v S L) (hi : MbI S) (hs : RSim S L) (kd : Int) (nm : ByteArray) (hnm : nm.size ≤ 100) (sd qt pr : Int) :
    Calls Try.prog 44 #[.pointer (some ⟨mb, 0, none⟩), .pointer (some ⟨rb, 0, none⟩), .agg #[.int .i64 kd, .string nm, .int .i64 sd, .int .i64 qt, .int .i64 pr]] W fun e W' => Step w W mb rb v0 v1 v (doM S (kd, nm, sd, qt, pr)).2 (doR L (kd, nm, sd, qt, pr)) e W' := by
  unfold doM doR
  simp only
  by_cases k1 : kd = 1
  · subst k1
    exact step44_1 w W mb rb v0 v1 v S L h hi hs nm hnm sd qt pr
  · rw [if_neg k1, if_neg k1]
    by_cases k2 : kd = 2
    · subst k2
      exact step44_2 w W mb rb v0 v1 v S L h hi hs nm sd qt pr
    · rw [if_neg k2, if_neg k2]
      by_cases k3 : kd = 3
      · subst k3
        exact step44_3 w W mb rb v0 v1 v S L h hi hs nm hnm sd qt pr
      · rw [if_neg k3, if_neg k3]
        exact step44_0 w W mb rb v0 v1 v S L h kd k1 k2 k3 nm sd qt pr

end Go.Proofs.Ytjhlaifflhjafaa
