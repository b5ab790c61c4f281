import Derived.Test.YtfmmaigaanikgaaRg
import Derived.Outline
namespace Go.Proofs.Ytfmmaigaanikgaa
open Go.RowKit Go.Shelf

attribute [local go_sem] Oper.semAt_some

set_option maxHeartbeats 400000 in
theorem rAll_any (w : World) (v : Option Addr) : Calls Try.prog 65 #[.pointer v] w fun e w' => e = .returned (.func (.func 66) #[] #[.pointer (some ⟨w.heap.size, 0, none⟩)]) ∧ w' = w.alloc (.cells #[.pointer v] 74) := by
  go_enter Try.func65, Try.ntmps65
  go_wp2_with fail
  go_ret
  exact ⟨rfl, rfl⟩
set_option maxHeartbeats 400000 in
theorem rAll1_none (l Bn : Nat) (v : Option Addr) (W : World) (hBn : W.cell? ⟨Bn, 0, none⟩ = some (.pointer v)) (H : Calls Try.prog 63 #[.pointer v] W fun e w' => e = .returned (.bool false) ∧ W = w') :
    Calls Try.prog 66 #[.func (.yield l) #[] #[], .pointer (some ⟨Bn, 0, none⟩)] W fun e W' => (∃ v, e = .returned v) ∧ W = W' := by
  go_enter Try.func66, Try.ntmps66
  go_wp2_with (go_at_call 63; refine H.mono ?_; rintro e w' ⟨rfl, rfl⟩)
  refine bodyPost_ret (results_none rfl _ _ _) rfl ?_
  exact ⟨⟨_, rfl⟩, rfl⟩

/-- What the iterator of a ring (or of none) gives. -/
def GivesR (n : Nat) (Bn : Nat) (S : Nat → Prop) (xs : List Int) (w : World) : Prop :=
  SeqStopsK Fence.wide n Try.prog 66 #[.pointer (some ⟨Bn, 0, none⟩)] (fun x : Int => #[.int .i64 x]) (KpS S) (fun ys => ys = xs) (fun pre => pre <+: xs) xs.length w
theorem gives_ring (n Bn : Nat) (S : Nat → Prop) (b g R first : Nat) (xs arr : List Int) (w : World) (hS : ∀ k, S k → k < w.heap.size) (hBn : w.cell? ⟨Bn, 0, none⟩ = some (.pointer (some ⟨b, 0, none⟩))) (hR : RIAt w b g R first xs arr) : GivesR n Bn S xs w :=
  fun l J Jx W hW hJ _ hY h0 => callsIn_wide.2 (rAll1 (n - 1) l Bn S b g R first xs arr J Jx W hY hJ (fun k hk => Nat.lt_of_lt_of_le (hS k hk) hW.size) ((hW.cell (p := ⟨Bn, 0, none⟩) (block_lt_of_cell hBn)).trans hBn) (hR.mods (Below.mods_ hW (fun _ => False)) id id) h0)
theorem gives_none (n Bn : Nat) (S : Nat → Prop) (v : Option Addr) (w : World) (hBn : w.cell? ⟨Bn, 0, none⟩ = some (.pointer v)) (H : ∀ W, Below w.heap.size w W → Calls Try.prog 63 #[.pointer v] W fun e w' => e = .returned (.bool false) ∧ W = w') : GivesR n Bn S [] w :=
  fun l J Jx W hW _ _ _ h0 => callsIn_wide.2 ((rAll1_none l Bn v W ((hW.cell (p := ⟨Bn, 0, none⟩) (block_lt_of_cell hBn)).trans hBn) (H W hW)).mono fun e W' ⟨he, hw⟩ => ⟨he, .inl ⟨[], rfl, hw ▸ h0⟩⟩)

/-- told's boxes between two rounds. -/
structure ToldI (w : World) (A : Option Addr) (n c : Nat) (m : Int) (xs : List Int) (pre : List Int) (W : World) : Prop where
  o0 : Ob W w.heap.size 49 [.slice A n c]
  o1 : Ob W (w.heap.size + 1) 3 [.int .i64 m]
  o2 : Ob W (w.heap.size + 2) 4 [.bool false]
  o3 : Ob W (w.heap.size + 3) 3 [.int .i64 pre.length]
  hb : Below w.heap.size w W
  hp : pre <+: xs
structure ToldX (w : World) (xs : List Int) (c : Code) (pre : List Int) (W : World) : Prop where
  hc : c = .ret
  hb : Below w.heap.size w W
  hr : Ob W (w.heap.size + 2) 4 [.bool true] ∨ ¬ pre <+: xs
theorem toldI_own (w : World) (A : Option Addr) (n c : Nat) (m : Int) (xs : List Int) (B : Nat) (hB : w.heap.size + 4 ≤ B) : OwnFrom B (ToldI w A n c m xs) := fun pre W W' row h hg hr =>
  ⟨h.o0.grown hg (fun k e => by have := (hr k e).1; omega), h.o1.grown hg (fun k e => by have := (hr k e).1; omega), h.o2.grown hg (fun k e => by have := (hr k e).1; omega), h.o3.grown hg (fun k e => by have := (hr k e).1; omega),
    h.hb.grown hg (Nat.le_trans (Nat.le_refl _) h.hb.size) (fun k e => by have := (hr k e).1; omega), h.hp⟩
theorem toldX_own (w : World) (xs : List Int) (B : Nat) (hB : w.heap.size + 4 ≤ B) (c : Code) : OwnFrom B (ToldX w xs c) := fun pre W W' row h hg hr =>
  ⟨h.hc, h.hb.grown hg (Nat.le_trans (Nat.le_refl _) h.hb.size) (fun k e => by have := (hr k e).1; omega), h.hr.imp (fun h => h.grown hg (fun k e => by have := (hr k e).1; omega)) id⟩

set_option maxHeartbeats 2000000 in
set_option maxRecDepth 100000 in
theorem rTold (w : World) (v : Option Addr) (A : Option Addr) (n c : Nat) (xs : List Int) (m : Int) (hr : Rd w A n 1 (xs.map (Value.int .i64))) (hn : xs.length = n) (hn9 : n ≤ 1024)
    (hg : ∀ W Bn S, Below w.heap.size w W → (∀ k, S k → k < W.heap.size) → W.cell? ⟨Bn, 0, none⟩ = some (.pointer v) → GivesR 5 Bn S xs W) :
    Calls Try.prog 54 #[.pointer v, .slice A n c, .int .i64 m] w fun e w' => e = .returned (.bool true) ∧ Below w.heap.size w w' := by
  refine (callsIn_wide (n := 6)).1 (callsIn_of_wp_marks Try.func54 rfl trivial ?_)
  simp only [Try.ntmps54, List.size_toArray, List.length_cons, List.length_nil, Nat.reduceAdd, Nat.reduceSub, Array.replicate_succ, Array.replicate_zero, List.push_toArray, List.append_toArray, List.nil_append, List.cons_append]
  refine wpIn_wide.2 ?_
  go_wp2_with (go_at_call 65; refine (rAll_any _ _).mono ?_; rintro e w' ⟨rfl, rfl⟩)
  have HG := Lib.hid hg
  have HR := Lib.hid hr
  have Hn := Lib.hid hn
  clear hg hr hn
  have hI0 : ToldI w A n c m xs [] (((((w.alloc (.cells #[.slice A n c] 49)).alloc (.cells #[.int .i64 m] 3)).alloc (.cells #[.bool false] 4)).alloc (.cells #[.int .i64 0] 3)).alloc (.cells #[.pointer v] 74)) := by
    refine ⟨?_, ?_, ?_, ?_, ?_, List.nil_prefix⟩
    · exact ((((Ob.new w 49 [.slice A n c]).alloc _).alloc _).alloc _).alloc _
    · have := (((Ob.new2 w (.cells #[.slice A n c] 49) 3 [.int .i64 m]).alloc (.cells #[.bool false] 4)).alloc (.cells #[.int .i64 0] 3)).alloc (.cells #[.pointer v] 74); exact this
    · have := ((Ob.new2 (w.alloc (.cells #[.slice A n c] 49)) (.cells #[.int .i64 m] 3) 4 [.bool false]).alloc (.cells #[.int .i64 0] 3)).alloc (.cells #[.pointer v] 74); rw [World.size_alloc] at this; exact this
    · have := (Ob.new2 ((w.alloc (.cells #[.slice A n c] 49)).alloc (.cells #[.int .i64 m] 3)) (.cells #[.bool false] 4) 3 [.int .i64 0]).alloc (.cells #[.pointer v] 74); rw [World.size_alloc, World.size_alloc] at this; exact this
    · exact (((((Below.refl _ w).alloc (Nat.le_refl _) _).alloc (by simp) _).alloc (by simp; omega) _).alloc (by simp; omega) _).alloc (by simp; omega) _
  have hbox : (((((w.alloc (.cells #[.slice A n c] 49)).alloc (.cells #[.int .i64 m] 3)).alloc (.cells #[.bool false] 4)).alloc (.cells #[.int .i64 0] 3)).alloc (.cells #[.pointer v] 74)).cell? ⟨w.heap.size + 1 + 1 + 1 + 1, 0, none⟩ = some (.pointer v) := by
    have := (Ob.new ((((w.alloc (.cells #[.slice A n c] 49)).alloc (.cells #[.int .i64 m] 3)).alloc (.cells #[.bool false] 4)).alloc (.cells #[.int .i64 0] 3)) 74 [.pointer v]).cell 0
    simp only [World.size_alloc] at this
    exact this
  have hsz : (((((w.alloc (.cells #[.slice A n c] 49)).alloc (.cells #[.int .i64 m] 3)).alloc (.cells #[.bool false] 4)).alloc (.cells #[.int .i64 0] 3)).alloc (.cells #[.pointer v] 74)).heap.size = w.heap.size + 5 := by simp
  generalize (((((w.alloc (.cells #[.slice A n c] 49)).alloc (.cells #[.int .i64 m] 3)).alloc (.cells #[.bool false] 4)).alloc (.cells #[.int .i64 0] 3)).alloc (.cells #[.pointer v] 74)) = W5 at *
  refine (wpIn_wide (n := 6)).1 ?_
  refine wpIn_rangeFunc_ownF (F := Fence.wide) (n := 6) rfl (by omega) (gf := 66) (lb := #[.pointer (some ⟨w.heap.size + 1 + 1 + 1 + 1, 0, none⟩)]) rfl trivial (enters_of Try.func66 (by kernel_rfl) rfl)
    (HG.out W5 _ (fun k => k = w.heap.size + 3) hI0.hb (fun k hk => by omega) hbox) (fun h k => h.trans k) (fun W l o o' _ h1 h2 _ => KpS.put _ W l o o' h1 h2) (Below.refl _ _) (fun _ => rfl)
    (ToldI w A n c m xs) (ToldX w xs) (toldI_own w A n c m xs _ (by omega)) (toldX_own w xs _ (by omega)) hI0
    (fun x => { tmps := #[.pointer v, .slice A n c, .int .i64 m, undef, .pointer (some ⟨w.heap.size, 0, none⟩), .pointer (some ⟨w.heap.size + 1, 0, none⟩), .pointer (some ⟨w.heap.size + 1 + 1, 0, none⟩), .pointer (some ⟨w.heap.size + 1 + 1 + 1, 0, none⟩), .int .i64 x, .pointer v, .func (.func 66) #[] #[.pointer (some ⟨w.heap.size + 1 + 1 + 1 + 1, 0, none⟩)], .int .i64 x, undef, undef, undef, undef, undef, undef, undef, undef, undef, undef, undef, undef, undef, undef, undef, undef, undef, undef, undef, undef, undef], defers := [] }) ?assign ?body ?done ?stop
  case assign =>
    intro l x W K hK
    gi_wp2
    exact hK
  case body =>
    rintro l pre x W hI hlen
    have c0 := hI.o0.cell
    have c1 := hI.o1.cell
    have c2 := hI.o2.cell
    have c3 := hI.o3.cell
    have z2 := hI.o2.frozen
    have z3 := hI.o3.frozen
    have HI := Lib.hid hI
    have hpl : pre.length ≤ n := by have := hI.hp.length_le; have := Hn.out; omega
    clear hI
    generalize hq : pre.length = q at *
    have Hq := Lib.hid hq
    clear hq
    by_cases hm : (q : Int) = m
    · subst hm
      gi_wp2
      exact ⟨KeepsOthers.setCell _ _ _, rfl, HI.out.hb.setCell (p := ⟨w.heap.size + 2, 0, none⟩) (by simp) _, .inl (HI.out.o2.set 0 _)⟩
    have hmb : ((q : Int) == m) = false := by simpa using hm
    clear hm
    by_cases hlt : q < n
    · obtain ⟨y, hy⟩ : ∃ y, xs[q]? = some y := ⟨_, List.getElem?_eq_getElem (by have := Hn.out; omega)⟩
      obtain ⟨bl, off, rfl, hbl, hcell⟩ := HR.out.2.2 (by omega)
      have f4 := (HI.out.hb.cell (p := ⟨bl, off + q, none⟩) hbl).trans (hcell q (.int .i64 y) (by rw [List.getElem?_map, hy]; rfl))
      have Hy := Lib.hid hy
      have hd : decide ((n : Int) ≤ q) = false := by simp; omega
      clear hy hcell
      by_cases hxy : x = y
      · subst hxy
        gi_wp2
        refine ⟨KeepsOthers.setCell _ _ _, KpS.mods ((Mods.refl (fun k => k = w.heap.size + 3) W).setCell (⟨w.heap.size + 3, 0, none⟩ : Addr) (.inl rfl) _), ⟨?_, ?_, ?_, ?_, HI.out.hb.setCell (p := ⟨w.heap.size + 3, 0, none⟩) (by simp) _, ?_⟩⟩
        · exact HI.out.o0.mods ((Mods.refl (fun k => k = w.heap.size + 3) W).setCell (⟨w.heap.size + 3, 0, none⟩ : Addr) (.inl rfl) _) (by omega)
        · exact HI.out.o1.mods ((Mods.refl (fun k => k = w.heap.size + 3) W).setCell (⟨w.heap.size + 3, 0, none⟩ : Addr) (.inl rfl) _) (by omega)
        · exact HI.out.o2.mods ((Mods.refl (fun k => k = w.heap.size + 3) W).setCell (⟨w.heap.size + 3, 0, none⟩ : Addr) (.inl rfl) _) (by omega)
        · have := HI.out.o3.set 0 (.int .i64 ((q : Int) + 1))
          rw [List.length_append, Hq.out]
          exact this
        · have hp := HI.out.hp
          rw [List.prefix_iff_eq_take] at hp ⊢
          rw [List.length_append, Hq.out, List.length_singleton, List.take_add_one, Hy.out]
          rw [Hq.out] at hp
          rw [← hp]; rfl
      · have hxb : (x != y) = true := by simpa using hxy
        have Hxy := Lib.hid hxy
        clear hxy
        gi_wp2
        refine ⟨KeepsOthers.setCell _ _ _, rfl, HI.out.hb.setCell (p := ⟨w.heap.size + 2, 0, none⟩) (by simp) _, .inr (fun hp => ?_)⟩
        obtain ⟨t, ht⟩ := hp
        have h5 := Hy.out
        rw [← ht, ← Hq.out, List.append_assoc, List.getElem?_append_right (Nat.le_refl _), Nat.sub_self] at h5
        exact Hxy.out (by simpa using h5)
    · have hd : decide ((n : Int) ≤ q) = true := by simp; omega
      gi_wp2
      refine ⟨KeepsOthers.setCell _ _ _, rfl, HI.out.hb.setCell (p := ⟨w.heap.size + 2, 0, none⟩) (by simp) _, .inr (fun hp => ?_)⟩
      have := hp.length_le
      rw [List.length_append, Hq.out, List.length_singleton, Hn.out] at this
      omega
  case done =>
    rintro D ys W hD rfl hI hK
    have c0 := hI.o0.cell
    have c3 := hI.o3.cell
    have c2 := hI.o2.cell
    have z2 := hI.o2.frozen
    have HI := Lib.hid hI
    rw [Hn.out] at c3
    clear hI
    go_wp2_with fail
    have hK' := (KeepsOthers.setCell W ⟨w.heap.size + 1 + 1, 0, none⟩ (.bool true)).same D _ hK rfl
    refine ⟨by simp, .inl ⟨_, _, rfl, run_takeDeferred hK', ?_⟩⟩
    have hc5 := ((HI.out.o2.set 0 (.bool true)).grown (grownBy_putObj' _ D (.deferred none)) (fun k e => by injection e with e; omega)).cell 0
    refine ⟨.bool true, ?_, rfl, (HI.out.hb.setCell (p := ⟨w.heap.size + 1 + 1, 0, none⟩) (by simp; omega) _).grown (grownBy_putObj' _ D (.deferred none)) (by simp; exact HI.out.hb.size) (fun k e => by injection e with e; omega)⟩
    simp [results, Try.f54, go_sem, hc5]
  case stop =>
    rintro D c pre W hD hpre hX hK
    obtain ⟨rfl, hb, hr⟩ := hX
    have hr := hr.resolve_right (fun h => h hpre)
    gi_wp2
    refine ⟨by simp, .inl ⟨_, _, rfl, run_takeDeferred hK, ?_⟩⟩
    have hc5 := (hr.grown (grownBy_putObj' _ D (.deferred none)) (fun k e => by injection e with e; omega)).cell 0
    refine ⟨.bool true, ?_, rfl, hb.grown (grownBy_putObj' _ D (.deferred none)) hb.size (fun k e => by injection e with e; omega)⟩
    simp [results, Try.f54, go_sem, hc5]

end Go.Proofs.Ytfmmaigaanikgaa
