import Derived.Test.YtjhlaifflhjafaaRk
namespace Go.Proofs.Ytjhlaifflhjafaa
open Go.RowKit

theorem Ob.new3 (W : World) (o o' : Obj) (t : TypeId) (cs : List Value) : Ob (((W.alloc o).alloc o').alloc (.cells cs.toArray t)) (W.heap.size + 1 + 1) t cs := by
  have := Ob.new ((W.alloc o).alloc o') t cs
  rwa [World.size_alloc, World.size_alloc] at this
theorem madeCells_flat {α : Type} (f : α → List Value) (x : α) (sz : Nat) (hs : (f x).length = sz) (h0 : 0 < sz) (n : Nat) : madeCells (f x).toArray (n * sz) = ((List.replicate n x).flatMap f).toArray := by
  have hlen : ∀ n : Nat, ((List.replicate n x).flatMap f).length = n * sz := by
    intro n
    induction n with
    | zero => simp
    | succ n ih => rw [List.replicate_succ, List.flatMap_cons, List.length_append, ih, hs, Nat.succ_mul]; omega
  have hget : ∀ n i : Nat, i < n * sz → ((List.replicate n x).flatMap f)[i]? = (f x)[i % sz]? := by
    intro n
    induction n with
    | zero => intro i hi; simp at hi
    | succ n ih =>
      intro i hi
      rw [List.replicate_succ, List.flatMap_cons]
      by_cases hlt : i < sz
      · rw [List.getElem?_append_left (by omega), Nat.mod_eq_of_lt hlt]
      · rw [List.getElem?_append_right (by omega), ih _ (by rw [hs]; rw [Nat.succ_mul] at hi; omega), hs, Nat.mod_eq_sub_mod (by omega : sz ≤ i)]
  apply Array.ext
  · simp [madeCells, hlen]
  · intro i h1 h2
    have hi : i < n * sz := by simpa [madeCells] using h1
    have hm : i % sz < (f x).length := by rw [hs]; exact Nat.mod_lt _ h0
    have e1 := hget n i hi
    rw [List.getElem?_eq_getElem (by rw [hlen]; exact hi), List.getElem?_eq_getElem hm] at e1
    simp only [madeCells, Array.getElem_map, Array.getElem_range, List.size_toArray, hs, List.getElem_toArray]
    rw [getElem!_pos _ _ (by simpa using hm)]
    simpa using (Option.some.inj e1).symm
theorem made_one (x : Value) (h : x.cells = #[x]) (n : Nat) : madeCells x.cells n = (List.replicate n x).toArray := by
  have := madeCells_flat (fun y : Value => [y]) x 1 rfl (by decide) n
  rw [Nat.mul_one] at this
  rw [h, show (#[x] : Array Value) = ((fun y : Value => [y]) x).toArray from rfl, this]
  congr 1
  induction n with
  | zero => rfl
  | succ n ih => simp [List.replicate_succ]
theorem info4 : (Try.prog.info? 4).map (fun i => (i.zero, i.size, i.bytes)) = some (some (.bool false), 1, 1) := by kernel_rfl
theorem info9 : (Try.prog.info? 9).map (fun i => (i.zero, i.size, i.bytes)) = some (some (.string ⟨#[]⟩), 1, 16) := by kernel_rfl
set_option maxHeartbeats 400000 in
theorem rosNew_no (w : World) (n : Int) (h : n < 1 ∨ 1024 < n) :
    Calls Try.prog 26 #[.int .i64 n] w fun e w' => e = .returned (.tuple #[.pointer none, .int .i64 2]) ∧ w = w' := by
  by_cases h1 : n < 1
  · clear h
    go_enter Try.func26, Try.ntmps26
    go_wp2
    go_ret2
    exact ⟨rfl, rfl⟩
  · have h2 : 1024 < n := h.resolve_left h1
    clear h
    go_enter Try.func26, Try.ntmps26
    go_wp2
    go_ret2
    exact ⟨rfl, rfl⟩
/-- What New has made. -/
def RosN (w : World) (n : Nat) (e : Ending) (w' : World) : Prop :=
  ∃ rb gt gn, e = .returned (.tuple #[.pointer (some ⟨rb, 0, none⟩), .int .i64 0]) ∧ RosAt w' rb gt gn n (List.replicate n em) [] (.slice none 0 0) ∧ w.heap.size ≤ rb ∧ w.heap.size ≤ gt ∧ w.heap.size ≤ gn ∧ Below w.heap.size w w'
set_option maxHeartbeats 800000 in
set_option maxRecDepth 100000 in
theorem rosNew_yes (w : World) (n : Nat) (h1 : 1 ≤ n) (h2 : n ≤ 1024) :
    Calls Try.prog 26 #[.int .i64 n] w fun e w' => RosN w n e w' := by
  have hmk1 : ∀ W : World, (Instr.makeSlice 78 (.int .i64 (n : Int)) (.int .i64 (n : Int))).run Try.prog W = .ok (.slice (some ⟨W.heap.size, 0, none⟩) n n) (W.alloc (.cells (List.replicate n (Value.bool false)).toArray 4)) := fun W => by
    obtain ⟨i0, hi0, hz0, hz1, hz2⟩ := info_parts info4
    have hr := run_make (P := Try.prog) W 78 4 i0 (.bool false) Try.underlying78 hi0 hz0 .i64 .i64 n n (by omega) (by omega) (by rw [hz2]; omega) (by omega)
    simp only [Int.toNat_natCast] at hr
    rw [hr, hz1, Nat.mul_one, made_one _ rfl]
  have hmk2 : ∀ W : World, (Instr.makeSlice 68 (.int .i64 (n : Int)) (.int .i64 (n : Int))).run Try.prog W = .ok (.slice (some ⟨W.heap.size, 0, none⟩) n n) (W.alloc (.cells (List.replicate n (Value.string ⟨#[]⟩)).toArray 9)) := fun W => by
    obtain ⟨i0, hi0, hz0, hz1, hz2⟩ := info_parts info9
    have hr := run_make (P := Try.prog) W 68 9 i0 (.string ⟨#[]⟩) Try.underlying68 hi0 hz0 .i64 .i64 n n (by omega) (by omega) (by rw [hz2]; omega) (by omega)
    simp only [Int.toNat_natCast] at hr
    rw [hr, hz1, Nat.mul_one, made_one _ rfl]
  generalize hA : (List.replicate n (Value.bool false)).toArray = cs1 at *
  generalize hB : (List.replicate n (Value.string ⟨#[]⟩)).toArray = cs2 at *
  have HA := Lib.hid hA
  have HB := Lib.hid hB
  clear hA hB
  go_enter Try.func26, Try.ntmps26
  go_upto_region 3 with (fail)
  go_region
  · go_wp2_with fail
    go_ret2
    rw [← HA.out, ← HB.out]
    refine ⟨w.heap.size + 1 + 1, w.heap.size, w.heap.size + 1, rfl, ⟨?_, ?_, ?_, own_nil _ _ _ _, by simp, ⟨h1, h2⟩, RInv.start n, by omega, by omega, by omega⟩, by omega, by omega, by omega, ?_⟩
    · exact Ob.drew (Ob.new3 w _ _ 80 _)
    · have := ((Ob.new w 4 (List.replicate n (Value.bool false))).alloc (.cells (List.replicate n (Value.string ⟨#[]⟩)).toArray 9)).alloc (.cells #[.slice none 0 0, .slice (some ⟨w.heap.size, 0, none⟩) n n, .slice (some ⟨w.heap.size + 1, 0, none⟩) n n] 80)
      rw [List.map_replicate, emB_em]
      exact this
    · have := (Ob.new2 w (.cells (List.replicate n (Value.bool false)).toArray 4) 9 (List.replicate n (Value.string ⟨#[]⟩))).alloc (.cells #[.slice none 0 0, .slice (some ⟨w.heap.size, 0, none⟩) n n, .slice (some ⟨w.heap.size + 1, 0, none⟩) n n] 80)
      rw [List.map_replicate]
      exact this
    · exact Below.drewN ((((Below.refl _ w).alloc (Nat.le_refl _) _).alloc (by simp) _).alloc (by simp; omega) _) 1
  · go_wp2_with fail
    go_ret2
    rw [← HA.out, ← HB.out]
    refine ⟨w.heap.size + 1 + 1, w.heap.size + 1, w.heap.size, rfl, ⟨?_, ?_, ?_, own_nil _ _ _ _, by simp, ⟨h1, h2⟩, RInv.start n, by omega, by omega, by omega⟩, by omega, by omega, by omega, ?_⟩
    · exact Ob.drew (Ob.new3 w _ _ 80 _)
    · have := (Ob.new2 w (.cells (List.replicate n (Value.string ⟨#[]⟩)).toArray 9) 4 (List.replicate n (Value.bool false))).alloc (.cells #[.slice none 0 0, .slice (some ⟨w.heap.size + 1, 0, none⟩) n n, .slice (some ⟨w.heap.size, 0, none⟩) n n] 80)
      rw [List.map_replicate, emB_em]
      exact this
    · have := ((Ob.new w 9 (List.replicate n (Value.string ⟨#[]⟩))).alloc (.cells (List.replicate n (Value.bool false)).toArray 4)).alloc (.cells #[.slice none 0 0, .slice (some ⟨w.heap.size + 1, 0, none⟩) n n, .slice (some ⟨w.heap.size, 0, none⟩) n n] 80)
      rw [List.map_replicate]
      exact this
    · exact Below.drewN ((((Below.refl _ w).alloc (Nat.le_refl _) _).alloc (by simp) _).alloc (by simp; omega) _) 1

def nmC (p : Seat) : Value := .string p.1
set_option maxHeartbeats 1600000 in
set_option maxRecDepth 100000 in
theorem rosSorted (w : World) (rb gt gn R : Nat) (slots : List ByteArray) (seats : List Seat) (v : Value) (h : RosAt w rb gt gn R slots seats v) :
    Calls Try.prog 42 #[.pointer (some ⟨rb, 0, none⟩)] w fun e w' => ∃ v', e = .returned v' ∧ w'.ownsRow w.heap.size 9 1 v' seats.length (seats.map nmC) ∧ Below w.heap.size w w' := by
  obtain ⟨i0, hi0, hz0, hz1, hz2⟩ := info_parts info9
  have HI := Lib.hid hi0
  have HZ0 := Lib.hid hz0
  have HZ1 := Lib.hid hz1
  have HZ2 := Lib.hid hz2
  clear hi0 hz0 hz1 hz2
  have hc := h.ho.cell
  have hR1 := h.hR.1
  have hR2 := h.hR.2
  have hlen := h.len
  have H := Lib.hid h
  obtain ⟨A, c, hv, hRd, hc1, hc2⟩ := own_shape h.hown
  subst hv
  have HRd := Lib.hid hRd
  clear h hRd
  generalize hn : seats.length = n at *
  have HN := Lib.hid hn
  clear hn
  go_enter Try.func42, Try.ntmps42
  go_upto_region 3 with (go_at_call 67; refine (rosIs_some _ rb gt R (hc 1) hR1).mono ?_; rintro e w' ⟨rfl, rfl⟩)
  go_wp2_with fail
  go_loopw [3, 13] (fun o i wx => ∃ (k : Nat), k ≤ n ∧ i = .int .i64 k ∧ wx.ownsRow w.heap.size 9 1 o k ((seats.take k).map nmC) ∧ Below w.heap.size w wx) (fun _ i _ => n - (intOf i).toNat)
  case atStart => exact ⟨0, by omega, rfl, own_nil _ _ _ _, Below.refl _ _⟩
  case round =>
    obtain ⟨k, hk, rfl, hown, hB⟩ := hrel
    obtain ⟨As, cs, hv, -, -, -⟩ := own_shape hown
    subst hv
    have HOw := Lib.hid hown
    have HB := Lib.hid hB
    clear hown hB
    by_cases hlt : k < n
    · obtain ⟨p, hp⟩ : ∃ p, seats[k]? = some p := ⟨_, List.getElem?_eq_getElem (by rw [HN.out]; exact hlt)⟩
      obtain ⟨g, off, hA, hgl, hg⟩ := HRd.out.2.2 (by omega)
      subst hA
      have x0 : wr.cell? ⟨g, off + k * 2, none⟩ = some (.string p.1) := (HB.out.cell (p := ⟨g, off + k * 2, none⟩) hgl).trans (hg _ _ (flat_at seatC 2 (fun _ => rfl) seats k 0 p hp (by omega)))
      have x1 : wr.cell? ⟨g, off + k * 2 + 1, none⟩ = some (.int .i64 p.2) := (HB.out.cell (p := ⟨g, off + k * 2 + 1, none⟩) hgl).trans (hg _ _ (flat_at seatC 2 (fun _ => rfl) seats k 1 p hp (by omega)))
      have HP := Lib.hid hp
      have Hn3 : Hid (k + 1 ≤ 1000000) := by show _ ≤ _; omega
      clear hg hp
      go_upto_region 6 with (fail)
      have hO := Ob.new wr 118 [.string p.1, .int .i64 p.2]
      refine cutW (fun W => Ob W wr.heap.size 118 [.string p.1, .int .i64 p.2] ∧ W.ownsRow w.heap.size 9 1 (.slice As k cs) k ((seats.take k).map nmC) ∧ Below w.heap.size w W) ⟨hO, own_mods HOw.out ((Mods.refl (fun _ => False) wr).alloc _) (fun _ _ => id), HB.out.alloc HB.out.size _⟩ ?_
      clear hO HOw HB x0 x1
      rintro W ⟨hO, hown, hB⟩
      have hco := hO.cell
      have hbs := hB.size
      have HOw := Lib.hid hown
      have HB := Lib.hid hB
      clear hO hown hB
      go_wp2_with (at_builtin; refine append1 rfl (.tmp 17) (.tmp 20) 68 rfl w.heap.size 9 i0 _ 1 16 Try.underlying68 HI.out HZ0.out HZ1.out HZ2.out rfl (by decide) _ k _ rfl (own_mods HOw.out ((Mods.refl (fun _ => False) _).alloc (.cells #[.string p.1] 9)) (fun _ _ => id)) _ [.string p.1] rfl (Ob.new _ 9 [.string p.1]) rfl (by simp [Value.oneCell']) Hn3.out (by decide) (by simp; omega) (fun v5 w5 hown5 hg5 hat5 => ?_))
      have hB5 : Below w.heap.size w w5 := (HB.out.alloc hbs (.cells #[.string p.1] 9)).grown hg5 (by simp; omega) (fun q hq => own_block HOw.out q hq)
      have HOw5 := Lib.hid hown5
      have HB5 := Lib.hid hB5
      clear hown5 hg5 hat5 hB5
      go_wp2_with fail
      go_roundw
      case rel => exact ⟨k + 1, by omega, by go_num, by rw [List.take_add_one, HP.out, List.map_append]; exact HOw5.out, HB5.out⟩
      case measure => simp [intOf]; omega
    · obtain rfl : k = n := by omega
      go_wp2_with fail
      go_ret
      refine ⟨_, rfl, ?_, HB.out⟩
      have := HOw.out
      rwa [List.take_of_length_le (by rw [HN.out]; exact Nat.le_refl _)] at this

end Go.Proofs.Ytjhlaifflhjafaa
