import Derived.Test.YtjhlaifflhjafaaBa
import Derived.Laws.RangeAny
import Derived.Laws.IdiomStrings
import Derived.Lib.TrimU
namespace Go.Proofs.Ytjhlaifflhjafaa
open Go.RowKit

/-! Names: which texts are names. -/
def mayB (c : Int) : Bool := decide (33 ≤ c) && ((c != 127) && ((c != 61) && (c != 65533)))
def runesL (s : ByteArray) : (fuel pos : Nat) → List Nat
  | 0, _ => []
  | f + 1, pos => if pos < s.size then (Utf8.decode s pos).1 :: runesL s f (pos + (Utf8.decode s pos).2) else []
/-- What the rest of the runes comes to behind k of them. -/
def restB (k : Nat) (r : List Nat) : Bool := decide (0 < k + r.length) && (decide (k + r.length ≤ 20) && r.all fun c => mayB c)
def nameB (s : ByteArray) : Bool := restB 0 (runesL s s.size 0)

theorem restB_cons (k c : Nat) (r : List Nat) (hm : mayB c = true) : restB k (c :: r) = restB (k + 1) r := by
  unfold restB
  rw [List.all_cons, hm, Bool.true_and, List.length_cons, show k + (r.length + 1) = k + 1 + r.length by omega]
theorem restB_not (k c : Nat) (r : List Nat) (hm : mayB c = false) : restB k (c :: r) = false := by
  unfold restB
  rw [List.all_cons, hm]
  simp
theorem restB_many (k : Nat) (r : List Nat) (h : 20 < k + r.length) : restB k r = false := by
  unfold restB
  have : decide (k + r.length ≤ 20) = false := by simpa using h
  rw [this]
  simp

set_option maxHeartbeats 400000 in
theorem kMay (w : World) (c : Int) : Calls Try.prog 53 #[.int .i32 c] w fun e w' => e = .returned (.bool (mayB c)) ∧ w = w' := by
  by_cases h1 : c < 33
  · have e : mayB c = false := by unfold mayB; simp; omega
    have E := Lib.hid e
    clear e
    go_enter Try.func53, Try.ntmps53
    go_wp2_with fail
    go_ret
    exact ⟨ret_bool E.out.symm, rfl⟩
  have h1' : 33 ≤ c := by omega
  by_cases h2 : c = 127
  · have e : mayB c = false := by subst h2; decide
    have E := Lib.hid e
    clear e h1
    subst h2
    go_enter Try.func53, Try.ntmps53
    go_wp2_with fail
    go_ret
    exact ⟨ret_bool E.out.symm, rfl⟩
  have h2' : (c != 127) = true := by simpa using h2
  by_cases h3 : c = 61
  · have e : mayB c = false := by subst h3; decide
    have E := Lib.hid e
    clear e h1
    subst h3
    go_enter Try.func53, Try.ntmps53
    go_wp2_with fail
    go_ret
    exact ⟨ret_bool E.out.symm, rfl⟩
  have h3' : (c != 61) = true := by simpa using h3
  have e : mayB c = (c != 65533) := by unfold mayB; rw [h2', h3']; simp; omega
  have E := Lib.hid e
  clear e h1 h2 h3
  go_enter Try.func53, Try.ntmps53
  go_wp2_with fail
  go_ret
  exact ⟨ret_bool E.out.symm, rfl⟩

theorem size_iter (w : World) (s : ByteArray) (pos : Nat) : (w.iter s pos).heap.size = w.heap.size + 1 := by simp [World.iter]
theorem below_iter (w : World) (s : ByteArray) (pos : Nat) : Below w.heap.size w (w.iter s pos) := (Below.refl _ w).alloc (Nat.le_refl _) _

set_option maxHeartbeats 800000 in
set_option maxRecDepth 100000 in
theorem kValid (w : World) (s : ByteArray) : Calls Try.prog 16 #[.string s] w fun e w' => e = .returned (.bool (nameB s)) ∧ Below w.heap.size w w' := by
  go_enter Try.func16, Try.ntmps16
  go_wp2_with fail
  go_loopw [3] (fun n w' => ∃ (pos f k : Nat), w' = w.iter s pos ∧ n = .int .i64 k ∧ k ≤ 20 ∧ s.size ≤ pos + f ∧ nameB s = restB k (runesL s f pos)) (fun _ w' => s.size - w'.iterPos w.heap.size)
  case atStart => exact ⟨0, s.size, 0, rfl, rfl, by omega, by omega, rfl⟩
  case round =>
    obtain ⟨pos, f, k, rfl, rfl, hk, hf, hn⟩ := hrel
    by_cases hp : pos < s.size
    · have hnx : ∀ ty, (Instr.next (.pointer (some ⟨w.heap.size, 0, none⟩)) true ty).run Try.prog (w.iter s pos) = _ := fun ty => run_next_any w s pos ty hp
      obtain ⟨f, rfl⟩ : ∃ m, f = m + 1 := ⟨f - 1, by omega⟩
      have hw := Lib.width_pos s pos
      have hr : runesL s (f + 1) pos = (Utf8.decode s pos).1 :: runesL s f (pos + (Utf8.decode s pos).2) := by rw [runesL, if_pos hp]
      rw [hr] at hn
      generalize Utf8.decode s pos = d at *
      obtain ⟨c, len⟩ := d
      simp only at hn hw hnx
      have Hn := Lib.hid hn
      clear hn hr
      by_cases hk2 : k = 20
      · subst hk2
        go_wp2_with fail
        go_ret
        exact ⟨ret_bool (by rw [Hn.out, restB_many _ _ (by rw [List.length_cons]; omega)]), below_iter w s _⟩
      · have hk3 : k + 1 ≤ 20 := by omega
        cases hm : mayB c with
        | false =>
          have Hm := Lib.hid hm
          clear hm
          go_wp2_with (go_at_call 53; refine (kMay _ _).mono ?_; rintro e w' ⟨rfl, rfl⟩; rw [Hm.out])
          go_ret
          exact ⟨ret_bool (by rw [Hn.out, restB_not _ _ _ Hm.out]), below_iter w s _⟩
        | true =>
          have Hm := Lib.hid hm
          clear hm
          go_wp2_with (go_at_call 53; refine (kMay _ _).mono ?_; rintro e w' ⟨rfl, rfl⟩; rw [Hm.out])
          go_roundw
          case rel => exact ⟨pos + len, f, k + 1, rfl, by go_num, by omega, by omega, by rw [Hn.out, restB_cons _ _ _ Hm.out]⟩
          case measure => simp; omega
    · have hnx : ∀ ty, (Instr.next (.pointer (some ⟨w.heap.size, 0, none⟩)) true ty).run Try.prog (w.iter s pos) = _ := fun ty => run_next_end w s pos ty hp
      have hr : runesL s f pos = [] := by cases f with
        | zero => rfl
        | succ f => rw [runesL, if_neg hp]
      rw [hr] at hn
      have Hn := Lib.hid hn
      clear hn hr
      go_wp2_with fail
      go_ret
      exact ⟨ret_bool (by rw [Hn.out]; unfold restB; simp; omega), below_iter w s _⟩

/-! The document's. -/
theorem runesFrom_eq (s : ByteArray) : ∀ (f pos : Nat) (acc : Array Value), Conv.runesFrom s f pos acc = acc ++ ((runesL s f pos).map fun c : Nat => Value.int .i32 (c : Int)).toArray
  | 0, _, acc => by simp [Conv.runesFrom, runesL]
  | f + 1, pos, acc => by
    unfold Conv.runesFrom runesL
    split
    · generalize Utf8.decode s pos = d
      obtain ⟨c, len⟩ := d
      simp only
      rw [runesFrom_eq s f]
      simp
    · simp
theorem runesL_len (s : ByteArray) (f pos : Nat) : (runesL s f pos).length ≤ f := by
  have := size_runesFrom s f pos #[]
  rw [runesFrom_eq] at this
  simpa using this

set_option maxHeartbeats 800000 in
set_option maxRecDepth 100000 in
theorem rValid (w : World) (s : ByteArray) (hs : s.size ≤ 70368744177664) : Calls Try.prog 17 #[.string s] w fun e w' => e = .returned (.bool (nameB s)) ∧ Below w.heap.size w w' := by
  have hlen := runesL_len s s.size 0
  have hcv : ∀ W : World, ∃ cap : Nat, ∃ rest : List Value, (convert 9 111 (.string s)).run Try.prog W = .ok (.slice (some ⟨W.heap.size, 0, none⟩) (runesL s s.size 0).length cap) (W.drew.alloc (.cells (((runesL s s.size 0).map fun c : Nat => Value.int .i32 (c : Int)) ++ rest).toArray 21)) := fun W => by
    have h := run_runes_of_string (P := Try.prog) W 9 111 21 s Try.underlying9 Try.underlying111 Try.underlying21 (by rw [runesFrom_eq]; simp; omega)
    rw [runesFrom_eq] at h
    simp only [List.append_toArray, Array.empty_append, List.size_toArray, List.length_map] at h
    refine ⟨grownCap W (runesL s s.size 0).length 0 21, List.replicate (grownCap W (runesL s s.size 0).length 0 21 - (runesL s s.size 0).length) (Value.int .i32 0), ?_⟩
    rw [h]
    have e : ∀ (l : List Value) (n : Nat) (v : Value), l.toArray ++ Array.replicate n v = (l ++ List.replicate n v).toArray := fun l n v => by apply Array.toList_inj.1; simp
    simp [e]
  obtain ⟨cap, rest, hcv⟩ := hcv w
  have hn : nameB s = restB 0 (runesL s s.size 0) := rfl
  have Hn := Lib.hid hn
  clear hn
  generalize runesL s s.size 0 = r at *
  have hO := Ob.new w.drew 21 ((r.map fun c : Nat => Value.int .i32 (c : Int)) ++ rest)
  have hb : Below w.heap.size w (w.drew.alloc (.cells ((r.map fun c : Nat => Value.int .i32 (c : Int)) ++ rest).toArray 21)) := Below.mods (Below.refl _ w) (((Mods.refl (fun _ => False) w).drew).alloc _) (fun _ h => h.elim) (Nat.le_refl _)
  generalize hW : w.drew.alloc (.cells ((r.map fun c : Nat => Value.int .i32 (c : Int)) ++ rest).toArray 21) = W at *
  generalize hl : r.length = m at *
  have hdw : w.drew.heap.size = w.heap.size := rfl
  rw [hdw] at hO
  clear hdw hW
  have HO := Lib.hid hO
  have HB := Lib.hid hb
  have Hl := Lib.hid hl
  clear hO hb hl
  by_cases h1 : m < 1
  · go_enter Try.func17, Try.ntmps17
    go_wp2_with fail
    go_ret
    exact ⟨ret_bool (by rw [Hn.out]; unfold restB; rw [Hl.out]; simp; omega), HB.out⟩
  by_cases h2 : 20 < m
  · go_enter Try.func17, Try.ntmps17
    go_wp2_with fail
    go_ret
    exact ⟨ret_bool (by rw [Hn.out, restB_many _ _ (by rw [Hl.out]; omega)]), HB.out⟩
  go_enter Try.func17, Try.ntmps17
  go_wp2_with fail
  clear hcv
  go_loop [4] (fun i => ∃ k : Nat, k ≤ m ∧ i = .int .i64 k ∧ (r.take k).all (fun c => mayB c) = true) (fun i => m - (intOf i).toNat)
  case atStart => exact ⟨0, by omega, rfl, rfl⟩
  case round =>
    obtain ⟨k, hk, rfl, hall⟩ := hrel
    have Hall := Lib.hid hall
    clear hall
    by_cases hlt : k < m
    · obtain ⟨c, hc⟩ : ∃ c, r[k]? = some c := ⟨_, List.getElem?_eq_getElem (by have := Hl.out; omega)⟩
      have f0 : W.cell? ⟨w.heap.size, k, none⟩ = some (.int .i32 c) := (HO.out.cell k).trans (by rw [List.getElem?_append_left (by rw [List.length_map, Hl.out]; exact hlt), List.getElem?_map, hc]; rfl)
      have Hc := Lib.hid hc
      clear hc
      cases hm : mayB c with
      | false =>
        have hf : nameB s = false := by
          rw [Hn.out]
          unfold restB
          have : r.all (fun c => mayB c) = false := List.all_eq_false.2 ⟨c, List.mem_of_getElem? Hc.out, by simp [hm]⟩
          rw [this]; simp
        have Hf := Lib.hid hf
        unfold mayB at hm
        clear hf
        by_cases g1 : (c : Int) < 33
        · clear hm
          go_wp2_with fail
          go_ret
          exact ⟨ret_bool Hf.out.symm, HB.out⟩
        have g1' : decide ((c : Int) < 33) = false := by simpa using g1
        have g1'' : decide ((33 : Int) ≤ c) = true := by simp; omega
        rw [g1'', Bool.true_and] at hm
        clear g1''
        by_cases g2 : (c : Int) = 127
        · have g2' : ((c : Int) == 127) = true := by simpa using g2
          clear hm g2 g1
          go_wp2_with fail
          go_ret
          exact ⟨ret_bool Hf.out.symm, HB.out⟩
        have g2' : ((c : Int) == 127) = false := by simpa using g2
        by_cases g3 : (c : Int) = 61
        · have g3' : ((c : Int) == 61) = true := by simpa using g3
          clear hm g3 g1 g2
          go_wp2_with fail
          go_ret
          exact ⟨ret_bool Hf.out.symm, HB.out⟩
        have g3' : ((c : Int) == 61) = false := by simpa using g3
        have g4' : ((c : Int) == 65533) = true := by
          have e2 : ((c : Int) != 127) = true := by simpa using g2
          have e3 : ((c : Int) != 61) = true := by simpa using g3
          rw [e2, e3] at hm
          simpa using hm
        clear hm g3 g1 g2
        go_wp2_with fail
        go_ret
        exact ⟨ret_bool Hf.out.symm, HB.out⟩
      | true =>
        have Hm := Lib.hid hm
        have hp : (decide ((33 : Int) ≤ c) && (((c : Int) != 127) && (((c : Int) != 61) && ((c : Int) != 65533)))) = true := hm
        simp only [Bool.and_eq_true, decide_eq_true_eq, bne_iff_ne, ne_eq] at hp
        obtain ⟨p1, p2, p3, p4⟩ := hp
        have g1' : decide ((c : Int) < 33) = false := by simp; omega
        have g2' : ((c : Int) == 127) = false := by simpa using p2
        have g3' : ((c : Int) == 61) = false := by simpa using p3
        have g4' : ((c : Int) == 65533) = false := by simpa using p4
        clear hm p2 p3 p4
        go_wp2_with fail
        go_round
        case rel => exact ⟨k + 1, by omega, by go_num, by rw [List.take_add_one, Hc.out, List.all_append, Hall.out]; simp [Hm.out]⟩
        case measure => simp [intOf]; omega
    · have hall : r.all (fun c => mayB c) = true := by have := Hall.out; rwa [List.take_of_length_le (by rw [Hl.out]; omega)] at this
      have Ha := Lib.hid hall
      clear hall
      go_wp2_with fail
      go_ret
      exact ⟨ret_bool (by rw [Hn.out]; unfold restB; rw [Ha.out, Hl.out]; simp; omega), HB.out⟩

end Go.Proofs.Ytjhlaifflhjafaa
