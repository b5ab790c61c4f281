import Derived.Test.YtjhlaifflhjafaaVa
namespace Go.Proofs.Ytjhlaifflhjafaa
open Go.RowKit

/-- What a state's row says of an event: 0: it may not happen; -1: the state stays; -2: it goes back. -/
def rowT : Int → List Int
  | 1 => [2, 7, 0, 8, 3, 6, -1, 0, 4, 0]
  | 2 => [0, 7, 0, 0, 3, 6, -1, 0, 4, 5]
  | 3 => [-1, 7, 0, 0, -1, 6, -2, 0, 4, 5]
  | 4 => [-1, 7, 0, 8, -1, 6, -1, -2, 0, 0]
  | 5 => [0, 7, -2, 0, -1, 6, -1, -2, 0, 0]
  | 6 => [0, 0, 0, 0, 0, 0, -1, 0, 0, 0]
  | 7 => [0, 0, 0, 0, 0, 0, -1, 0, 0, 0]
  | _ => [0, 0, 0, 0, 0, 0, 0, 0, 0, 0]
def toT (s e : Int) : Int := (rowT s).getD (e - 1).toNat 0
def nt (t s c : Int) : Int × Int := if t = 0 then (0, 200) else if t = -1 then (s, 0) else if t = -2 then (if 0 < c then 3 else 2, 0) else (t, 0)
/-- The state behind an event, and an error's number. -/
def nx (s e c : Int) : Int × Int := if s < 1 ∨ 8 < s ∨ e < 1 ∨ 10 < e ∨ c < 0 then (0, 2) else nt (toT s e) s c
theorem nx_in {s e c : Int} (h1 : 1 ≤ s) (h2 : s ≤ 8) (h3 : 1 ≤ e) (h4 : e ≤ 10) (h5 : 0 ≤ c) : nx s e c = nt (toT s e) s c := if_neg (by omega)
theorem nx_out {s e c : Int} (h : s < 1 ∨ 8 < s ∨ e < 1 ∨ 10 < e ∨ c < 0) : nx s e c = (0, 2) := if_pos h

def Two (x : Int × Int) (w : World) (en : Ending) (w' : World) : Prop := en = .returned (.tuple #[.int .i64 x.1, .int .i64 x.2]) ∧ w = w'
theorem two_of {x : Int × Int} {a b : Int} {w : World} (h : x = (a, b)) : Two x w (.returned (.tuple #[.int .i64 a, .int .i64 b])) w := by subst h; exact ⟨rfl, rfl⟩

def Row (s : Int) (w : World) (en : Ending) (w' : World) : Prop := en = .returned (.agg ((rowT s).map (Value.int .i64)).toArray) ∧ Below w.heap.size w w'

set_option maxHeartbeats 4000000 in
set_option maxRecDepth 100000 in
theorem rowOf_1 (w : World) : Calls Try.prog 102 #[.int .i64 1] w (Row 1 w) := by
  go_enter Try.func102, Try.ntmps102
  go_wp2
  refine bodyPost_ret (v := .agg #[.int .i64 2, .int .i64 7, .int .i64 0, .int .i64 8, .int .i64 3, .int .i64 6, .int .i64 (-1), .int .i64 0, .int .i64 4, .int .i64 0]) (by simp [results, Try.results102, go_sem]) rfl ⟨rfl, ?_⟩
  repeat (refine Below.setCell ?_ (by simp) _)
  exact (Below.refl _ _).alloc (Nat.le_refl _) _
set_option maxHeartbeats 4000000 in
set_option maxRecDepth 100000 in
theorem rowOf_2 (w : World) : Calls Try.prog 102 #[.int .i64 2] w (Row 2 w) := by
  go_enter Try.func102, Try.ntmps102
  go_wp2
  refine bodyPost_ret (v := .agg #[.int .i64 0, .int .i64 7, .int .i64 0, .int .i64 0, .int .i64 3, .int .i64 6, .int .i64 (-1), .int .i64 0, .int .i64 4, .int .i64 5]) (by simp [results, Try.results102, go_sem]) rfl ⟨rfl, ?_⟩
  repeat (refine Below.setCell ?_ (by simp) _)
  exact (Below.refl _ _).alloc (Nat.le_refl _) _
set_option maxHeartbeats 4000000 in
set_option maxRecDepth 100000 in
theorem rowOf_3 (w : World) : Calls Try.prog 102 #[.int .i64 3] w (Row 3 w) := by
  go_enter Try.func102, Try.ntmps102
  go_wp2
  refine bodyPost_ret (v := .agg #[.int .i64 (-1), .int .i64 7, .int .i64 0, .int .i64 0, .int .i64 (-1), .int .i64 6, .int .i64 (-2), .int .i64 0, .int .i64 4, .int .i64 5]) (by simp [results, Try.results102, go_sem]) rfl ⟨rfl, ?_⟩
  repeat (refine Below.setCell ?_ (by simp) _)
  exact (Below.refl _ _).alloc (Nat.le_refl _) _
set_option maxHeartbeats 4000000 in
set_option maxRecDepth 100000 in
theorem rowOf_4 (w : World) : Calls Try.prog 102 #[.int .i64 4] w (Row 4 w) := by
  go_enter Try.func102, Try.ntmps102
  go_wp2
  refine bodyPost_ret (v := .agg #[.int .i64 (-1), .int .i64 7, .int .i64 0, .int .i64 8, .int .i64 (-1), .int .i64 6, .int .i64 (-1), .int .i64 (-2), .int .i64 0, .int .i64 0]) (by simp [results, Try.results102, go_sem]) rfl ⟨rfl, ?_⟩
  repeat (refine Below.setCell ?_ (by simp) _)
  exact (Below.refl _ _).alloc (Nat.le_refl _) _
set_option maxHeartbeats 4000000 in
set_option maxRecDepth 100000 in
theorem rowOf_5 (w : World) : Calls Try.prog 102 #[.int .i64 5] w (Row 5 w) := by
  go_enter Try.func102, Try.ntmps102
  go_wp2
  refine bodyPost_ret (v := .agg #[.int .i64 0, .int .i64 7, .int .i64 (-2), .int .i64 0, .int .i64 (-1), .int .i64 6, .int .i64 (-1), .int .i64 (-2), .int .i64 0, .int .i64 0]) (by simp [results, Try.results102, go_sem]) rfl ⟨rfl, ?_⟩
  repeat (refine Below.setCell ?_ (by simp) _)
  exact (Below.refl _ _).alloc (Nat.le_refl _) _
set_option maxHeartbeats 4000000 in
set_option maxRecDepth 100000 in
theorem rowOf_6 (w : World) : Calls Try.prog 102 #[.int .i64 6] w (Row 6 w) := by
  go_enter Try.func102, Try.ntmps102
  go_wp2
  refine bodyPost_ret (v := .agg #[.int .i64 0, .int .i64 0, .int .i64 0, .int .i64 0, .int .i64 0, .int .i64 0, .int .i64 (-1), .int .i64 0, .int .i64 0, .int .i64 0]) (by simp [results, Try.results102, go_sem]) rfl ⟨rfl, ?_⟩
  repeat (refine Below.setCell ?_ (by simp) _)
  exact (Below.refl _ _).alloc (Nat.le_refl _) _
set_option maxHeartbeats 4000000 in
set_option maxRecDepth 100000 in
theorem rowOf_7 (w : World) : Calls Try.prog 102 #[.int .i64 7] w (Row 7 w) := by
  go_enter Try.func102, Try.ntmps102
  go_wp2
  refine bodyPost_ret (v := .agg #[.int .i64 0, .int .i64 0, .int .i64 0, .int .i64 0, .int .i64 0, .int .i64 0, .int .i64 (-1), .int .i64 0, .int .i64 0, .int .i64 0]) (by simp [results, Try.results102, go_sem]) rfl ⟨rfl, ?_⟩
  repeat (refine Below.setCell ?_ (by simp) _)
  exact (Below.refl _ _).alloc (Nat.le_refl _) _
set_option maxHeartbeats 4000000 in
set_option maxRecDepth 100000 in
theorem rowOf_8 (w : World) : Calls Try.prog 102 #[.int .i64 8] w (Row 8 w) := by
  go_enter Try.func102, Try.ntmps102
  go_wp2
  refine bodyPost_ret (v := .agg #[.int .i64 0, .int .i64 0, .int .i64 0, .int .i64 0, .int .i64 0, .int .i64 0, .int .i64 0, .int .i64 0, .int .i64 0, .int .i64 0]) (by simp [results, Try.results102, go_sem]) rfl ⟨rfl, ?_⟩
  repeat (refine Below.setCell ?_ (by simp) _)
  exact (Below.refl _ _).alloc (Nat.le_refl _) _

def TwoB (x : Int × Int) (w : World) (en : Ending) (w' : World) : Prop := en = .returned (.tuple #[.int .i64 x.1, .int .i64 x.2]) ∧ Below w.heap.size w w'
theorem twoB_of {x : Int × Int} {a b : Int} {w w' : World} (h : x = (a, b)) (hb : Below w.heap.size w w') : TwoB x w (.returned (.tuple #[.int .i64 a, .int .i64 b])) w' := by subst h; exact ⟨rfl, hb⟩

set_option maxHeartbeats 4000000 in
set_option maxRecDepth 100000 in
theorem next_1 (e c : Int) (w : World) (he : 1 ≤ e) (he2 : e ≤ 10) (hc : 0 ≤ c) : Calls Try.prog 95 #[.int .i64 1, .int .i64 e, .int .i64 c] w (TwoB (nt (toT 1 e) 1 c) w) := by
  rcases (show e = 1 ∨ e = 2 ∨ e = 3 ∨ e = 4 ∨ e = 5 ∨ e = 6 ∨ e = 7 ∨ e = 8 ∨ e = 9 ∨ e = 10 by omega) with rfl | rfl | rfl | rfl | rfl | rfl | rfl | rfl | rfl | rfl
  · have hi : ∀ w, (Instr.index 152 (.agg #[.int .i64 2, .int .i64 7, .int .i64 0, .int .i64 8, .int .i64 3, .int .i64 6, .int .i64 (-1), .int .i64 0, .int .i64 4, .int .i64 0]) (.int .i64 0)).run Try.prog w = .ok (.int .i64 (2)) w := fun _ => by kernel_rfl
    go_enter Try.func95, Try.ntmps95
    go_wp2_with (first | (go_at_call 102; refine (rowOf_1 _).mono ?_; rintro e w1 ⟨rfl, hb⟩; simp only [rowT, List.map_cons, List.map_nil]) | go_in)
    go_ret2
    exact twoB_of rfl hb
  · have hi : ∀ w, (Instr.index 152 (.agg #[.int .i64 2, .int .i64 7, .int .i64 0, .int .i64 8, .int .i64 3, .int .i64 6, .int .i64 (-1), .int .i64 0, .int .i64 4, .int .i64 0]) (.int .i64 1)).run Try.prog w = .ok (.int .i64 (7)) w := fun _ => by kernel_rfl
    go_enter Try.func95, Try.ntmps95
    go_wp2_with (first | (go_at_call 102; refine (rowOf_1 _).mono ?_; rintro e w1 ⟨rfl, hb⟩; simp only [rowT, List.map_cons, List.map_nil]) | go_in)
    go_ret2
    exact twoB_of rfl hb
  · have hi : ∀ w, (Instr.index 152 (.agg #[.int .i64 2, .int .i64 7, .int .i64 0, .int .i64 8, .int .i64 3, .int .i64 6, .int .i64 (-1), .int .i64 0, .int .i64 4, .int .i64 0]) (.int .i64 2)).run Try.prog w = .ok (.int .i64 (0)) w := fun _ => by kernel_rfl
    go_enter Try.func95, Try.ntmps95
    go_wp2_with (first | (go_at_call 102; refine (rowOf_1 _).mono ?_; rintro e w1 ⟨rfl, hb⟩; simp only [rowT, List.map_cons, List.map_nil]) | go_in)
    go_ret2
    exact twoB_of rfl hb
  · have hi : ∀ w, (Instr.index 152 (.agg #[.int .i64 2, .int .i64 7, .int .i64 0, .int .i64 8, .int .i64 3, .int .i64 6, .int .i64 (-1), .int .i64 0, .int .i64 4, .int .i64 0]) (.int .i64 3)).run Try.prog w = .ok (.int .i64 (8)) w := fun _ => by kernel_rfl
    go_enter Try.func95, Try.ntmps95
    go_wp2_with (first | (go_at_call 102; refine (rowOf_1 _).mono ?_; rintro e w1 ⟨rfl, hb⟩; simp only [rowT, List.map_cons, List.map_nil]) | go_in)
    go_ret2
    exact twoB_of rfl hb
  · have hi : ∀ w, (Instr.index 152 (.agg #[.int .i64 2, .int .i64 7, .int .i64 0, .int .i64 8, .int .i64 3, .int .i64 6, .int .i64 (-1), .int .i64 0, .int .i64 4, .int .i64 0]) (.int .i64 4)).run Try.prog w = .ok (.int .i64 (3)) w := fun _ => by kernel_rfl
    go_enter Try.func95, Try.ntmps95
    go_wp2_with (first | (go_at_call 102; refine (rowOf_1 _).mono ?_; rintro e w1 ⟨rfl, hb⟩; simp only [rowT, List.map_cons, List.map_nil]) | go_in)
    go_ret2
    exact twoB_of rfl hb
  · have hi : ∀ w, (Instr.index 152 (.agg #[.int .i64 2, .int .i64 7, .int .i64 0, .int .i64 8, .int .i64 3, .int .i64 6, .int .i64 (-1), .int .i64 0, .int .i64 4, .int .i64 0]) (.int .i64 5)).run Try.prog w = .ok (.int .i64 (6)) w := fun _ => by kernel_rfl
    go_enter Try.func95, Try.ntmps95
    go_wp2_with (first | (go_at_call 102; refine (rowOf_1 _).mono ?_; rintro e w1 ⟨rfl, hb⟩; simp only [rowT, List.map_cons, List.map_nil]) | go_in)
    go_ret2
    exact twoB_of rfl hb
  · have hi : ∀ w, (Instr.index 152 (.agg #[.int .i64 2, .int .i64 7, .int .i64 0, .int .i64 8, .int .i64 3, .int .i64 6, .int .i64 (-1), .int .i64 0, .int .i64 4, .int .i64 0]) (.int .i64 6)).run Try.prog w = .ok (.int .i64 (-1)) w := fun _ => by kernel_rfl
    go_enter Try.func95, Try.ntmps95
    go_wp2_with (first | (go_at_call 102; refine (rowOf_1 _).mono ?_; rintro e w1 ⟨rfl, hb⟩; simp only [rowT, List.map_cons, List.map_nil]) | go_in)
    go_ret2
    exact twoB_of rfl hb
  · have hi : ∀ w, (Instr.index 152 (.agg #[.int .i64 2, .int .i64 7, .int .i64 0, .int .i64 8, .int .i64 3, .int .i64 6, .int .i64 (-1), .int .i64 0, .int .i64 4, .int .i64 0]) (.int .i64 7)).run Try.prog w = .ok (.int .i64 (0)) w := fun _ => by kernel_rfl
    go_enter Try.func95, Try.ntmps95
    go_wp2_with (first | (go_at_call 102; refine (rowOf_1 _).mono ?_; rintro e w1 ⟨rfl, hb⟩; simp only [rowT, List.map_cons, List.map_nil]) | go_in)
    go_ret2
    exact twoB_of rfl hb
  · have hi : ∀ w, (Instr.index 152 (.agg #[.int .i64 2, .int .i64 7, .int .i64 0, .int .i64 8, .int .i64 3, .int .i64 6, .int .i64 (-1), .int .i64 0, .int .i64 4, .int .i64 0]) (.int .i64 8)).run Try.prog w = .ok (.int .i64 (4)) w := fun _ => by kernel_rfl
    go_enter Try.func95, Try.ntmps95
    go_wp2_with (first | (go_at_call 102; refine (rowOf_1 _).mono ?_; rintro e w1 ⟨rfl, hb⟩; simp only [rowT, List.map_cons, List.map_nil]) | go_in)
    go_ret2
    exact twoB_of rfl hb
  · have hi : ∀ w, (Instr.index 152 (.agg #[.int .i64 2, .int .i64 7, .int .i64 0, .int .i64 8, .int .i64 3, .int .i64 6, .int .i64 (-1), .int .i64 0, .int .i64 4, .int .i64 0]) (.int .i64 9)).run Try.prog w = .ok (.int .i64 (0)) w := fun _ => by kernel_rfl
    go_enter Try.func95, Try.ntmps95
    go_wp2_with (first | (go_at_call 102; refine (rowOf_1 _).mono ?_; rintro e w1 ⟨rfl, hb⟩; simp only [rowT, List.map_cons, List.map_nil]) | go_in)
    go_ret2
    exact twoB_of rfl hb
set_option maxHeartbeats 4000000 in
set_option maxRecDepth 100000 in
theorem next_2 (e c : Int) (w : World) (he : 1 ≤ e) (he2 : e ≤ 10) (hc : 0 ≤ c) : Calls Try.prog 95 #[.int .i64 2, .int .i64 e, .int .i64 c] w (TwoB (nt (toT 2 e) 2 c) w) := by
  rcases (show e = 1 ∨ e = 2 ∨ e = 3 ∨ e = 4 ∨ e = 5 ∨ e = 6 ∨ e = 7 ∨ e = 8 ∨ e = 9 ∨ e = 10 by omega) with rfl | rfl | rfl | rfl | rfl | rfl | rfl | rfl | rfl | rfl
  · have hi : ∀ w, (Instr.index 152 (.agg #[.int .i64 0, .int .i64 7, .int .i64 0, .int .i64 0, .int .i64 3, .int .i64 6, .int .i64 (-1), .int .i64 0, .int .i64 4, .int .i64 5]) (.int .i64 0)).run Try.prog w = .ok (.int .i64 (0)) w := fun _ => by kernel_rfl
    go_enter Try.func95, Try.ntmps95
    go_wp2_with (first | (go_at_call 102; refine (rowOf_2 _).mono ?_; rintro e w1 ⟨rfl, hb⟩; simp only [rowT, List.map_cons, List.map_nil]) | go_in)
    go_ret2
    exact twoB_of rfl hb
  · have hi : ∀ w, (Instr.index 152 (.agg #[.int .i64 0, .int .i64 7, .int .i64 0, .int .i64 0, .int .i64 3, .int .i64 6, .int .i64 (-1), .int .i64 0, .int .i64 4, .int .i64 5]) (.int .i64 1)).run Try.prog w = .ok (.int .i64 (7)) w := fun _ => by kernel_rfl
    go_enter Try.func95, Try.ntmps95
    go_wp2_with (first | (go_at_call 102; refine (rowOf_2 _).mono ?_; rintro e w1 ⟨rfl, hb⟩; simp only [rowT, List.map_cons, List.map_nil]) | go_in)
    go_ret2
    exact twoB_of rfl hb
  · have hi : ∀ w, (Instr.index 152 (.agg #[.int .i64 0, .int .i64 7, .int .i64 0, .int .i64 0, .int .i64 3, .int .i64 6, .int .i64 (-1), .int .i64 0, .int .i64 4, .int .i64 5]) (.int .i64 2)).run Try.prog w = .ok (.int .i64 (0)) w := fun _ => by kernel_rfl
    go_enter Try.func95, Try.ntmps95
    go_wp2_with (first | (go_at_call 102; refine (rowOf_2 _).mono ?_; rintro e w1 ⟨rfl, hb⟩; simp only [rowT, List.map_cons, List.map_nil]) | go_in)
    go_ret2
    exact twoB_of rfl hb
  · have hi : ∀ w, (Instr.index 152 (.agg #[.int .i64 0, .int .i64 7, .int .i64 0, .int .i64 0, .int .i64 3, .int .i64 6, .int .i64 (-1), .int .i64 0, .int .i64 4, .int .i64 5]) (.int .i64 3)).run Try.prog w = .ok (.int .i64 (0)) w := fun _ => by kernel_rfl
    go_enter Try.func95, Try.ntmps95
    go_wp2_with (first | (go_at_call 102; refine (rowOf_2 _).mono ?_; rintro e w1 ⟨rfl, hb⟩; simp only [rowT, List.map_cons, List.map_nil]) | go_in)
    go_ret2
    exact twoB_of rfl hb
  · have hi : ∀ w, (Instr.index 152 (.agg #[.int .i64 0, .int .i64 7, .int .i64 0, .int .i64 0, .int .i64 3, .int .i64 6, .int .i64 (-1), .int .i64 0, .int .i64 4, .int .i64 5]) (.int .i64 4)).run Try.prog w = .ok (.int .i64 (3)) w := fun _ => by kernel_rfl
    go_enter Try.func95, Try.ntmps95
    go_wp2_with (first | (go_at_call 102; refine (rowOf_2 _).mono ?_; rintro e w1 ⟨rfl, hb⟩; simp only [rowT, List.map_cons, List.map_nil]) | go_in)
    go_ret2
    exact twoB_of rfl hb
  · have hi : ∀ w, (Instr.index 152 (.agg #[.int .i64 0, .int .i64 7, .int .i64 0, .int .i64 0, .int .i64 3, .int .i64 6, .int .i64 (-1), .int .i64 0, .int .i64 4, .int .i64 5]) (.int .i64 5)).run Try.prog w = .ok (.int .i64 (6)) w := fun _ => by kernel_rfl
    go_enter Try.func95, Try.ntmps95
    go_wp2_with (first | (go_at_call 102; refine (rowOf_2 _).mono ?_; rintro e w1 ⟨rfl, hb⟩; simp only [rowT, List.map_cons, List.map_nil]) | go_in)
    go_ret2
    exact twoB_of rfl hb
  · have hi : ∀ w, (Instr.index 152 (.agg #[.int .i64 0, .int .i64 7, .int .i64 0, .int .i64 0, .int .i64 3, .int .i64 6, .int .i64 (-1), .int .i64 0, .int .i64 4, .int .i64 5]) (.int .i64 6)).run Try.prog w = .ok (.int .i64 (-1)) w := fun _ => by kernel_rfl
    go_enter Try.func95, Try.ntmps95
    go_wp2_with (first | (go_at_call 102; refine (rowOf_2 _).mono ?_; rintro e w1 ⟨rfl, hb⟩; simp only [rowT, List.map_cons, List.map_nil]) | go_in)
    go_ret2
    exact twoB_of rfl hb
  · have hi : ∀ w, (Instr.index 152 (.agg #[.int .i64 0, .int .i64 7, .int .i64 0, .int .i64 0, .int .i64 3, .int .i64 6, .int .i64 (-1), .int .i64 0, .int .i64 4, .int .i64 5]) (.int .i64 7)).run Try.prog w = .ok (.int .i64 (0)) w := fun _ => by kernel_rfl
    go_enter Try.func95, Try.ntmps95
    go_wp2_with (first | (go_at_call 102; refine (rowOf_2 _).mono ?_; rintro e w1 ⟨rfl, hb⟩; simp only [rowT, List.map_cons, List.map_nil]) | go_in)
    go_ret2
    exact twoB_of rfl hb
  · have hi : ∀ w, (Instr.index 152 (.agg #[.int .i64 0, .int .i64 7, .int .i64 0, .int .i64 0, .int .i64 3, .int .i64 6, .int .i64 (-1), .int .i64 0, .int .i64 4, .int .i64 5]) (.int .i64 8)).run Try.prog w = .ok (.int .i64 (4)) w := fun _ => by kernel_rfl
    go_enter Try.func95, Try.ntmps95
    go_wp2_with (first | (go_at_call 102; refine (rowOf_2 _).mono ?_; rintro e w1 ⟨rfl, hb⟩; simp only [rowT, List.map_cons, List.map_nil]) | go_in)
    go_ret2
    exact twoB_of rfl hb
  · have hi : ∀ w, (Instr.index 152 (.agg #[.int .i64 0, .int .i64 7, .int .i64 0, .int .i64 0, .int .i64 3, .int .i64 6, .int .i64 (-1), .int .i64 0, .int .i64 4, .int .i64 5]) (.int .i64 9)).run Try.prog w = .ok (.int .i64 (5)) w := fun _ => by kernel_rfl
    go_enter Try.func95, Try.ntmps95
    go_wp2_with (first | (go_at_call 102; refine (rowOf_2 _).mono ?_; rintro e w1 ⟨rfl, hb⟩; simp only [rowT, List.map_cons, List.map_nil]) | go_in)
    go_ret2
    exact twoB_of rfl hb
set_option maxHeartbeats 4000000 in
set_option maxRecDepth 100000 in
theorem next_3 (e c : Int) (w : World) (he : 1 ≤ e) (he2 : e ≤ 10) (hc : 0 ≤ c) : Calls Try.prog 95 #[.int .i64 3, .int .i64 e, .int .i64 c] w (TwoB (nt (toT 3 e) 3 c) w) := by
  rcases (show e = 1 ∨ e = 2 ∨ e = 3 ∨ e = 4 ∨ e = 5 ∨ e = 6 ∨ e = 7 ∨ e = 8 ∨ e = 9 ∨ e = 10 by omega) with rfl | rfl | rfl | rfl | rfl | rfl | rfl | rfl | rfl | rfl
  · have hi : ∀ w, (Instr.index 152 (.agg #[.int .i64 (-1), .int .i64 7, .int .i64 0, .int .i64 0, .int .i64 (-1), .int .i64 6, .int .i64 (-2), .int .i64 0, .int .i64 4, .int .i64 5]) (.int .i64 0)).run Try.prog w = .ok (.int .i64 (-1)) w := fun _ => by kernel_rfl
    go_enter Try.func95, Try.ntmps95
    go_wp2_with (first | (go_at_call 102; refine (rowOf_3 _).mono ?_; rintro e w1 ⟨rfl, hb⟩; simp only [rowT, List.map_cons, List.map_nil]) | go_in)
    go_ret2
    exact twoB_of rfl hb
  · have hi : ∀ w, (Instr.index 152 (.agg #[.int .i64 (-1), .int .i64 7, .int .i64 0, .int .i64 0, .int .i64 (-1), .int .i64 6, .int .i64 (-2), .int .i64 0, .int .i64 4, .int .i64 5]) (.int .i64 1)).run Try.prog w = .ok (.int .i64 (7)) w := fun _ => by kernel_rfl
    go_enter Try.func95, Try.ntmps95
    go_wp2_with (first | (go_at_call 102; refine (rowOf_3 _).mono ?_; rintro e w1 ⟨rfl, hb⟩; simp only [rowT, List.map_cons, List.map_nil]) | go_in)
    go_ret2
    exact twoB_of rfl hb
  · have hi : ∀ w, (Instr.index 152 (.agg #[.int .i64 (-1), .int .i64 7, .int .i64 0, .int .i64 0, .int .i64 (-1), .int .i64 6, .int .i64 (-2), .int .i64 0, .int .i64 4, .int .i64 5]) (.int .i64 2)).run Try.prog w = .ok (.int .i64 (0)) w := fun _ => by kernel_rfl
    go_enter Try.func95, Try.ntmps95
    go_wp2_with (first | (go_at_call 102; refine (rowOf_3 _).mono ?_; rintro e w1 ⟨rfl, hb⟩; simp only [rowT, List.map_cons, List.map_nil]) | go_in)
    go_ret2
    exact twoB_of rfl hb
  · have hi : ∀ w, (Instr.index 152 (.agg #[.int .i64 (-1), .int .i64 7, .int .i64 0, .int .i64 0, .int .i64 (-1), .int .i64 6, .int .i64 (-2), .int .i64 0, .int .i64 4, .int .i64 5]) (.int .i64 3)).run Try.prog w = .ok (.int .i64 (0)) w := fun _ => by kernel_rfl
    go_enter Try.func95, Try.ntmps95
    go_wp2_with (first | (go_at_call 102; refine (rowOf_3 _).mono ?_; rintro e w1 ⟨rfl, hb⟩; simp only [rowT, List.map_cons, List.map_nil]) | go_in)
    go_ret2
    exact twoB_of rfl hb
  · have hi : ∀ w, (Instr.index 152 (.agg #[.int .i64 (-1), .int .i64 7, .int .i64 0, .int .i64 0, .int .i64 (-1), .int .i64 6, .int .i64 (-2), .int .i64 0, .int .i64 4, .int .i64 5]) (.int .i64 4)).run Try.prog w = .ok (.int .i64 (-1)) w := fun _ => by kernel_rfl
    go_enter Try.func95, Try.ntmps95
    go_wp2_with (first | (go_at_call 102; refine (rowOf_3 _).mono ?_; rintro e w1 ⟨rfl, hb⟩; simp only [rowT, List.map_cons, List.map_nil]) | go_in)
    go_ret2
    exact twoB_of rfl hb
  · have hi : ∀ w, (Instr.index 152 (.agg #[.int .i64 (-1), .int .i64 7, .int .i64 0, .int .i64 0, .int .i64 (-1), .int .i64 6, .int .i64 (-2), .int .i64 0, .int .i64 4, .int .i64 5]) (.int .i64 5)).run Try.prog w = .ok (.int .i64 (6)) w := fun _ => by kernel_rfl
    go_enter Try.func95, Try.ntmps95
    go_wp2_with (first | (go_at_call 102; refine (rowOf_3 _).mono ?_; rintro e w1 ⟨rfl, hb⟩; simp only [rowT, List.map_cons, List.map_nil]) | go_in)
    go_ret2
    exact twoB_of rfl hb
  · by_cases h : 0 < c
    · have hi : ∀ w, (Instr.index 152 (.agg #[.int .i64 (-1), .int .i64 7, .int .i64 0, .int .i64 0, .int .i64 (-1), .int .i64 6, .int .i64 (-2), .int .i64 0, .int .i64 4, .int .i64 5]) (.int .i64 6)).run Try.prog w = .ok (.int .i64 (-2)) w := fun _ => by kernel_rfl
      go_enter Try.func95, Try.ntmps95
      go_wp2_with (first | (go_at_call 102; refine (rowOf_3 _).mono ?_; rintro e w1 ⟨rfl, hb⟩; simp only [rowT, List.map_cons, List.map_nil]) | go_in)
      go_ret2
      exact twoB_of (by show ((if 0 < c then (3 : Int) else 2), (0 : Int)) = _; rw [if_pos (by omega)]) hb
    · have hi : ∀ w, (Instr.index 152 (.agg #[.int .i64 (-1), .int .i64 7, .int .i64 0, .int .i64 0, .int .i64 (-1), .int .i64 6, .int .i64 (-2), .int .i64 0, .int .i64 4, .int .i64 5]) (.int .i64 6)).run Try.prog w = .ok (.int .i64 (-2)) w := fun _ => by kernel_rfl
      go_enter Try.func95, Try.ntmps95
      go_wp2_with (first | (go_at_call 102; refine (rowOf_3 _).mono ?_; rintro e w1 ⟨rfl, hb⟩; simp only [rowT, List.map_cons, List.map_nil]) | go_in)
      go_ret2
      exact twoB_of (by show ((if 0 < c then (3 : Int) else 2), (0 : Int)) = _; rw [if_neg (by omega)]) hb
  · have hi : ∀ w, (Instr.index 152 (.agg #[.int .i64 (-1), .int .i64 7, .int .i64 0, .int .i64 0, .int .i64 (-1), .int .i64 6, .int .i64 (-2), .int .i64 0, .int .i64 4, .int .i64 5]) (.int .i64 7)).run Try.prog w = .ok (.int .i64 (0)) w := fun _ => by kernel_rfl
    go_enter Try.func95, Try.ntmps95
    go_wp2_with (first | (go_at_call 102; refine (rowOf_3 _).mono ?_; rintro e w1 ⟨rfl, hb⟩; simp only [rowT, List.map_cons, List.map_nil]) | go_in)
    go_ret2
    exact twoB_of rfl hb
  · have hi : ∀ w, (Instr.index 152 (.agg #[.int .i64 (-1), .int .i64 7, .int .i64 0, .int .i64 0, .int .i64 (-1), .int .i64 6, .int .i64 (-2), .int .i64 0, .int .i64 4, .int .i64 5]) (.int .i64 8)).run Try.prog w = .ok (.int .i64 (4)) w := fun _ => by kernel_rfl
    go_enter Try.func95, Try.ntmps95
    go_wp2_with (first | (go_at_call 102; refine (rowOf_3 _).mono ?_; rintro e w1 ⟨rfl, hb⟩; simp only [rowT, List.map_cons, List.map_nil]) | go_in)
    go_ret2
    exact twoB_of rfl hb
  · have hi : ∀ w, (Instr.index 152 (.agg #[.int .i64 (-1), .int .i64 7, .int .i64 0, .int .i64 0, .int .i64 (-1), .int .i64 6, .int .i64 (-2), .int .i64 0, .int .i64 4, .int .i64 5]) (.int .i64 9)).run Try.prog w = .ok (.int .i64 (5)) w := fun _ => by kernel_rfl
    go_enter Try.func95, Try.ntmps95
    go_wp2_with (first | (go_at_call 102; refine (rowOf_3 _).mono ?_; rintro e w1 ⟨rfl, hb⟩; simp only [rowT, List.map_cons, List.map_nil]) | go_in)
    go_ret2
    exact twoB_of rfl hb
set_option maxHeartbeats 4000000 in
set_option maxRecDepth 100000 in
theorem next_4 (e c : Int) (w : World) (he : 1 ≤ e) (he2 : e ≤ 10) (hc : 0 ≤ c) : Calls Try.prog 95 #[.int .i64 4, .int .i64 e, .int .i64 c] w (TwoB (nt (toT 4 e) 4 c) w) := by
  rcases (show e = 1 ∨ e = 2 ∨ e = 3 ∨ e = 4 ∨ e = 5 ∨ e = 6 ∨ e = 7 ∨ e = 8 ∨ e = 9 ∨ e = 10 by omega) with rfl | rfl | rfl | rfl | rfl | rfl | rfl | rfl | rfl | rfl
  · have hi : ∀ w, (Instr.index 152 (.agg #[.int .i64 (-1), .int .i64 7, .int .i64 0, .int .i64 8, .int .i64 (-1), .int .i64 6, .int .i64 (-1), .int .i64 (-2), .int .i64 0, .int .i64 0]) (.int .i64 0)).run Try.prog w = .ok (.int .i64 (-1)) w := fun _ => by kernel_rfl
    go_enter Try.func95, Try.ntmps95
    go_wp2_with (first | (go_at_call 102; refine (rowOf_4 _).mono ?_; rintro e w1 ⟨rfl, hb⟩; simp only [rowT, List.map_cons, List.map_nil]) | go_in)
    go_ret2
    exact twoB_of rfl hb
  · have hi : ∀ w, (Instr.index 152 (.agg #[.int .i64 (-1), .int .i64 7, .int .i64 0, .int .i64 8, .int .i64 (-1), .int .i64 6, .int .i64 (-1), .int .i64 (-2), .int .i64 0, .int .i64 0]) (.int .i64 1)).run Try.prog w = .ok (.int .i64 (7)) w := fun _ => by kernel_rfl
    go_enter Try.func95, Try.ntmps95
    go_wp2_with (first | (go_at_call 102; refine (rowOf_4 _).mono ?_; rintro e w1 ⟨rfl, hb⟩; simp only [rowT, List.map_cons, List.map_nil]) | go_in)
    go_ret2
    exact twoB_of rfl hb
  · have hi : ∀ w, (Instr.index 152 (.agg #[.int .i64 (-1), .int .i64 7, .int .i64 0, .int .i64 8, .int .i64 (-1), .int .i64 6, .int .i64 (-1), .int .i64 (-2), .int .i64 0, .int .i64 0]) (.int .i64 2)).run Try.prog w = .ok (.int .i64 (0)) w := fun _ => by kernel_rfl
    go_enter Try.func95, Try.ntmps95
    go_wp2_with (first | (go_at_call 102; refine (rowOf_4 _).mono ?_; rintro e w1 ⟨rfl, hb⟩; simp only [rowT, List.map_cons, List.map_nil]) | go_in)
    go_ret2
    exact twoB_of rfl hb
  · have hi : ∀ w, (Instr.index 152 (.agg #[.int .i64 (-1), .int .i64 7, .int .i64 0, .int .i64 8, .int .i64 (-1), .int .i64 6, .int .i64 (-1), .int .i64 (-2), .int .i64 0, .int .i64 0]) (.int .i64 3)).run Try.prog w = .ok (.int .i64 (8)) w := fun _ => by kernel_rfl
    go_enter Try.func95, Try.ntmps95
    go_wp2_with (first | (go_at_call 102; refine (rowOf_4 _).mono ?_; rintro e w1 ⟨rfl, hb⟩; simp only [rowT, List.map_cons, List.map_nil]) | go_in)
    go_ret2
    exact twoB_of rfl hb
  · have hi : ∀ w, (Instr.index 152 (.agg #[.int .i64 (-1), .int .i64 7, .int .i64 0, .int .i64 8, .int .i64 (-1), .int .i64 6, .int .i64 (-1), .int .i64 (-2), .int .i64 0, .int .i64 0]) (.int .i64 4)).run Try.prog w = .ok (.int .i64 (-1)) w := fun _ => by kernel_rfl
    go_enter Try.func95, Try.ntmps95
    go_wp2_with (first | (go_at_call 102; refine (rowOf_4 _).mono ?_; rintro e w1 ⟨rfl, hb⟩; simp only [rowT, List.map_cons, List.map_nil]) | go_in)
    go_ret2
    exact twoB_of rfl hb
  · have hi : ∀ w, (Instr.index 152 (.agg #[.int .i64 (-1), .int .i64 7, .int .i64 0, .int .i64 8, .int .i64 (-1), .int .i64 6, .int .i64 (-1), .int .i64 (-2), .int .i64 0, .int .i64 0]) (.int .i64 5)).run Try.prog w = .ok (.int .i64 (6)) w := fun _ => by kernel_rfl
    go_enter Try.func95, Try.ntmps95
    go_wp2_with (first | (go_at_call 102; refine (rowOf_4 _).mono ?_; rintro e w1 ⟨rfl, hb⟩; simp only [rowT, List.map_cons, List.map_nil]) | go_in)
    go_ret2
    exact twoB_of rfl hb
  · have hi : ∀ w, (Instr.index 152 (.agg #[.int .i64 (-1), .int .i64 7, .int .i64 0, .int .i64 8, .int .i64 (-1), .int .i64 6, .int .i64 (-1), .int .i64 (-2), .int .i64 0, .int .i64 0]) (.int .i64 6)).run Try.prog w = .ok (.int .i64 (-1)) w := fun _ => by kernel_rfl
    go_enter Try.func95, Try.ntmps95
    go_wp2_with (first | (go_at_call 102; refine (rowOf_4 _).mono ?_; rintro e w1 ⟨rfl, hb⟩; simp only [rowT, List.map_cons, List.map_nil]) | go_in)
    go_ret2
    exact twoB_of rfl hb
  · by_cases h : 0 < c
    · have hi : ∀ w, (Instr.index 152 (.agg #[.int .i64 (-1), .int .i64 7, .int .i64 0, .int .i64 8, .int .i64 (-1), .int .i64 6, .int .i64 (-1), .int .i64 (-2), .int .i64 0, .int .i64 0]) (.int .i64 7)).run Try.prog w = .ok (.int .i64 (-2)) w := fun _ => by kernel_rfl
      go_enter Try.func95, Try.ntmps95
      go_wp2_with (first | (go_at_call 102; refine (rowOf_4 _).mono ?_; rintro e w1 ⟨rfl, hb⟩; simp only [rowT, List.map_cons, List.map_nil]) | go_in)
      go_ret2
      exact twoB_of (by show ((if 0 < c then (3 : Int) else 2), (0 : Int)) = _; rw [if_pos (by omega)]) hb
    · have hi : ∀ w, (Instr.index 152 (.agg #[.int .i64 (-1), .int .i64 7, .int .i64 0, .int .i64 8, .int .i64 (-1), .int .i64 6, .int .i64 (-1), .int .i64 (-2), .int .i64 0, .int .i64 0]) (.int .i64 7)).run Try.prog w = .ok (.int .i64 (-2)) w := fun _ => by kernel_rfl
      go_enter Try.func95, Try.ntmps95
      go_wp2_with (first | (go_at_call 102; refine (rowOf_4 _).mono ?_; rintro e w1 ⟨rfl, hb⟩; simp only [rowT, List.map_cons, List.map_nil]) | go_in)
      go_ret2
      exact twoB_of (by show ((if 0 < c then (3 : Int) else 2), (0 : Int)) = _; rw [if_neg (by omega)]) hb
  · have hi : ∀ w, (Instr.index 152 (.agg #[.int .i64 (-1), .int .i64 7, .int .i64 0, .int .i64 8, .int .i64 (-1), .int .i64 6, .int .i64 (-1), .int .i64 (-2), .int .i64 0, .int .i64 0]) (.int .i64 8)).run Try.prog w = .ok (.int .i64 (0)) w := fun _ => by kernel_rfl
    go_enter Try.func95, Try.ntmps95
    go_wp2_with (first | (go_at_call 102; refine (rowOf_4 _).mono ?_; rintro e w1 ⟨rfl, hb⟩; simp only [rowT, List.map_cons, List.map_nil]) | go_in)
    go_ret2
    exact twoB_of rfl hb
  · have hi : ∀ w, (Instr.index 152 (.agg #[.int .i64 (-1), .int .i64 7, .int .i64 0, .int .i64 8, .int .i64 (-1), .int .i64 6, .int .i64 (-1), .int .i64 (-2), .int .i64 0, .int .i64 0]) (.int .i64 9)).run Try.prog w = .ok (.int .i64 (0)) w := fun _ => by kernel_rfl
    go_enter Try.func95, Try.ntmps95
    go_wp2_with (first | (go_at_call 102; refine (rowOf_4 _).mono ?_; rintro e w1 ⟨rfl, hb⟩; simp only [rowT, List.map_cons, List.map_nil]) | go_in)
    go_ret2
    exact twoB_of rfl hb
set_option maxHeartbeats 4000000 in
set_option maxRecDepth 100000 in
theorem next_5 (e c : Int) (w : World) (he : 1 ≤ e) (he2 : e ≤ 10) (hc : 0 ≤ c) : Calls Try.prog 95 #[.int .i64 5, .int .i64 e, .int .i64 c] w (TwoB (nt (toT 5 e) 5 c) w) := by
  rcases (show e = 1 ∨ e = 2 ∨ e = 3 ∨ e = 4 ∨ e = 5 ∨ e = 6 ∨ e = 7 ∨ e = 8 ∨ e = 9 ∨ e = 10 by omega) with rfl | rfl | rfl | rfl | rfl | rfl | rfl | rfl | rfl | rfl
  · have hi : ∀ w, (Instr.index 152 (.agg #[.int .i64 0, .int .i64 7, .int .i64 (-2), .int .i64 0, .int .i64 (-1), .int .i64 6, .int .i64 (-1), .int .i64 (-2), .int .i64 0, .int .i64 0]) (.int .i64 0)).run Try.prog w = .ok (.int .i64 (0)) w := fun _ => by kernel_rfl
    go_enter Try.func95, Try.ntmps95
    go_wp2_with (first | (go_at_call 102; refine (rowOf_5 _).mono ?_; rintro e w1 ⟨rfl, hb⟩; simp only [rowT, List.map_cons, List.map_nil]) | go_in)
    go_ret2
    exact twoB_of rfl hb
  · have hi : ∀ w, (Instr.index 152 (.agg #[.int .i64 0, .int .i64 7, .int .i64 (-2), .int .i64 0, .int .i64 (-1), .int .i64 6, .int .i64 (-1), .int .i64 (-2), .int .i64 0, .int .i64 0]) (.int .i64 1)).run Try.prog w = .ok (.int .i64 (7)) w := fun _ => by kernel_rfl
    go_enter Try.func95, Try.ntmps95
    go_wp2_with (first | (go_at_call 102; refine (rowOf_5 _).mono ?_; rintro e w1 ⟨rfl, hb⟩; simp only [rowT, List.map_cons, List.map_nil]) | go_in)
    go_ret2
    exact twoB_of rfl hb
  · by_cases h : 0 < c
    · have hi : ∀ w, (Instr.index 152 (.agg #[.int .i64 0, .int .i64 7, .int .i64 (-2), .int .i64 0, .int .i64 (-1), .int .i64 6, .int .i64 (-1), .int .i64 (-2), .int .i64 0, .int .i64 0]) (.int .i64 2)).run Try.prog w = .ok (.int .i64 (-2)) w := fun _ => by kernel_rfl
      go_enter Try.func95, Try.ntmps95
      go_wp2_with (first | (go_at_call 102; refine (rowOf_5 _).mono ?_; rintro e w1 ⟨rfl, hb⟩; simp only [rowT, List.map_cons, List.map_nil]) | go_in)
      go_ret2
      exact twoB_of (by show ((if 0 < c then (3 : Int) else 2), (0 : Int)) = _; rw [if_pos (by omega)]) hb
    · have hi : ∀ w, (Instr.index 152 (.agg #[.int .i64 0, .int .i64 7, .int .i64 (-2), .int .i64 0, .int .i64 (-1), .int .i64 6, .int .i64 (-1), .int .i64 (-2), .int .i64 0, .int .i64 0]) (.int .i64 2)).run Try.prog w = .ok (.int .i64 (-2)) w := fun _ => by kernel_rfl
      go_enter Try.func95, Try.ntmps95
      go_wp2_with (first | (go_at_call 102; refine (rowOf_5 _).mono ?_; rintro e w1 ⟨rfl, hb⟩; simp only [rowT, List.map_cons, List.map_nil]) | go_in)
      go_ret2
      exact twoB_of (by show ((if 0 < c then (3 : Int) else 2), (0 : Int)) = _; rw [if_neg (by omega)]) hb
  · have hi : ∀ w, (Instr.index 152 (.agg #[.int .i64 0, .int .i64 7, .int .i64 (-2), .int .i64 0, .int .i64 (-1), .int .i64 6, .int .i64 (-1), .int .i64 (-2), .int .i64 0, .int .i64 0]) (.int .i64 3)).run Try.prog w = .ok (.int .i64 (0)) w := fun _ => by kernel_rfl
    go_enter Try.func95, Try.ntmps95
    go_wp2_with (first | (go_at_call 102; refine (rowOf_5 _).mono ?_; rintro e w1 ⟨rfl, hb⟩; simp only [rowT, List.map_cons, List.map_nil]) | go_in)
    go_ret2
    exact twoB_of rfl hb
  · have hi : ∀ w, (Instr.index 152 (.agg #[.int .i64 0, .int .i64 7, .int .i64 (-2), .int .i64 0, .int .i64 (-1), .int .i64 6, .int .i64 (-1), .int .i64 (-2), .int .i64 0, .int .i64 0]) (.int .i64 4)).run Try.prog w = .ok (.int .i64 (-1)) w := fun _ => by kernel_rfl
    go_enter Try.func95, Try.ntmps95
    go_wp2_with (first | (go_at_call 102; refine (rowOf_5 _).mono ?_; rintro e w1 ⟨rfl, hb⟩; simp only [rowT, List.map_cons, List.map_nil]) | go_in)
    go_ret2
    exact twoB_of rfl hb
  · have hi : ∀ w, (Instr.index 152 (.agg #[.int .i64 0, .int .i64 7, .int .i64 (-2), .int .i64 0, .int .i64 (-1), .int .i64 6, .int .i64 (-1), .int .i64 (-2), .int .i64 0, .int .i64 0]) (.int .i64 5)).run Try.prog w = .ok (.int .i64 (6)) w := fun _ => by kernel_rfl
    go_enter Try.func95, Try.ntmps95
    go_wp2_with (first | (go_at_call 102; refine (rowOf_5 _).mono ?_; rintro e w1 ⟨rfl, hb⟩; simp only [rowT, List.map_cons, List.map_nil]) | go_in)
    go_ret2
    exact twoB_of rfl hb
  · have hi : ∀ w, (Instr.index 152 (.agg #[.int .i64 0, .int .i64 7, .int .i64 (-2), .int .i64 0, .int .i64 (-1), .int .i64 6, .int .i64 (-1), .int .i64 (-2), .int .i64 0, .int .i64 0]) (.int .i64 6)).run Try.prog w = .ok (.int .i64 (-1)) w := fun _ => by kernel_rfl
    go_enter Try.func95, Try.ntmps95
    go_wp2_with (first | (go_at_call 102; refine (rowOf_5 _).mono ?_; rintro e w1 ⟨rfl, hb⟩; simp only [rowT, List.map_cons, List.map_nil]) | go_in)
    go_ret2
    exact twoB_of rfl hb
  · by_cases h : 0 < c
    · have hi : ∀ w, (Instr.index 152 (.agg #[.int .i64 0, .int .i64 7, .int .i64 (-2), .int .i64 0, .int .i64 (-1), .int .i64 6, .int .i64 (-1), .int .i64 (-2), .int .i64 0, .int .i64 0]) (.int .i64 7)).run Try.prog w = .ok (.int .i64 (-2)) w := fun _ => by kernel_rfl
      go_enter Try.func95, Try.ntmps95
      go_wp2_with (first | (go_at_call 102; refine (rowOf_5 _).mono ?_; rintro e w1 ⟨rfl, hb⟩; simp only [rowT, List.map_cons, List.map_nil]) | go_in)
      go_ret2
      exact twoB_of (by show ((if 0 < c then (3 : Int) else 2), (0 : Int)) = _; rw [if_pos (by omega)]) hb
    · have hi : ∀ w, (Instr.index 152 (.agg #[.int .i64 0, .int .i64 7, .int .i64 (-2), .int .i64 0, .int .i64 (-1), .int .i64 6, .int .i64 (-1), .int .i64 (-2), .int .i64 0, .int .i64 0]) (.int .i64 7)).run Try.prog w = .ok (.int .i64 (-2)) w := fun _ => by kernel_rfl
      go_enter Try.func95, Try.ntmps95
      go_wp2_with (first | (go_at_call 102; refine (rowOf_5 _).mono ?_; rintro e w1 ⟨rfl, hb⟩; simp only [rowT, List.map_cons, List.map_nil]) | go_in)
      go_ret2
      exact twoB_of (by show ((if 0 < c then (3 : Int) else 2), (0 : Int)) = _; rw [if_neg (by omega)]) hb
  · have hi : ∀ w, (Instr.index 152 (.agg #[.int .i64 0, .int .i64 7, .int .i64 (-2), .int .i64 0, .int .i64 (-1), .int .i64 6, .int .i64 (-1), .int .i64 (-2), .int .i64 0, .int .i64 0]) (.int .i64 8)).run Try.prog w = .ok (.int .i64 (0)) w := fun _ => by kernel_rfl
    go_enter Try.func95, Try.ntmps95
    go_wp2_with (first | (go_at_call 102; refine (rowOf_5 _).mono ?_; rintro e w1 ⟨rfl, hb⟩; simp only [rowT, List.map_cons, List.map_nil]) | go_in)
    go_ret2
    exact twoB_of rfl hb
  · have hi : ∀ w, (Instr.index 152 (.agg #[.int .i64 0, .int .i64 7, .int .i64 (-2), .int .i64 0, .int .i64 (-1), .int .i64 6, .int .i64 (-1), .int .i64 (-2), .int .i64 0, .int .i64 0]) (.int .i64 9)).run Try.prog w = .ok (.int .i64 (0)) w := fun _ => by kernel_rfl
    go_enter Try.func95, Try.ntmps95
    go_wp2_with (first | (go_at_call 102; refine (rowOf_5 _).mono ?_; rintro e w1 ⟨rfl, hb⟩; simp only [rowT, List.map_cons, List.map_nil]) | go_in)
    go_ret2
    exact twoB_of rfl hb
set_option maxHeartbeats 4000000 in
set_option maxRecDepth 100000 in
theorem next_6 (e c : Int) (w : World) (he : 1 ≤ e) (he2 : e ≤ 10) (hc : 0 ≤ c) : Calls Try.prog 95 #[.int .i64 6, .int .i64 e, .int .i64 c] w (TwoB (nt (toT 6 e) 6 c) w) := by
  rcases (show e = 1 ∨ e = 2 ∨ e = 3 ∨ e = 4 ∨ e = 5 ∨ e = 6 ∨ e = 7 ∨ e = 8 ∨ e = 9 ∨ e = 10 by omega) with rfl | rfl | rfl | rfl | rfl | rfl | rfl | rfl | rfl | rfl
  · have hi : ∀ w, (Instr.index 152 (.agg #[.int .i64 0, .int .i64 0, .int .i64 0, .int .i64 0, .int .i64 0, .int .i64 0, .int .i64 (-1), .int .i64 0, .int .i64 0, .int .i64 0]) (.int .i64 0)).run Try.prog w = .ok (.int .i64 (0)) w := fun _ => by kernel_rfl
    go_enter Try.func95, Try.ntmps95
    go_wp2_with (first | (go_at_call 102; refine (rowOf_6 _).mono ?_; rintro e w1 ⟨rfl, hb⟩; simp only [rowT, List.map_cons, List.map_nil]) | go_in)
    go_ret2
    exact twoB_of rfl hb
  · have hi : ∀ w, (Instr.index 152 (.agg #[.int .i64 0, .int .i64 0, .int .i64 0, .int .i64 0, .int .i64 0, .int .i64 0, .int .i64 (-1), .int .i64 0, .int .i64 0, .int .i64 0]) (.int .i64 1)).run Try.prog w = .ok (.int .i64 (0)) w := fun _ => by kernel_rfl
    go_enter Try.func95, Try.ntmps95
    go_wp2_with (first | (go_at_call 102; refine (rowOf_6 _).mono ?_; rintro e w1 ⟨rfl, hb⟩; simp only [rowT, List.map_cons, List.map_nil]) | go_in)
    go_ret2
    exact twoB_of rfl hb
  · have hi : ∀ w, (Instr.index 152 (.agg #[.int .i64 0, .int .i64 0, .int .i64 0, .int .i64 0, .int .i64 0, .int .i64 0, .int .i64 (-1), .int .i64 0, .int .i64 0, .int .i64 0]) (.int .i64 2)).run Try.prog w = .ok (.int .i64 (0)) w := fun _ => by kernel_rfl
    go_enter Try.func95, Try.ntmps95
    go_wp2_with (first | (go_at_call 102; refine (rowOf_6 _).mono ?_; rintro e w1 ⟨rfl, hb⟩; simp only [rowT, List.map_cons, List.map_nil]) | go_in)
    go_ret2
    exact twoB_of rfl hb
  · have hi : ∀ w, (Instr.index 152 (.agg #[.int .i64 0, .int .i64 0, .int .i64 0, .int .i64 0, .int .i64 0, .int .i64 0, .int .i64 (-1), .int .i64 0, .int .i64 0, .int .i64 0]) (.int .i64 3)).run Try.prog w = .ok (.int .i64 (0)) w := fun _ => by kernel_rfl
    go_enter Try.func95, Try.ntmps95
    go_wp2_with (first | (go_at_call 102; refine (rowOf_6 _).mono ?_; rintro e w1 ⟨rfl, hb⟩; simp only [rowT, List.map_cons, List.map_nil]) | go_in)
    go_ret2
    exact twoB_of rfl hb
  · have hi : ∀ w, (Instr.index 152 (.agg #[.int .i64 0, .int .i64 0, .int .i64 0, .int .i64 0, .int .i64 0, .int .i64 0, .int .i64 (-1), .int .i64 0, .int .i64 0, .int .i64 0]) (.int .i64 4)).run Try.prog w = .ok (.int .i64 (0)) w := fun _ => by kernel_rfl
    go_enter Try.func95, Try.ntmps95
    go_wp2_with (first | (go_at_call 102; refine (rowOf_6 _).mono ?_; rintro e w1 ⟨rfl, hb⟩; simp only [rowT, List.map_cons, List.map_nil]) | go_in)
    go_ret2
    exact twoB_of rfl hb
  · have hi : ∀ w, (Instr.index 152 (.agg #[.int .i64 0, .int .i64 0, .int .i64 0, .int .i64 0, .int .i64 0, .int .i64 0, .int .i64 (-1), .int .i64 0, .int .i64 0, .int .i64 0]) (.int .i64 5)).run Try.prog w = .ok (.int .i64 (0)) w := fun _ => by kernel_rfl
    go_enter Try.func95, Try.ntmps95
    go_wp2_with (first | (go_at_call 102; refine (rowOf_6 _).mono ?_; rintro e w1 ⟨rfl, hb⟩; simp only [rowT, List.map_cons, List.map_nil]) | go_in)
    go_ret2
    exact twoB_of rfl hb
  · have hi : ∀ w, (Instr.index 152 (.agg #[.int .i64 0, .int .i64 0, .int .i64 0, .int .i64 0, .int .i64 0, .int .i64 0, .int .i64 (-1), .int .i64 0, .int .i64 0, .int .i64 0]) (.int .i64 6)).run Try.prog w = .ok (.int .i64 (-1)) w := fun _ => by kernel_rfl
    go_enter Try.func95, Try.ntmps95
    go_wp2_with (first | (go_at_call 102; refine (rowOf_6 _).mono ?_; rintro e w1 ⟨rfl, hb⟩; simp only [rowT, List.map_cons, List.map_nil]) | go_in)
    go_ret2
    exact twoB_of rfl hb
  · have hi : ∀ w, (Instr.index 152 (.agg #[.int .i64 0, .int .i64 0, .int .i64 0, .int .i64 0, .int .i64 0, .int .i64 0, .int .i64 (-1), .int .i64 0, .int .i64 0, .int .i64 0]) (.int .i64 7)).run Try.prog w = .ok (.int .i64 (0)) w := fun _ => by kernel_rfl
    go_enter Try.func95, Try.ntmps95
    go_wp2_with (first | (go_at_call 102; refine (rowOf_6 _).mono ?_; rintro e w1 ⟨rfl, hb⟩; simp only [rowT, List.map_cons, List.map_nil]) | go_in)
    go_ret2
    exact twoB_of rfl hb
  · have hi : ∀ w, (Instr.index 152 (.agg #[.int .i64 0, .int .i64 0, .int .i64 0, .int .i64 0, .int .i64 0, .int .i64 0, .int .i64 (-1), .int .i64 0, .int .i64 0, .int .i64 0]) (.int .i64 8)).run Try.prog w = .ok (.int .i64 (0)) w := fun _ => by kernel_rfl
    go_enter Try.func95, Try.ntmps95
    go_wp2_with (first | (go_at_call 102; refine (rowOf_6 _).mono ?_; rintro e w1 ⟨rfl, hb⟩; simp only [rowT, List.map_cons, List.map_nil]) | go_in)
    go_ret2
    exact twoB_of rfl hb
  · have hi : ∀ w, (Instr.index 152 (.agg #[.int .i64 0, .int .i64 0, .int .i64 0, .int .i64 0, .int .i64 0, .int .i64 0, .int .i64 (-1), .int .i64 0, .int .i64 0, .int .i64 0]) (.int .i64 9)).run Try.prog w = .ok (.int .i64 (0)) w := fun _ => by kernel_rfl
    go_enter Try.func95, Try.ntmps95
    go_wp2_with (first | (go_at_call 102; refine (rowOf_6 _).mono ?_; rintro e w1 ⟨rfl, hb⟩; simp only [rowT, List.map_cons, List.map_nil]) | go_in)
    go_ret2
    exact twoB_of rfl hb
set_option maxHeartbeats 4000000 in
set_option maxRecDepth 100000 in
theorem next_7 (e c : Int) (w : World) (he : 1 ≤ e) (he2 : e ≤ 10) (hc : 0 ≤ c) : Calls Try.prog 95 #[.int .i64 7, .int .i64 e, .int .i64 c] w (TwoB (nt (toT 7 e) 7 c) w) := by
  rcases (show e = 1 ∨ e = 2 ∨ e = 3 ∨ e = 4 ∨ e = 5 ∨ e = 6 ∨ e = 7 ∨ e = 8 ∨ e = 9 ∨ e = 10 by omega) with rfl | rfl | rfl | rfl | rfl | rfl | rfl | rfl | rfl | rfl
  · have hi : ∀ w, (Instr.index 152 (.agg #[.int .i64 0, .int .i64 0, .int .i64 0, .int .i64 0, .int .i64 0, .int .i64 0, .int .i64 (-1), .int .i64 0, .int .i64 0, .int .i64 0]) (.int .i64 0)).run Try.prog w = .ok (.int .i64 (0)) w := fun _ => by kernel_rfl
    go_enter Try.func95, Try.ntmps95
    go_wp2_with (first | (go_at_call 102; refine (rowOf_7 _).mono ?_; rintro e w1 ⟨rfl, hb⟩; simp only [rowT, List.map_cons, List.map_nil]) | go_in)
    go_ret2
    exact twoB_of rfl hb
  · have hi : ∀ w, (Instr.index 152 (.agg #[.int .i64 0, .int .i64 0, .int .i64 0, .int .i64 0, .int .i64 0, .int .i64 0, .int .i64 (-1), .int .i64 0, .int .i64 0, .int .i64 0]) (.int .i64 1)).run Try.prog w = .ok (.int .i64 (0)) w := fun _ => by kernel_rfl
    go_enter Try.func95, Try.ntmps95
    go_wp2_with (first | (go_at_call 102; refine (rowOf_7 _).mono ?_; rintro e w1 ⟨rfl, hb⟩; simp only [rowT, List.map_cons, List.map_nil]) | go_in)
    go_ret2
    exact twoB_of rfl hb
  · have hi : ∀ w, (Instr.index 152 (.agg #[.int .i64 0, .int .i64 0, .int .i64 0, .int .i64 0, .int .i64 0, .int .i64 0, .int .i64 (-1), .int .i64 0, .int .i64 0, .int .i64 0]) (.int .i64 2)).run Try.prog w = .ok (.int .i64 (0)) w := fun _ => by kernel_rfl
    go_enter Try.func95, Try.ntmps95
    go_wp2_with (first | (go_at_call 102; refine (rowOf_7 _).mono ?_; rintro e w1 ⟨rfl, hb⟩; simp only [rowT, List.map_cons, List.map_nil]) | go_in)
    go_ret2
    exact twoB_of rfl hb
  · have hi : ∀ w, (Instr.index 152 (.agg #[.int .i64 0, .int .i64 0, .int .i64 0, .int .i64 0, .int .i64 0, .int .i64 0, .int .i64 (-1), .int .i64 0, .int .i64 0, .int .i64 0]) (.int .i64 3)).run Try.prog w = .ok (.int .i64 (0)) w := fun _ => by kernel_rfl
    go_enter Try.func95, Try.ntmps95
    go_wp2_with (first | (go_at_call 102; refine (rowOf_7 _).mono ?_; rintro e w1 ⟨rfl, hb⟩; simp only [rowT, List.map_cons, List.map_nil]) | go_in)
    go_ret2
    exact twoB_of rfl hb
  · have hi : ∀ w, (Instr.index 152 (.agg #[.int .i64 0, .int .i64 0, .int .i64 0, .int .i64 0, .int .i64 0, .int .i64 0, .int .i64 (-1), .int .i64 0, .int .i64 0, .int .i64 0]) (.int .i64 4)).run Try.prog w = .ok (.int .i64 (0)) w := fun _ => by kernel_rfl
    go_enter Try.func95, Try.ntmps95
    go_wp2_with (first | (go_at_call 102; refine (rowOf_7 _).mono ?_; rintro e w1 ⟨rfl, hb⟩; simp only [rowT, List.map_cons, List.map_nil]) | go_in)
    go_ret2
    exact twoB_of rfl hb
  · have hi : ∀ w, (Instr.index 152 (.agg #[.int .i64 0, .int .i64 0, .int .i64 0, .int .i64 0, .int .i64 0, .int .i64 0, .int .i64 (-1), .int .i64 0, .int .i64 0, .int .i64 0]) (.int .i64 5)).run Try.prog w = .ok (.int .i64 (0)) w := fun _ => by kernel_rfl
    go_enter Try.func95, Try.ntmps95
    go_wp2_with (first | (go_at_call 102; refine (rowOf_7 _).mono ?_; rintro e w1 ⟨rfl, hb⟩; simp only [rowT, List.map_cons, List.map_nil]) | go_in)
    go_ret2
    exact twoB_of rfl hb
  · have hi : ∀ w, (Instr.index 152 (.agg #[.int .i64 0, .int .i64 0, .int .i64 0, .int .i64 0, .int .i64 0, .int .i64 0, .int .i64 (-1), .int .i64 0, .int .i64 0, .int .i64 0]) (.int .i64 6)).run Try.prog w = .ok (.int .i64 (-1)) w := fun _ => by kernel_rfl
    go_enter Try.func95, Try.ntmps95
    go_wp2_with (first | (go_at_call 102; refine (rowOf_7 _).mono ?_; rintro e w1 ⟨rfl, hb⟩; simp only [rowT, List.map_cons, List.map_nil]) | go_in)
    go_ret2
    exact twoB_of rfl hb
  · have hi : ∀ w, (Instr.index 152 (.agg #[.int .i64 0, .int .i64 0, .int .i64 0, .int .i64 0, .int .i64 0, .int .i64 0, .int .i64 (-1), .int .i64 0, .int .i64 0, .int .i64 0]) (.int .i64 7)).run Try.prog w = .ok (.int .i64 (0)) w := fun _ => by kernel_rfl
    go_enter Try.func95, Try.ntmps95
    go_wp2_with (first | (go_at_call 102; refine (rowOf_7 _).mono ?_; rintro e w1 ⟨rfl, hb⟩; simp only [rowT, List.map_cons, List.map_nil]) | go_in)
    go_ret2
    exact twoB_of rfl hb
  · have hi : ∀ w, (Instr.index 152 (.agg #[.int .i64 0, .int .i64 0, .int .i64 0, .int .i64 0, .int .i64 0, .int .i64 0, .int .i64 (-1), .int .i64 0, .int .i64 0, .int .i64 0]) (.int .i64 8)).run Try.prog w = .ok (.int .i64 (0)) w := fun _ => by kernel_rfl
    go_enter Try.func95, Try.ntmps95
    go_wp2_with (first | (go_at_call 102; refine (rowOf_7 _).mono ?_; rintro e w1 ⟨rfl, hb⟩; simp only [rowT, List.map_cons, List.map_nil]) | go_in)
    go_ret2
    exact twoB_of rfl hb
  · have hi : ∀ w, (Instr.index 152 (.agg #[.int .i64 0, .int .i64 0, .int .i64 0, .int .i64 0, .int .i64 0, .int .i64 0, .int .i64 (-1), .int .i64 0, .int .i64 0, .int .i64 0]) (.int .i64 9)).run Try.prog w = .ok (.int .i64 (0)) w := fun _ => by kernel_rfl
    go_enter Try.func95, Try.ntmps95
    go_wp2_with (first | (go_at_call 102; refine (rowOf_7 _).mono ?_; rintro e w1 ⟨rfl, hb⟩; simp only [rowT, List.map_cons, List.map_nil]) | go_in)
    go_ret2
    exact twoB_of rfl hb
set_option maxHeartbeats 4000000 in
set_option maxRecDepth 100000 in
theorem next_8 (e c : Int) (w : World) (he : 1 ≤ e) (he2 : e ≤ 10) (hc : 0 ≤ c) : Calls Try.prog 95 #[.int .i64 8, .int .i64 e, .int .i64 c] w (TwoB (nt (toT 8 e) 8 c) w) := by
  rcases (show e = 1 ∨ e = 2 ∨ e = 3 ∨ e = 4 ∨ e = 5 ∨ e = 6 ∨ e = 7 ∨ e = 8 ∨ e = 9 ∨ e = 10 by omega) with rfl | rfl | rfl | rfl | rfl | rfl | rfl | rfl | rfl | rfl
  · have hi : ∀ w, (Instr.index 152 (.agg #[.int .i64 0, .int .i64 0, .int .i64 0, .int .i64 0, .int .i64 0, .int .i64 0, .int .i64 0, .int .i64 0, .int .i64 0, .int .i64 0]) (.int .i64 0)).run Try.prog w = .ok (.int .i64 (0)) w := fun _ => by kernel_rfl
    go_enter Try.func95, Try.ntmps95
    go_wp2_with (first | (go_at_call 102; refine (rowOf_8 _).mono ?_; rintro e w1 ⟨rfl, hb⟩; simp only [rowT, List.map_cons, List.map_nil]) | go_in)
    go_ret2
    exact twoB_of rfl hb
  · have hi : ∀ w, (Instr.index 152 (.agg #[.int .i64 0, .int .i64 0, .int .i64 0, .int .i64 0, .int .i64 0, .int .i64 0, .int .i64 0, .int .i64 0, .int .i64 0, .int .i64 0]) (.int .i64 1)).run Try.prog w = .ok (.int .i64 (0)) w := fun _ => by kernel_rfl
    go_enter Try.func95, Try.ntmps95
    go_wp2_with (first | (go_at_call 102; refine (rowOf_8 _).mono ?_; rintro e w1 ⟨rfl, hb⟩; simp only [rowT, List.map_cons, List.map_nil]) | go_in)
    go_ret2
    exact twoB_of rfl hb
  · have hi : ∀ w, (Instr.index 152 (.agg #[.int .i64 0, .int .i64 0, .int .i64 0, .int .i64 0, .int .i64 0, .int .i64 0, .int .i64 0, .int .i64 0, .int .i64 0, .int .i64 0]) (.int .i64 2)).run Try.prog w = .ok (.int .i64 (0)) w := fun _ => by kernel_rfl
    go_enter Try.func95, Try.ntmps95
    go_wp2_with (first | (go_at_call 102; refine (rowOf_8 _).mono ?_; rintro e w1 ⟨rfl, hb⟩; simp only [rowT, List.map_cons, List.map_nil]) | go_in)
    go_ret2
    exact twoB_of rfl hb
  · have hi : ∀ w, (Instr.index 152 (.agg #[.int .i64 0, .int .i64 0, .int .i64 0, .int .i64 0, .int .i64 0, .int .i64 0, .int .i64 0, .int .i64 0, .int .i64 0, .int .i64 0]) (.int .i64 3)).run Try.prog w = .ok (.int .i64 (0)) w := fun _ => by kernel_rfl
    go_enter Try.func95, Try.ntmps95
    go_wp2_with (first | (go_at_call 102; refine (rowOf_8 _).mono ?_; rintro e w1 ⟨rfl, hb⟩; simp only [rowT, List.map_cons, List.map_nil]) | go_in)
    go_ret2
    exact twoB_of rfl hb
  · have hi : ∀ w, (Instr.index 152 (.agg #[.int .i64 0, .int .i64 0, .int .i64 0, .int .i64 0, .int .i64 0, .int .i64 0, .int .i64 0, .int .i64 0, .int .i64 0, .int .i64 0]) (.int .i64 4)).run Try.prog w = .ok (.int .i64 (0)) w := fun _ => by kernel_rfl
    go_enter Try.func95, Try.ntmps95
    go_wp2_with (first | (go_at_call 102; refine (rowOf_8 _).mono ?_; rintro e w1 ⟨rfl, hb⟩; simp only [rowT, List.map_cons, List.map_nil]) | go_in)
    go_ret2
    exact twoB_of rfl hb
  · have hi : ∀ w, (Instr.index 152 (.agg #[.int .i64 0, .int .i64 0, .int .i64 0, .int .i64 0, .int .i64 0, .int .i64 0, .int .i64 0, .int .i64 0, .int .i64 0, .int .i64 0]) (.int .i64 5)).run Try.prog w = .ok (.int .i64 (0)) w := fun _ => by kernel_rfl
    go_enter Try.func95, Try.ntmps95
    go_wp2_with (first | (go_at_call 102; refine (rowOf_8 _).mono ?_; rintro e w1 ⟨rfl, hb⟩; simp only [rowT, List.map_cons, List.map_nil]) | go_in)
    go_ret2
    exact twoB_of rfl hb
  · have hi : ∀ w, (Instr.index 152 (.agg #[.int .i64 0, .int .i64 0, .int .i64 0, .int .i64 0, .int .i64 0, .int .i64 0, .int .i64 0, .int .i64 0, .int .i64 0, .int .i64 0]) (.int .i64 6)).run Try.prog w = .ok (.int .i64 (0)) w := fun _ => by kernel_rfl
    go_enter Try.func95, Try.ntmps95
    go_wp2_with (first | (go_at_call 102; refine (rowOf_8 _).mono ?_; rintro e w1 ⟨rfl, hb⟩; simp only [rowT, List.map_cons, List.map_nil]) | go_in)
    go_ret2
    exact twoB_of rfl hb
  · have hi : ∀ w, (Instr.index 152 (.agg #[.int .i64 0, .int .i64 0, .int .i64 0, .int .i64 0, .int .i64 0, .int .i64 0, .int .i64 0, .int .i64 0, .int .i64 0, .int .i64 0]) (.int .i64 7)).run Try.prog w = .ok (.int .i64 (0)) w := fun _ => by kernel_rfl
    go_enter Try.func95, Try.ntmps95
    go_wp2_with (first | (go_at_call 102; refine (rowOf_8 _).mono ?_; rintro e w1 ⟨rfl, hb⟩; simp only [rowT, List.map_cons, List.map_nil]) | go_in)
    go_ret2
    exact twoB_of rfl hb
  · have hi : ∀ w, (Instr.index 152 (.agg #[.int .i64 0, .int .i64 0, .int .i64 0, .int .i64 0, .int .i64 0, .int .i64 0, .int .i64 0, .int .i64 0, .int .i64 0, .int .i64 0]) (.int .i64 8)).run Try.prog w = .ok (.int .i64 (0)) w := fun _ => by kernel_rfl
    go_enter Try.func95, Try.ntmps95
    go_wp2_with (first | (go_at_call 102; refine (rowOf_8 _).mono ?_; rintro e w1 ⟨rfl, hb⟩; simp only [rowT, List.map_cons, List.map_nil]) | go_in)
    go_ret2
    exact twoB_of rfl hb
  · have hi : ∀ w, (Instr.index 152 (.agg #[.int .i64 0, .int .i64 0, .int .i64 0, .int .i64 0, .int .i64 0, .int .i64 0, .int .i64 0, .int .i64 0, .int .i64 0, .int .i64 0]) (.int .i64 9)).run Try.prog w = .ok (.int .i64 (0)) w := fun _ => by kernel_rfl
    go_enter Try.func95, Try.ntmps95
    go_wp2_with (first | (go_at_call 102; refine (rowOf_8 _).mono ?_; rintro e w1 ⟨rfl, hb⟩; simp only [rowT, List.map_cons, List.map_nil]) | go_in)
    go_ret2
    exact twoB_of rfl hb

set_option maxHeartbeats 4000000 in
set_option maxRecDepth 100000 in
theorem next_out (s e c : Int) (w : World) (h : s < 1 ∨ 8 < s ∨ e < 1 ∨ 10 < e ∨ c < 0) : Calls Try.prog 95 #[.int .i64 s, .int .i64 e, .int .i64 c] w (Two (0, 2) w) := by
  by_cases h1 : s < 1
  · go_enter Try.func95, Try.ntmps95
    go_wp2
    go_ret2
    exact two_of rfl
  by_cases h2 : 8 < s
  · go_enter Try.func95, Try.ntmps95
    go_wp2
    go_ret2
    exact two_of rfl
  by_cases h6 : s ≤ 5
  · by_cases h3 : e < 1
    · go_enter Try.func95, Try.ntmps95
      go_wp2
      go_ret2
      exact two_of rfl
    by_cases h4 : 10 < e
    · go_enter Try.func95, Try.ntmps95
      go_wp2
      go_ret2
      exact two_of rfl
    have h5 : c < 0 := by omega
    clear h
    go_enter Try.func95, Try.ntmps95
    go_wp2
    go_ret2
    exact two_of rfl
  · by_cases h3 : e < 1
    · go_enter Try.func95, Try.ntmps95
      go_wp2
      go_ret2
      exact two_of rfl
    by_cases h4 : 10 < e
    · go_enter Try.func95, Try.ntmps95
      go_wp2
      go_ret2
      exact two_of rfl
    have h5 : c < 0 := by omega
    clear h
    go_enter Try.func95, Try.ntmps95
    go_wp2
    go_ret2
    exact two_of rfl

theorem next_any (s e c : Int) (w : World) : Calls Try.prog 95 #[.int .i64 s, .int .i64 e, .int .i64 c] w (TwoB (nx s e c) w) := by
  by_cases h : s < 1 ∨ 8 < s ∨ e < 1 ∨ 10 < e ∨ c < 0
  · rw [nx_out h]; exact (next_out s e c w h).mono fun _ _ ⟨h1, h2⟩ => ⟨h1, h2 ▸ Below.refl _ _⟩
  · rw [nx_in (by omega) (by omega) (by omega) (by omega) (by omega)]
    rcases (show s = 1 ∨ s = 2 ∨ s = 3 ∨ s = 4 ∨ s = 5 ∨ s = 6 ∨ s = 7 ∨ s = 8 by omega) with rfl | rfl | rfl | rfl | rfl | rfl | rfl | rfl
    · exact next_1 e c w (by omega) (by omega) (by omega)
    · exact next_2 e c w (by omega) (by omega) (by omega)
    · exact next_3 e c w (by omega) (by omega) (by omega)
    · exact next_4 e c w (by omega) (by omega) (by omega)
    · exact next_5 e c w (by omega) (by omega) (by omega)
    · exact next_6 e c w (by omega) (by omega) (by omega)
    · exact next_7 e c w (by omega) (by omega) (by omega)
    · exact next_8 e c w (by omega) (by omega) (by omega)
theorem open_any (s : Int) (w : World) : Calls Try.prog 66 #[.int .i64 s] w fun e w' => e = .returned (.bool (decide (1 ≤ s ∧ s ≤ 5))) ∧ w = w' := by
  by_cases h : 1 ≤ s
  · by_cases h' : s ≤ 5
    · go_enter Try.func66, Try.ntmps66
      go_wp2
      go_ret
      exact ⟨by simp [h, h'], rfl⟩
    · go_enter Try.func66, Try.ntmps66
      go_wp2
      go_ret
      exact ⟨by simp [h'], rfl⟩
  · go_enter Try.func66, Try.ntmps66
    go_wp2
    go_ret
    exact ⟨by simp; omega, rfl⟩
theorem done_any (s : Int) (w : World) : Calls Try.prog 96 #[.int .i64 s] w fun e w' => e = .returned (.bool (decide (6 ≤ s ∧ s ≤ 8))) ∧ w = w' := by
  by_cases h : 6 ≤ s
  · by_cases h' : s ≤ 8
    · go_enter Try.func96, Try.ntmps96
      go_wp2
      go_ret
      exact ⟨by simp [h, h'], rfl⟩
    · go_enter Try.func96, Try.ntmps96
      go_wp2
      go_ret
      exact ⟨by simp [h'], rfl⟩
  · go_enter Try.func96, Try.ntmps96
    go_wp2
    go_ret
    exact ⟨by simp; omega, rfl⟩
end Go.Proofs.Ytjhlaifflhjafaa
