import Derived.Test.YtfmmaigaanikgaaTa
namespace Go.Proofs.Ytfmmaigaanikgaa
open Go.RowKit

/-- What a state's row says of an event: 0: it may not happen; -1: the state stays; -2: it goes back. -/
def rowT : Int → List Int
  | 1 => [2, 7, 0, 8, 3, 6, -1, 0, 4, 0]
  | 2 => [0, 7, 0, 0, 3, 6, -1, 0, 4, 5]
  | 3 => [-1, 7, 0, 0, -1, 6, -2, 0, 4, 5]
  | 4 => [-1, 7, 0, 8, -1, 6, -1, -2, 0, 0]
  | 5 => [0, 7, -2, 0, -1, 6, -1, -2, 0, 0]
  | 6 => [0, 0, 0, 0, 0, 0, -1, 0, 0, 0]
  | 7 => [0, 0, 0, 0, 0, 0, -1, 0, 0, 0]
  | _ => [0, 0, 0, 0, 0, 0, 0, 0, 0, 0]
def toT (s e : Int) : Int := (rowT s).getD (e - 1).toNat 0
def nt (t s c : Int) : Int × Int := if t = 0 then (0, 200) else if t = -1 then (s, 0) else if t = -2 then (if 0 < c then 3 else 2, 0) else (t, 0)
/-- The state behind an event, and an error's number. -/
def nx (s e c : Int) : Int × Int := if s < 1 ∨ 8 < s ∨ e < 1 ∨ 10 < e ∨ c < 0 then (0, 2) else nt (toT s e) s c
theorem nx_in {s e c : Int} (h1 : 1 ≤ s) (h2 : s ≤ 8) (h3 : 1 ≤ e) (h4 : e ≤ 10) (h5 : 0 ≤ c) : nx s e c = nt (toT s e) s c := if_neg (by omega)
theorem nx_out {s e c : Int} (h : s < 1 ∨ 8 < s ∨ e < 1 ∨ 10 < e ∨ c < 0) : nx s e c = (0, 2) := if_pos h

def Two (x : Int × Int) (w : World) (en : Ending) (w' : World) : Prop := en = .returned (.tuple #[.int .i64 x.1, .int .i64 x.2]) ∧ w = w'
theorem two_of {x : Int × Int} {a b : Int} {w : World} (h : x = (a, b)) : Two x w (.returned (.tuple #[.int .i64 a, .int .i64 b])) w := by subst h; exact ⟨rfl, rfl⟩

set_option maxHeartbeats 4000000 in
set_option maxRecDepth 100000 in
theorem refNext_1 (s c : Int) (w : World) (hs : 1 ≤ s) (hs2 : s ≤ 8) (hc : 0 ≤ c) : Calls Try.prog 25 #[.int .i64 s, .int .i64 1, .int .i64 c] w (Two (nt (toT s 1) s c) w) := by
  rcases (show s = 1 ∨ s = 2 ∨ s = 3 ∨ s = 4 ∨ s = 5 ∨ s = 6 ∨ s = 7 ∨ s = 8 by omega) with rfl | rfl | rfl | rfl | rfl | rfl | rfl | rfl
  · go_enter Try.func25, Try.ntmps25
    go_wp2
    go_ret2
    exact two_of rfl
  · go_enter Try.func25, Try.ntmps25
    go_wp2
    go_ret2
    exact two_of rfl
  · go_enter Try.func25, Try.ntmps25
    go_wp2
    go_ret2
    exact two_of rfl
  · go_enter Try.func25, Try.ntmps25
    go_wp2
    go_ret2
    exact two_of rfl
  · go_enter Try.func25, Try.ntmps25
    go_wp2
    go_ret2
    exact two_of rfl
  · go_enter Try.func25, Try.ntmps25
    go_wp2
    go_ret2
    exact two_of rfl
  · go_enter Try.func25, Try.ntmps25
    go_wp2
    go_ret2
    exact two_of rfl
  · go_enter Try.func25, Try.ntmps25
    go_wp2
    go_ret2
    exact two_of rfl
set_option maxHeartbeats 4000000 in
set_option maxRecDepth 100000 in
theorem refNext_2 (s c : Int) (w : World) (hs : 1 ≤ s) (hs2 : s ≤ 8) (hc : 0 ≤ c) : Calls Try.prog 25 #[.int .i64 s, .int .i64 2, .int .i64 c] w (Two (nt (toT s 2) s c) w) := by
  rcases (show s = 1 ∨ s = 2 ∨ s = 3 ∨ s = 4 ∨ s = 5 ∨ s = 6 ∨ s = 7 ∨ s = 8 by omega) with rfl | rfl | rfl | rfl | rfl | rfl | rfl | rfl
  · go_enter Try.func25, Try.ntmps25
    go_wp2
    go_ret2
    exact two_of rfl
  · go_enter Try.func25, Try.ntmps25
    go_wp2
    go_ret2
    exact two_of rfl
  · go_enter Try.func25, Try.ntmps25
    go_wp2
    go_ret2
    exact two_of rfl
  · go_enter Try.func25, Try.ntmps25
    go_wp2
    go_ret2
    exact two_of rfl
  · go_enter Try.func25, Try.ntmps25
    go_wp2
    go_ret2
    exact two_of rfl
  · go_enter Try.func25, Try.ntmps25
    go_wp2
    go_ret2
    exact two_of rfl
  · go_enter Try.func25, Try.ntmps25
    go_wp2
    go_ret2
    exact two_of rfl
  · go_enter Try.func25, Try.ntmps25
    go_wp2
    go_ret2
    exact two_of rfl
set_option maxHeartbeats 4000000 in
set_option maxRecDepth 100000 in
theorem refNext_3 (s c : Int) (w : World) (hs : 1 ≤ s) (hs2 : s ≤ 8) (hc : 0 ≤ c) : Calls Try.prog 25 #[.int .i64 s, .int .i64 3, .int .i64 c] w (Two (nt (toT s 3) s c) w) := by
  rcases (show s = 1 ∨ s = 2 ∨ s = 3 ∨ s = 4 ∨ s = 5 ∨ s = 6 ∨ s = 7 ∨ s = 8 by omega) with rfl | rfl | rfl | rfl | rfl | rfl | rfl | rfl
  · go_enter Try.func25, Try.ntmps25
    go_wp2
    go_ret2
    exact two_of rfl
  · go_enter Try.func25, Try.ntmps25
    go_wp2
    go_ret2
    exact two_of rfl
  · go_enter Try.func25, Try.ntmps25
    go_wp2
    go_ret2
    exact two_of rfl
  · go_enter Try.func25, Try.ntmps25
    go_wp2
    go_ret2
    exact two_of rfl
  · by_cases h : 0 < c
    · go_enter Try.func25, Try.ntmps25
      go_wp2
      go_ret2
      exact two_of (by show ((if 0 < c then (3 : Int) else 2), (0 : Int)) = _; rw [if_pos (by omega)])
    · go_enter Try.func25, Try.ntmps25
      go_wp2
      go_ret2
      exact two_of (by show ((if 0 < c then (3 : Int) else 2), (0 : Int)) = _; rw [if_neg (by omega)])
  · go_enter Try.func25, Try.ntmps25
    go_wp2
    go_ret2
    exact two_of rfl
  · go_enter Try.func25, Try.ntmps25
    go_wp2
    go_ret2
    exact two_of rfl
  · go_enter Try.func25, Try.ntmps25
    go_wp2
    go_ret2
    exact two_of rfl
set_option maxHeartbeats 4000000 in
set_option maxRecDepth 100000 in
theorem refNext_4 (s c : Int) (w : World) (hs : 1 ≤ s) (hs2 : s ≤ 8) (hc : 0 ≤ c) : Calls Try.prog 25 #[.int .i64 s, .int .i64 4, .int .i64 c] w (Two (nt (toT s 4) s c) w) := by
  rcases (show s = 1 ∨ s = 2 ∨ s = 3 ∨ s = 4 ∨ s = 5 ∨ s = 6 ∨ s = 7 ∨ s = 8 by omega) with rfl | rfl | rfl | rfl | rfl | rfl | rfl | rfl
  · go_enter Try.func25, Try.ntmps25
    go_wp2
    go_ret2
    exact two_of rfl
  · go_enter Try.func25, Try.ntmps25
    go_wp2
    go_ret2
    exact two_of rfl
  · go_enter Try.func25, Try.ntmps25
    go_wp2
    go_ret2
    exact two_of rfl
  · go_enter Try.func25, Try.ntmps25
    go_wp2
    go_ret2
    exact two_of rfl
  · go_enter Try.func25, Try.ntmps25
    go_wp2
    go_ret2
    exact two_of rfl
  · go_enter Try.func25, Try.ntmps25
    go_wp2
    go_ret2
    exact two_of rfl
  · go_enter Try.func25, Try.ntmps25
    go_wp2
    go_ret2
    exact two_of rfl
  · go_enter Try.func25, Try.ntmps25
    go_wp2
    go_ret2
    exact two_of rfl
set_option maxHeartbeats 4000000 in
set_option maxRecDepth 100000 in
theorem refNext_5 (s c : Int) (w : World) (hs : 1 ≤ s) (hs2 : s ≤ 8) (hc : 0 ≤ c) : Calls Try.prog 25 #[.int .i64 s, .int .i64 5, .int .i64 c] w (Two (nt (toT s 5) s c) w) := by
  rcases (show s = 1 ∨ s = 2 ∨ s = 3 ∨ s = 4 ∨ s = 5 ∨ s = 6 ∨ s = 7 ∨ s = 8 by omega) with rfl | rfl | rfl | rfl | rfl | rfl | rfl | rfl
  · go_enter Try.func25, Try.ntmps25
    go_wp2
    go_ret2
    exact two_of rfl
  · go_enter Try.func25, Try.ntmps25
    go_wp2
    go_ret2
    exact two_of rfl
  · go_enter Try.func25, Try.ntmps25
    go_wp2
    go_ret2
    exact two_of rfl
  · go_enter Try.func25, Try.ntmps25
    go_wp2
    go_ret2
    exact two_of rfl
  · go_enter Try.func25, Try.ntmps25
    go_wp2
    go_ret2
    exact two_of rfl
  · go_enter Try.func25, Try.ntmps25
    go_wp2
    go_ret2
    exact two_of rfl
  · go_enter Try.func25, Try.ntmps25
    go_wp2
    go_ret2
    exact two_of rfl
  · go_enter Try.func25, Try.ntmps25
    go_wp2
    go_ret2
    exact two_of rfl
set_option maxHeartbeats 4000000 in
set_option maxRecDepth 100000 in
theorem refNext_6 (s c : Int) (w : World) (hs : 1 ≤ s) (hs2 : s ≤ 8) (hc : 0 ≤ c) : Calls Try.prog 25 #[.int .i64 s, .int .i64 6, .int .i64 c] w (Two (nt (toT s 6) s c) w) := by
  rcases (show s = 1 ∨ s = 2 ∨ s = 3 ∨ s = 4 ∨ s = 5 ∨ s = 6 ∨ s = 7 ∨ s = 8 by omega) with rfl | rfl | rfl | rfl | rfl | rfl | rfl | rfl
  · go_enter Try.func25, Try.ntmps25
    go_wp2
    go_ret2
    exact two_of rfl
  · go_enter Try.func25, Try.ntmps25
    go_wp2
    go_ret2
    exact two_of rfl
  · go_enter Try.func25, Try.ntmps25
    go_wp2
    go_ret2
    exact two_of rfl
  · go_enter Try.func25, Try.ntmps25
    go_wp2
    go_ret2
    exact two_of rfl
  · go_enter Try.func25, Try.ntmps25
    go_wp2
    go_ret2
    exact two_of rfl
  · go_enter Try.func25, Try.ntmps25
    go_wp2
    go_ret2
    exact two_of rfl
  · go_enter Try.func25, Try.ntmps25
    go_wp2
    go_ret2
    exact two_of rfl
  · go_enter Try.func25, Try.ntmps25
    go_wp2
    go_ret2
    exact two_of rfl
set_option maxHeartbeats 4000000 in
set_option maxRecDepth 100000 in
theorem refNext_7 (s c : Int) (w : World) (hs : 1 ≤ s) (hs2 : s ≤ 8) (hc : 0 ≤ c) : Calls Try.prog 25 #[.int .i64 s, .int .i64 7, .int .i64 c] w (Two (nt (toT s 7) s c) w) := by
  rcases (show s = 1 ∨ s = 2 ∨ s = 3 ∨ s = 4 ∨ s = 5 ∨ s = 6 ∨ s = 7 ∨ s = 8 by omega) with rfl | rfl | rfl | rfl | rfl | rfl | rfl | rfl
  · go_enter Try.func25, Try.ntmps25
    go_wp2
    go_ret2
    exact two_of rfl
  · go_enter Try.func25, Try.ntmps25
    go_wp2
    go_ret2
    exact two_of rfl
  · by_cases h : 0 < c
    · go_enter Try.func25, Try.ntmps25
      go_wp2
      go_ret2
      exact two_of (by show ((if 0 < c then (3 : Int) else 2), (0 : Int)) = _; rw [if_pos (by omega)])
    · go_enter Try.func25, Try.ntmps25
      go_wp2
      go_ret2
      exact two_of (by show ((if 0 < c then (3 : Int) else 2), (0 : Int)) = _; rw [if_neg (by omega)])
  · go_enter Try.func25, Try.ntmps25
    go_wp2
    go_ret2
    exact two_of rfl
  · go_enter Try.func25, Try.ntmps25
    go_wp2
    go_ret2
    exact two_of rfl
  · go_enter Try.func25, Try.ntmps25
    go_wp2
    go_ret2
    exact two_of rfl
  · go_enter Try.func25, Try.ntmps25
    go_wp2
    go_ret2
    exact two_of rfl
  · go_enter Try.func25, Try.ntmps25
    go_wp2
    go_ret2
    exact two_of rfl
set_option maxHeartbeats 4000000 in
set_option maxRecDepth 100000 in
theorem refNext_8 (s c : Int) (w : World) (hs : 1 ≤ s) (hs2 : s ≤ 8) (hc : 0 ≤ c) : Calls Try.prog 25 #[.int .i64 s, .int .i64 8, .int .i64 c] w (Two (nt (toT s 8) s c) w) := by
  rcases (show s = 1 ∨ s = 2 ∨ s = 3 ∨ s = 4 ∨ s = 5 ∨ s = 6 ∨ s = 7 ∨ s = 8 by omega) with rfl | rfl | rfl | rfl | rfl | rfl | rfl | rfl
  · go_enter Try.func25, Try.ntmps25
    go_wp2
    go_ret2
    exact two_of rfl
  · go_enter Try.func25, Try.ntmps25
    go_wp2
    go_ret2
    exact two_of rfl
  · go_enter Try.func25, Try.ntmps25
    go_wp2
    go_ret2
    exact two_of rfl
  · by_cases h : 0 < c
    · go_enter Try.func25, Try.ntmps25
      go_wp2
      go_ret2
      exact two_of (by show ((if 0 < c then (3 : Int) else 2), (0 : Int)) = _; rw [if_pos (by omega)])
    · go_enter Try.func25, Try.ntmps25
      go_wp2
      go_ret2
      exact two_of (by show ((if 0 < c then (3 : Int) else 2), (0 : Int)) = _; rw [if_neg (by omega)])
  · by_cases h : 0 < c
    · go_enter Try.func25, Try.ntmps25
      go_wp2
      go_ret2
      exact two_of (by show ((if 0 < c then (3 : Int) else 2), (0 : Int)) = _; rw [if_pos (by omega)])
    · go_enter Try.func25, Try.ntmps25
      go_wp2
      go_ret2
      exact two_of (by show ((if 0 < c then (3 : Int) else 2), (0 : Int)) = _; rw [if_neg (by omega)])
  · go_enter Try.func25, Try.ntmps25
    go_wp2
    go_ret2
    exact two_of rfl
  · go_enter Try.func25, Try.ntmps25
    go_wp2
    go_ret2
    exact two_of rfl
  · go_enter Try.func25, Try.ntmps25
    go_wp2
    go_ret2
    exact two_of rfl
set_option maxHeartbeats 4000000 in
set_option maxRecDepth 100000 in
theorem refNext_9 (s c : Int) (w : World) (hs : 1 ≤ s) (hs2 : s ≤ 8) (hc : 0 ≤ c) : Calls Try.prog 25 #[.int .i64 s, .int .i64 9, .int .i64 c] w (Two (nt (toT s 9) s c) w) := by
  rcases (show s = 1 ∨ s = 2 ∨ s = 3 ∨ s = 4 ∨ s = 5 ∨ s = 6 ∨ s = 7 ∨ s = 8 by omega) with rfl | rfl | rfl | rfl | rfl | rfl | rfl | rfl
  · go_enter Try.func25, Try.ntmps25
    go_wp2
    go_ret2
    exact two_of rfl
  · go_enter Try.func25, Try.ntmps25
    go_wp2
    go_ret2
    exact two_of rfl
  · go_enter Try.func25, Try.ntmps25
    go_wp2
    go_ret2
    exact two_of rfl
  · go_enter Try.func25, Try.ntmps25
    go_wp2
    go_ret2
    exact two_of rfl
  · go_enter Try.func25, Try.ntmps25
    go_wp2
    go_ret2
    exact two_of rfl
  · go_enter Try.func25, Try.ntmps25
    go_wp2
    go_ret2
    exact two_of rfl
  · go_enter Try.func25, Try.ntmps25
    go_wp2
    go_ret2
    exact two_of rfl
  · go_enter Try.func25, Try.ntmps25
    go_wp2
    go_ret2
    exact two_of rfl
set_option maxHeartbeats 4000000 in
set_option maxRecDepth 100000 in
theorem refNext_10 (s c : Int) (w : World) (hs : 1 ≤ s) (hs2 : s ≤ 8) (hc : 0 ≤ c) : Calls Try.prog 25 #[.int .i64 s, .int .i64 10, .int .i64 c] w (Two (nt (toT s 10) s c) w) := by
  rcases (show s = 1 ∨ s = 2 ∨ s = 3 ∨ s = 4 ∨ s = 5 ∨ s = 6 ∨ s = 7 ∨ s = 8 by omega) with rfl | rfl | rfl | rfl | rfl | rfl | rfl | rfl
  · go_enter Try.func25, Try.ntmps25
    go_wp2
    go_ret2
    exact two_of rfl
  · go_enter Try.func25, Try.ntmps25
    go_wp2
    go_ret2
    exact two_of rfl
  · go_enter Try.func25, Try.ntmps25
    go_wp2
    go_ret2
    exact two_of rfl
  · go_enter Try.func25, Try.ntmps25
    go_wp2
    go_ret2
    exact two_of rfl
  · go_enter Try.func25, Try.ntmps25
    go_wp2
    go_ret2
    exact two_of rfl
  · go_enter Try.func25, Try.ntmps25
    go_wp2
    go_ret2
    exact two_of rfl
  · go_enter Try.func25, Try.ntmps25
    go_wp2
    go_ret2
    exact two_of rfl
  · go_enter Try.func25, Try.ntmps25
    go_wp2
    go_ret2
    exact two_of rfl

set_option maxHeartbeats 4000000 in
set_option maxRecDepth 100000 in
theorem refNext_out (s e c : Int) (w : World) (h : s < 1 ∨ 8 < s ∨ e < 1 ∨ 10 < e ∨ c < 0) : Calls Try.prog 25 #[.int .i64 s, .int .i64 e, .int .i64 c] w (Two (0, 2) w) := by
  by_cases h1 : s < 1
  · go_enter Try.func25, Try.ntmps25
    go_wp2
    go_ret2
    exact two_of rfl
  by_cases h2 : 8 < s
  · go_enter Try.func25, Try.ntmps25
    go_wp2
    go_ret2
    exact two_of rfl
  by_cases h3 : e < 1
  · go_enter Try.func25, Try.ntmps25
    go_wp2
    go_ret2
    exact two_of rfl
  by_cases h4 : 10 < e
  · go_enter Try.func25, Try.ntmps25
    go_wp2
    go_ret2
    exact two_of rfl
  have h5 : c < 0 := by omega
  clear h
  go_enter Try.func25, Try.ntmps25
  go_wp2
  go_ret2
  exact two_of rfl

theorem refNext_any (s e c : Int) (w : World) : Calls Try.prog 25 #[.int .i64 s, .int .i64 e, .int .i64 c] w (Two (nx s e c) w) := by
  by_cases h : s < 1 ∨ 8 < s ∨ e < 1 ∨ 10 < e ∨ c < 0
  · rw [nx_out h]; exact refNext_out s e c w h
  · rw [nx_in (by omega) (by omega) (by omega) (by omega) (by omega)]
    rcases (show e = 1 ∨ e = 2 ∨ e = 3 ∨ e = 4 ∨ e = 5 ∨ e = 6 ∨ e = 7 ∨ e = 8 ∨ e = 9 ∨ e = 10 by omega) with rfl | rfl | rfl | rfl | rfl | rfl | rfl | rfl | rfl | rfl
    · exact refNext_1 s c w (by omega) (by omega) (by omega)
    · exact refNext_2 s c w (by omega) (by omega) (by omega)
    · exact refNext_3 s c w (by omega) (by omega) (by omega)
    · exact refNext_4 s c w (by omega) (by omega) (by omega)
    · exact refNext_5 s c w (by omega) (by omega) (by omega)
    · exact refNext_6 s c w (by omega) (by omega) (by omega)
    · exact refNext_7 s c w (by omega) (by omega) (by omega)
    · exact refNext_8 s c w (by omega) (by omega) (by omega)
    · exact refNext_9 s c w (by omega) (by omega) (by omega)
    · exact refNext_10 s c w (by omega) (by omega) (by omega)
end Go.Proofs.Ytfmmaigaanikgaa
