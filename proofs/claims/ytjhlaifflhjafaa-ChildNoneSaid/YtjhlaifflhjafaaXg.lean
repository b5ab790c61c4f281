import Derived.Test.YtjhlaifflhjafaaXf
namespace Go.Proofs.Ytjhlaifflhjafaa
open Go.RowKit

abbrev COp := Int × Int × Int
def cDo (c : Ch) (o : COp) : Int × Ch :=
  if o.1 = 1 then cNow c 1 else
  if o.1 = 2 then cNow c 2 else
  if o.1 = 3 then cReplaced c else
  if o.1 = 4 then cNow c 4 else
  if o.1 = 5 then cTrade c o.2.1 else
  if o.1 = 6 then cBust c o.2.1 else
  if o.1 = 8 then cRefused c else
  if o.1 = 9 then cNow c 9 else
  if o.1 = 10 then cReplace c o.2.1 o.2.2 else
  (0, c)

set_option maxHeartbeats 4000000 in
set_option maxRecDepth 100000 in
theorem cDo_any (w : World) (b : Nat) (c : Ch) (h : CAt w b c) (hi : CInv c) (o : COp) : Calls Try.prog 20 #[.pointer (some ⟨b, 0, none⟩), .agg #[.int .i64 o.1, .int .i64 o.2.1, .int .i64 o.2.2]] w fun en w' => ChP w b (cDo c o) en w' := by
  obtain ⟨o1, o2, o3⟩ := o
  simp only
  have h1 := hi.st1
  have HC := Lib.hid h
  have HI := Lib.hid hi
  have hm := (Mods.refl (fun k => k = b) w).alloc (.cells #[.int .i64 o1, .int .i64 o2, .int .i64 o3] 32)
  have HM := Lib.hid hm
  clear h hi hm
  by_cases k1 : o1 = 1
  · subst k1
    have E := Lib.hid (show cDo c (1, o2, o3) = cNow c 1 from if_pos rfl)
    skip
    go_enter Try.func20, Try.ntmps20
    go_wp2_with (go_at_call 55; refine (cAck _ b c (Ob.alloc HC.out _) h1).mono ?_; rintro en w1 ⟨rfl, hq1, hq2⟩)
    go_ret
    rw [E.out]
    exact ⟨rfl, hq1, HM.out.trans hq2⟩
  have k1' : (o1 == 1) = false := by simpa using k1
  by_cases k2 : o1 = 2
  · subst k2
    have E := Lib.hid (show cDo c (2, o2, o3) = cNow c 2 from (if_neg (by simp)).trans (if_pos rfl))
    clear k1
    go_enter Try.func20, Try.ntmps20
    go_wp2_with (go_at_call 59; refine (cCanceled _ b c (Ob.alloc HC.out _) h1).mono ?_; rintro en w1 ⟨rfl, hq1, hq2⟩)
    go_ret
    rw [E.out]
    exact ⟨rfl, hq1, HM.out.trans hq2⟩
  have k2' : (o1 == 2) = false := by simpa using k2
  by_cases k3 : o1 = 3
  · subst k3
    have E := Lib.hid (show cDo c (3, o2, o3) = cReplaced c from (if_neg (by simp)).trans ((if_neg (by simp)).trans (if_pos rfl)))
    clear k1 k2
    go_enter Try.func20, Try.ntmps20
    go_wp2_with (go_at_call 60; refine (cReplaced_any _ b c (Ob.alloc HC.out _) h1).mono ?_; rintro en w1 ⟨rfl, hq1, hq2⟩)
    go_ret
    rw [E.out]
    exact ⟨rfl, hq1, HM.out.trans hq2⟩
  have k3' : (o1 == 3) = false := by simpa using k3
  by_cases k4 : o1 = 4
  · subst k4
    have E := Lib.hid (show cDo c (4, o2, o3) = cNow c 4 from (if_neg (by simp)).trans ((if_neg (by simp)).trans ((if_neg (by simp)).trans (if_pos rfl))))
    clear k1 k2 k3
    go_enter Try.func20, Try.ntmps20
    go_wp2_with (go_at_call 61; refine (cRejected _ b c (Ob.alloc HC.out _) h1).mono ?_; rintro en w1 ⟨rfl, hq1, hq2⟩)
    go_ret
    rw [E.out]
    exact ⟨rfl, hq1, HM.out.trans hq2⟩
  have k4' : (o1 == 4) = false := by simpa using k4
  by_cases k5 : o1 = 5
  · subst k5
    have E := Lib.hid (show cDo c (5, o2, o3) = cTrade c o2 from (if_neg (by simp)).trans ((if_neg (by simp)).trans ((if_neg (by simp)).trans ((if_neg (by simp)).trans (if_pos rfl)))))
    clear k1 k2 k3 k4
    go_enter Try.func20, Try.ntmps20
    go_wp2_with (go_at_call 54; refine (cTrade_any _ b c (Ob.alloc HC.out _) HI.out _).mono ?_; rintro en w1 ⟨rfl, hq1, hq2⟩)
    go_ret
    rw [E.out]
    exact ⟨rfl, hq1, HM.out.trans hq2⟩
  have k5' : (o1 == 5) = false := by simpa using k5
  by_cases k6 : o1 = 6
  · subst k6
    have E := Lib.hid (show cDo c (6, o2, o3) = cBust c o2 from (if_neg (by simp)).trans ((if_neg (by simp)).trans ((if_neg (by simp)).trans ((if_neg (by simp)).trans ((if_neg (by simp)).trans (if_pos rfl))))))
    clear k1 k2 k3 k4 k5
    go_enter Try.func20, Try.ntmps20
    go_wp2_with (go_at_call 62; refine (cBust_any _ b c (Ob.alloc HC.out _) HI.out _).mono ?_; rintro en w1 ⟨rfl, hq1, hq2⟩)
    go_ret
    rw [E.out]
    exact ⟨rfl, hq1, HM.out.trans hq2⟩
  have k6' : (o1 == 6) = false := by simpa using k6
  by_cases k8 : o1 = 8
  · subst k8
    have E := Lib.hid (show cDo c (8, o2, o3) = cRefused c from (if_neg (by simp)).trans ((if_neg (by simp)).trans ((if_neg (by simp)).trans ((if_neg (by simp)).trans ((if_neg (by simp)).trans ((if_neg (by simp)).trans (if_pos rfl)))))))
    clear k1 k2 k3 k4 k5 k6
    go_enter Try.func20, Try.ntmps20
    go_wp2_with (go_at_call 57; refine (cRefused_any _ b c (Ob.alloc HC.out _) h1).mono ?_; rintro en w1 ⟨rfl, hq1, hq2⟩)
    go_ret
    rw [E.out]
    exact ⟨rfl, hq1, HM.out.trans hq2⟩
  have k8' : (o1 == 8) = false := by simpa using k8
  by_cases k9 : o1 = 9
  · subst k9
    have E := Lib.hid (show cDo c (9, o2, o3) = cNow c 9 from (if_neg (by simp)).trans ((if_neg (by simp)).trans ((if_neg (by simp)).trans ((if_neg (by simp)).trans ((if_neg (by simp)).trans ((if_neg (by simp)).trans ((if_neg (by simp)).trans (if_pos rfl))))))))
    clear k1 k2 k3 k4 k5 k6 k8
    go_enter Try.func20, Try.ntmps20
    go_wp2_with (go_at_call 63; refine (cCancel _ b c (Ob.alloc HC.out _) h1).mono ?_; rintro en w1 ⟨rfl, hq1, hq2⟩)
    go_ret
    rw [E.out]
    exact ⟨rfl, hq1, HM.out.trans hq2⟩
  have k9' : (o1 == 9) = false := by simpa using k9
  by_cases k10 : o1 = 10
  · subst k10
    have E := Lib.hid (show cDo c (10, o2, o3) = cReplace c o2 o3 from (if_neg (by simp)).trans ((if_neg (by simp)).trans ((if_neg (by simp)).trans ((if_neg (by simp)).trans ((if_neg (by simp)).trans ((if_neg (by simp)).trans ((if_neg (by simp)).trans ((if_neg (by simp)).trans (if_pos rfl)))))))))
    clear k1 k2 k3 k4 k5 k6 k8 k9
    go_enter Try.func20, Try.ntmps20
    go_wp2_with (go_at_call 56; refine (cReplace_any _ b c (Ob.alloc HC.out _) h1 _ _).mono ?_; rintro en w1 ⟨rfl, hq1, hq2⟩)
    go_ret
    rw [E.out]
    exact ⟨rfl, hq1, HM.out.trans hq2⟩
  have k10' : (o1 == 10) = false := by simpa using k10
  have E := Lib.hid (show cDo c (o1, o2, o3) = (0, c) from ((if_neg k1).trans ((if_neg k2).trans ((if_neg k3).trans ((if_neg k4).trans ((if_neg k5).trans ((if_neg k6).trans ((if_neg k8).trans ((if_neg k9).trans (if_neg k10))))))))))
  clear k1 k2 k3 k4 k5 k6 k8 k9 k10
  go_enter Try.func20, Try.ntmps20
  go_wp2_with fail
  go_ret
  rw [E.out]
  exact ⟨rfl, Ob.alloc HC.out _, HM.out⟩

end Go.Proofs.Ytjhlaifflhjafaa
