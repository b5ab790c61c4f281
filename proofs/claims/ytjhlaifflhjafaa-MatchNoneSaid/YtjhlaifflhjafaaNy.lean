import Derived.Test.YtjhlaifflhjafaaNx
namespace Go.Proofs.Ytjhlaifflhjafaa
open Go.RowKit

theorem set_perm {l : List Mo} {k : Nat} {o : Mo} (h : l[k]? = some o) (n : Mo) : (l.set k n).Perm (n :: cutAt k l) := by
  have hk := (List.getElem?_eq_some_iff.1 h).1
  rw [List.set_eq_take_append_cons_drop, if_pos hk]
  exact List.perm_middle
theorem sum_put {S : Sd} {sd k : Nat} (hsd : sd = 0 ∨ sd = 1) {o : Mo} (ho : (S.at sd)[k]? = some o) : sumS (S.put sd (cutAt k (S.at sd))) = sumS S - o.left := by
  have hs := cut_sum ho
  rcases hsd with rfl | rfl
  · simp only [sumS, Sd.put, Sd.at, if_true] at hs ⊢; omega
  · simp [sumS, Sd.put, Sd.at] at hs ⊢; omega
theorem KpR.repAt {S : Sd} {l : SlO} (h : KpI S l) (sd k : Nat) (hsd : sd = 0 ∨ sd = 1) (o : Mo) (ho : (S.at sd)[k]? = some o) (nm : ByteArray) (hid : o.id = nm) (hleft : (leftM S nm).1 = o.left) (x qt pr : Int) :
    KpR S l (3, nm, x, qt, pr) (((Go.Proofs.Ytjhlaifflhjafaa.repAt S sd k o nm qt pr).1.1, 0, (Go.Proofs.Ytjhlaifflhjafaa.repAt S sd k o nm qt pr).1.2), (Go.Proofs.Ytjhlaifflhjafaa.repAt S sd k o nm qt pr).2) := by
  subst hid
  have hc := h.cut sd k hsd o ho
  have hlim : (lookVO l o.id).sd = ((sd + 1 : Nat) : Int) := by
    have hm := List.mem_of_getElem? ho
    rcases hsd with rfl | rfl
    · obtain ⟨q, h1, h2, -⟩ := h.l1 o hm
      rw [lookVO_of h1, h2]; rfl
    · obtain ⟨q, h1, h2, -⟩ := h.l2 o hm
      rw [lookVO_of h1, h2]; rfl
  have e1 : limUp l (3, o.id, x, qt, pr) 0 = putO l o.id ⟨3, o.id, ((sd + 1 : Nat) : Int), qt, pr⟩ := by
    rw [← hlim]; rfl
  have e2 : cameM S (3, o.id, x, qt, pr) 0 = qt - o.left := by
    rw [← hleft]; rfl
  have hn := h.i.n
  unfold Go.Proofs.Ytjhlaifflhjafaa.repAt
  split
  · exact KpR.none h _ 2 (by decide)
  · rename_i hb
    have hb2 : (inB qt 1 1099511627776 && inB pr 1 1099511627776) = true := by simpa using hb
    rw [Bool.and_eq_true] at hb2
    have hq := inB_iff.1 hb2.1
    have hp := inB_iff.1 hb2.2
    split
    · rename_i hpl
      have hi := h.i.set sd k hsd o ho qt hq.1 hq.2
      have hnd : (o.id :: idsS (S.put sd (cutAt k (S.at sd)))).Nodup := List.nodup_cons.2 ⟨hc.2, hc.1.u⟩
      have hself : lookO (putO l o.id ⟨3, o.id, ((sd + 1 : Nat) : Int), qt, pr⟩) o.id = some ⟨3, o.id, ((sd + 1 : Nat) : Int), qt, pr⟩ := lookO_put_same _ _ _
      have hpm := set_perm ho { o with left := qt }
      have hss := set_sum ho qt
      have hmm := hc.2
      have hcl1 := hc.1.l1
      have hcl2 := hc.1.l2
      refine ⟨?_, fun hne => absurd rfl hne, ?_, fun t ht => (by cases ht), by simp [qtyS], by simp⟩
      · rw [e1]
        rcases hsd with rfl | rfl
        · refine ⟨hi, ?_, fun y hy => ?_, ?_⟩
          · have hp2 : (idsS ((S.1.set k { o with left := qt }), S.2)).Perm (o.id :: idsS (cutAt k S.1, S.2)) := by
              have := (hpm.map (·.id)).append_right (S.2.map (·.id))
              exact this
            exact hp2.symm.nodup hnd
          · rcases List.mem_cons.1 (hpm.mem_iff.1 hy) with rfl | hy
            · exact ⟨_, hself, rfl, hpl.1⟩
            · exact hcl1.put o.id _ (fun z hz e => hmm (by unfold idsS; exact List.mem_append_left _ (e ▸ List.mem_map_of_mem hz))) y hy
          · exact hcl2.put o.id _ (fun z hz e => hmm (by unfold idsS; exact List.mem_append_right _ (e ▸ List.mem_map_of_mem hz)))
        · refine ⟨hi, ?_, ?_, fun y hy => ?_⟩
          · have hp2 : (idsS (S.1, (S.2.set k { o with left := qt }))).Perm (o.id :: idsS (S.1, cutAt k S.2)) := by
              have := (hpm.map (·.id)).append_left (S.1.map (·.id))
              exact this.trans List.perm_middle
            exact hp2.symm.nodup hnd
          · exact hcl1.put o.id _ (fun z hz e => hmm (by unfold idsS; exact List.mem_append_left _ (e ▸ List.mem_map_of_mem hz)))
          · rcases List.mem_cons.1 (hpm.mem_iff.1 hy) with rfl | hy
            · exact ⟨_, hself, rfl, hpl.1⟩
            · exact hcl2.put o.id _ (fun z hz e => hmm (by unfold idsS; exact List.mem_append_right _ (e ▸ List.mem_map_of_mem hz))) y hy
      · simp only [e2]
        have q0 : qtyS [] = 0 := rfl
        rw [q0]
        rcases hsd with rfl | rfl
        · simp [sumS, Sd.put, Sd.at] at hss ⊢; omega
        · simp [sumS, Sd.put, Sd.at] at hss ⊢; omega
    · have hs1 := sum_put hsd ho
      have hk := (List.getElem?_eq_some_iff.1 ho).1
      have hcl := cutAt_len hk
      have hcnt : (S.put sd (cutAt k (S.at sd))).1.length + (S.put sd (cutAt k (S.at sd))).2.length < 512 := by
        rcases hsd with rfl | rfl
        · simp [Sd.put, Sd.at] at hcl hk ⊢; omega
        · simp [Sd.put, Sd.at] at hcl hk ⊢; omega
      have hms := meetM_sum sd hsd hc.1.i.ok o.id qt pr hq.1 hq.2
      have hkk := hc.1.meet sd hsd o.id hc.2 3 qt pr hq.1 hq.2 hp hcnt
      have ht := hc.1.trades sd hsd o.id hc.2 3 qt pr hq.1 hq.2
      have hl := meetM_len sd (S.put sd (cutAt k (S.at sd))) o.id qt pr
      refine ⟨by rw [e1]; exact hkk, fun hne => absurd rfl hne, ?_, by rw [e1]; exact ht, ⟨hms.2.1, by simp only; omega⟩, by simp only; omega⟩
      simp only [e2]
      omega
theorem KpR.rep {S : Sd} {l : SlO} (h : KpI S l) (nm : ByteArray) (x qt pr : Int) : KpR S l (3, nm, x, qt, pr) (((repM S nm qt pr).1.1, 0, (repM S nm qt pr).1.2), (repM S nm qt pr).2) := by
  unfold repM
  split
  · rename_i o ho
    exact KpR.repAt h 0 _ (.inl rfl) o ho nm (mIdx_id ho) (by unfold leftM; rw [ho]) x qt pr
  · rename_i h0
    split
    · rename_i o ho
      exact KpR.repAt h 1 _ (.inr rfl) o ho nm (mIdx_id ho) (by unfold leftM; rw [h0]; simp only; rw [ho]) x qt pr
    · exact KpR.none h _ 42 (by decide)
/-- Every op keeps. -/
theorem KpI.step {S : Sd} {l : SlO} (h : KpI S l) (x : MOp) : KpR S l x (doM S x) := by
  obtain ⟨kd, nm, sd, qt, pr⟩ := x
  unfold doM
  simp only
  split
  · rename_i k1
    subst k1
    exact KpR.add h nm sd qt pr
  · split
    · rename_i k2
      subst k2
      exact KpR.can h nm sd qt pr
    · split
      · rename_i k3
        subst k3
        exact KpR.rep h nm sd qt pr
      · rename_i k1 k2 k3
        have e1 : limUp l (kd, nm, sd, qt, pr) 0 = l := by unfold limUp; rw [if_neg (fun hh => k1 hh.2), if_neg (fun hh => k3 hh.2)]
        have e2 : cameM S (kd, nm, sd, qt, pr) 0 = 0 := by unfold cameM; rw [if_neg (fun hh => k1 hh.2), if_neg (fun hh => k3 hh.2)]
        exact ⟨by rw [e1]; exact h, fun hne => absurd rfl hne, by simp [e2, qtyS], fun t ht => (by cases ht), by simp [qtyS], by simp⟩

end Go.Proofs.Ytjhlaifflhjafaa
