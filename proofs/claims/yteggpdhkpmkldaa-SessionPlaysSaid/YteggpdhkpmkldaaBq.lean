import Derived.Test.YteggpdhkpmkldaaBa
import Derived.Lib.QuietBelow
import Derived.RegionTactic
namespace Go.Proofs.Yteggpdhkpmkldaa
open Go.RowKit Go.Sort

/-- Where the first k operations of a region that draws its order have come up, and the others only read: one walk of them in the text's order serves every order. -/
theorem wpAny_rest_below {P : Program} {Q : Exit → Act → World → Prop} {a : Act} {w : World} {l : List Oper} {fuel : Nat} {listed : Array Bool} (k : Nat) (hs : Region.noSelect l.toArray = true)
    (hB : (decide (fuel = (l.drop k).length) && Region.lexFrom .any l.toArray (l.drop k).length k listed) = true)
    (h : wpQuiet P l.toArray (fun w' => ∃ p : Regrown, w' = grow (redrawn w p.d) p.os) (fun a' => ∀ w', (∃ p : Regrown, w' = grow (redrawn w p.d) p.os) → Q .normal a' w') (l.drop k) a) : wpAny P .any l.toArray Q fuel listed a w := by
  simp only [Bool.and_eq_true, decide_eq_true_eq] at hB
  rw [hB.1]
  refine wpAny_of_quiet (C := fun w' => ∃ p : Regrown, w' = grow (redrawn w p.d) p.os) (Q := fun a' => ∀ w', (∃ p : Regrown, w' = grow (redrawn w p.d) p.os) → Q .normal a' w') (fun _ w' hw' h => h w' hw') _ _ _ _ ⟨⟨w.drawn, #[]⟩, by rw [grow_empty]; rfl⟩ ?_
  exact wpAnyQ_lex hs (l.drop k) k listed a (fun j => by simp [List.getElem?_drop]) hB.2 h
/-- The one operation that may come up. -/
theorem wpAny_one {P : Program} {ops : Array Oper} {md : Region.Mode} {Q : Exit → Act → World → Prop} {fuel : Nat} {listed : Array Bool} {a : Act} {w : World} (i : Nat) (o : Oper) (hr : Region.ready md ops listed = [i]) (ho : ops[i]? = some o)
    (h : ∀ K' : Act → World → Prop, (∀ a w, wpAny P md ops Q fuel (listed.setIfInBounds i true) a w → K' a w) → if Region.wanted o (yielded ops a.tmps) = true then Oper.wp P o a w K' Q else K' (a.put o.dst undef) w) : wpAny P md ops Q (fuel + 1) listed a w :=
  wpAny_ready hr (by simp) (AllReady.cons ho h AllReady.nil)
theorem regrownM {P : Program} {f : FuncId} {args : Array Value} {w : World} {p : Regrown} {v : Value}
    (h : Calls P f args (grow (redrawn w p.d) p.os) fun e w' => e = .returned v ∧ Mods (fun _ => False) (grow (redrawn w p.d) p.os) w') : Calls P f args (grow (redrawn w p.d) p.os) fun e w'' => e = .returned v ∧ ∃ p : Regrown, w'' = grow (redrawn w p.d) p.os :=
  Calls.regrown_of (h.mono fun _ _ ⟨he, hm⟩ => ⟨he, ⟨hm.os, hm.tape, hm.output, hm.size, fun k hk => hm.block k hk id⟩⟩)
theorem mods_regrown' (w : World) (q : Regrown) : Mods (fun _ => False) w (grow (redrawn w q.d) q.os) := Below.mods_ (below_regrown w q.d q.os) _

end Go.Proofs.Yteggpdhkpmkldaa
