/- A region that draws its order, walked by hand: a call that alone may come up. -/
import Derived.OrdersHeld
import Derived.Deep.RegionHeld
import Derived.WalkKit
namespace Go.Proofs.Ytilonmpcifohiaa
open Go
set_option linter.unusedVariables false

section
variable {P : Program} {ops : Array Oper} {Q : Exit → Act → World → Prop} {md : Region.Mode} {S : World → Prop}

/-- Number i is taken first; it writes slot d. -/
theorem held_take {i : Nat} {oi : Oper} {d : Option Tmp} {v : Value} {fuel : Nat} {listed : Array Bool} {a : Act} {w : World} (hi : ops[i]? = some oi) (hd : oi.dst = d)
    (hs : Region.noSelect ops = true) (hf : Region.free md ops listed i = true) (hr : (Region.ready md ops listed).contains i = true)
    (hQ : ∀ c a w, Q (.panic c) (a.put d v) w → Q (.panic c) a w) (hy : YieldsIf P ops S oi v a) (hS : S w)
    (h : wpAnyH P md ops Q S fuel (listed.setIfInBounds i true) (a.put d v) w) : wpAnyH P md ops Q S (fuel + 1) listed a w := by
  subst hd
  exact wpAnyH_take hi hs hf hr hQ hy hS h
/-- Only number i may come up, and it is a call. -/
theorem held_call {i : Nat} {o : Oper} {d : Option Tmp} {f : FuncId} {args : Array Value} {fuel : Nat} {listed : Array Bool} {a : Act} {w w' : World} (hr : Region.ready md ops listed = [i]) (ho : ops[i]? = some o) (hd : o.dst = d) (hw : Region.wanted o (yielded ops a.tmps) = true)
    (hv : (execOp a.eval o).run P w = .ok (.enter f args) w')
    (h : Calls P f args w' fun e w'' => ∃ v, e = .returned v ∧ S w'' ∧ wpAnyH P md ops Q S fuel (listed.setIfInBounds i true) (a.put d v) w'') : wpAnyH P md ops Q S (fuel + 1) listed a w := by
  subst hd
  exact wpAnyH_all hr (by simp) (fun j hj => by
    obtain rfl := List.mem_singleton.1 hj
    exact wpOp_step ho fun K' hK => by
      rw [if_pos hw, Oper.wp, hv, Oper.upon_enter]
      refine Calls.mono h ?_
      rintro e w'' ⟨v, rfl, h1, h2⟩
      exact hK _ _ ⟨h1, h2⟩)
/-- Only number i may come up, and it yields a value. -/
theorem held_ran {i : Nat} {o : Oper} {d : Option Tmp} {v : Value} {fuel : Nat} {listed : Array Bool} {a : Act} {w w' : World} (hr : Region.ready md ops listed = [i]) (ho : ops[i]? = some o) (hd : o.dst = d) (hw : Region.wanted o (yielded ops a.tmps) = true)
    (hv : (execOp a.eval o).run P w = .ok (.value v) w') (hS : S w') (h : wpAnyH P md ops Q S fuel (listed.setIfInBounds i true) (a.put d v) w') : wpAnyH P md ops Q S (fuel + 1) listed a w := by
  subst hd
  exact wpAnyH_all hr (by simp) (fun j hj => by
    obtain rfl := List.mem_singleton.1 hj
    exact wpOp_step ho fun K' hK => by
      rw [if_pos hw, Oper.wp, hv]
      exact hK _ _ ⟨hS, h⟩)
end

end Go.Proofs.Ytilonmpcifohiaa
