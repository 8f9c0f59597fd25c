/- A region that draws its order, walked in one order: operations that make memory, calls, append. -/
import Derived.Test.YtgmdimbiipemhaaGreatDoorHeldS
import Derived.Test.YtgmdimbiipemhaaGreatDoorAppNew
namespace Go.Proofs.YtgmdimbiipemhaaGreatDoor
open Go Go.RowKit Go.Deep
set_option linter.unusedVariables false

section
variable {P : Program} {ops : Array Oper} {Q : Exit → Act → World → Prop} {md : Region.Mode} {S : World → Prop} {Z : Nat → Bool}
/-- Only number i may come up, and it yields a value. -/
theorem wpAnyS_ran {i : Nat} {o : Oper} {d : Option Tmp} {v : Value} {fuel : Nat} {listed : Array Bool} {a : Act} {w w' : World} (hr : Region.ready md ops listed = [i]) (ho : ops[i]? = some o) (hd : o.dst = d) (hw : Region.wanted o (yielded ops a.tmps) = true)
    (hv : (execOp a.eval o).run P w = .ok (.value v) w') (hS : Z i = false → S w') (h : wpAnyS P md ops Q S Z fuel (listed.setIfInBounds i true) (a.put d v) w') : wpAnyS P md ops Q S Z (fuel + 1) listed a w := by
  subst hd
  exact wpAnyS_one hr (wpOp_step ho fun K' hK => by
    rw [if_pos hw, Oper.wp, hv]
    exact hK _ _ ⟨hS, h⟩)
/-- Only number i may come up, and it is a call. -/
theorem wpAnyS_call {i : Nat} {o : Oper} {d : Option Tmp} {f : FuncId} {args : Array Value} {fuel : Nat} {listed : Array Bool} {a : Act} {w w' : World} (hr : Region.ready md ops listed = [i]) (ho : ops[i]? = some o) (hd : o.dst = d) (hw : Region.wanted o (yielded ops a.tmps) = true)
    (hv : (execOp a.eval o).run P w = .ok (.enter f args) w')
    (h : Calls P f args w' fun e w'' => ∃ v, e = .returned v ∧ (Z i = false → S w'') ∧ wpAnyS P md ops Q S Z fuel (listed.setIfInBounds i true) (a.put d v) w'') : wpAnyS P md ops Q S Z (fuel + 1) listed a w := by
  subst hd
  exact wpAnyS_one hr (wpOp_step ho fun K' hK => by
    rw [if_pos hw, Oper.wp, hv, Oper.upon_enter]
    refine Calls.mono h ?_
    rintro e w'' ⟨v, rfl, h1, h2⟩
    exact hK _ _ ⟨h1, h2⟩)
/-- append, as one operation. -/
theorem exec_append {o : Oper} {a : Act} {w w' : World} {s x : Operand} {t tn : TypeId} {v vx v' : Value} (hop : o.op = .call { callee := .builtin .append, args := #[s, x], argTypes := #[t, tn] }) (hs : a.eval s = v) (hx : a.eval x = vx)
    (hr : (Builtin.append_ #[t, tn] o.type #[v, vx]).run P w = .ok v' w') : (execOp a.eval o).run P w = .ok (.value v') w' := by
  unfold execOp
  simp only [hop, resolve, invoke, builtin, Sem.run_bind, Sem.run_pure, Result.andThen_ok, List.map_toArray, List.map_cons, List.map_nil, hs, hx, hr]
/-- None of these may come up before number i: each waits for it, or for one of them. -/
def Blocks (md : Region.Mode) (ops : Array Oper) (i : Nat) (js : List Nat) (listed : Array Bool) : Prop :=
  ∀ j ∈ js, listed.getD j true = false ∧ ∃ oj, ops[j]? = some oj ∧ ∃ e ∈ oj.after, Region.binds md e = true ∧ (e.on = i ∨ e.on ∈ js)
/-- The same, to be computed; and those of Z that are not listed are among them. -/
def waitsB (md : Region.Mode) (ops : Array Oper) (Z : Nat → Bool) (listed : Array Bool) (i : Nat) (js : List Nat) : Bool :=
  (js.all fun j => !(listed.getD j true) && (match ops[j]? with
    | some o => o.after.any fun e => Region.binds md e && (e.on == i || js.contains e.on)
    | none => false)) && (List.range ops.size).all fun j => listed.getD j true || !Z j || js.contains j
theorem waitsB_spec {listed : Array Bool} {i : Nat} {js : List Nat} (h : waitsB md ops Z listed i js = true) : Blocks md ops i js listed ∧ ∀ j oj, Z j = true → listed.getD j true = false → ops[j]? = some oj → j ∈ js := by
  unfold waitsB at h
  rw [Bool.and_eq_true] at h
  refine ⟨fun j hj => ?_, fun j oj hz hu ho => ?_⟩
  · have := List.all_eq_true.1 h.1 j hj
    rw [Bool.and_eq_true, Bool.not_eq_true'] at this
    refine ⟨this.1, ?_⟩
    cases ho : ops[j]? with
    | none => rw [ho] at this; exact absurd this.2 (by simp)
    | some o =>
      rw [ho] at this
      obtain ⟨k, hk, h2⟩ := Array.any_eq_true.1 this.2
      rw [Bool.and_eq_true, Bool.or_eq_true, beq_iff_eq, List.contains_iff_mem] at h2
      exact ⟨o, rfl, _, Array.getElem_mem hk, h2.1, h2.2⟩
  · have := List.all_eq_true.1 h.2 j (List.mem_range.2 (Array.getElem?_eq_some_iff.1 ho).1)
    rw [hz, hu] at this
    simpa using this
theorem wpAnyS_front2 {i : Nat} {oi : Oper} {v : Value} {js : List Nat} (hi : ops[i]? = some oi)
    (hsel : ∀ (j : Nat) (o : Oper) cs b, ops[j]? = some o → o.op ≠ .select cs b) (hQ : ∀ c a w, Q (.panic c) (a.put oi.dst v) w → Q (.panic c) a w) (hiz : Z i = false) (fuel : Nat) :
    ∀ (listed : Array Bool) (a : Act) (w : World), Blocks md ops i js listed → (∀ j oj, Z j = true → listed.getD j true = false → ops[j]? = some oj → j ∈ js) → Ahead md ops i oi listed → YieldsIf P ops S oi v a → S w →
      wpAnyS P md ops Q S Z fuel (listed.setIfInBounds i true) (a.put oi.dst v) w → wpAnyS P md ops Q S Z (fuel + 1) listed a w := by
  induction fuel using Nat.strongRecOn with
  | _ fuel ih =>
    intro listed a w hbl hzj hA hy hS H
    refine ⟨fun h0 => absurd (h0 ▸ hA.1 : i ∈ []) (by simp), fun j hj => ?_⟩
    rcases Decidable.em (j = i) with hji | hji
    · rw [hji]
      exact hy.wpOp hi hS ⟨fun _ => hS, H⟩
    · obtain ⟨n, rfl, hop⟩ := wpAnyS_at H (ready_mono hj hji)
      obtain ⟨hun, oj, hoj, hall⟩ := mem_ready.1 hj
      obtain ⟨hno, hap⟩ := hA.2 [] (by simp) j oj hj hji hoj
      have hjs : j ∉ js := fun hm => by
        obtain ⟨_, oj', hoj', e, he, hb, hd⟩ := hbl j hm
        rw [hoj] at hoj'
        cases hoj'
        rcases hd with hd | hd
        · exact hno e he hb hd
        · have h1 := hall e he hb
          rw [un_false (hbl _ hd).1] at h1
          cases h1
      have hjz : Z j = false := by
        cases hz : Z j with
        | false => rfl
        | true => exact absurd (hzj j oj hz hun hoj) hjs
      refine wpOp_mono ?_ (wpOp_putIf hoj hap (fun cs b => hsel i oi cs b hi) (fun cs b => hsel j oj cs b hoj) hQ hy hop)
      rintro a' w' ⟨hy', hS', H'⟩
      rw [Array.setIfInBounds_comm _ _ (Ne.symm hji)] at H'
      refine ⟨hS', ih n (Nat.lt_succ_self n) _ a' w' (fun q hq => ?_) (fun q oq hq hu => hzj q oq hq (more_un [j] listed hu)) (hA.step hji) hy' (hS' hjz) H'⟩
      obtain ⟨h1, h2⟩ := hbl q hq
      exact ⟨by rw [getD_set_ne true (fun e => hjs (by rw [e]; exact hq))]; exact h1, h2⟩
/-- Take number i first: it reads what S tells; those of Z that are not listed wait for it, by way of others. -/
theorem wpAnyS_take2 {i : Nat} {oi : Oper} {d : Option Tmp} {v : Value} {fuel : Nat} {listed : Array Bool} {a : Act} {w : World} (js : List Nat) (hi : ops[i]? = some oi) (hd : oi.dst = d) (hiz : Z i = false) (hwait : waitsB md ops Z listed i js = true)
    (hs : Region.noSelect ops = true) (hf : Region.free md ops listed i = true) (hr : (Region.ready md ops listed).contains i = true)
    (hQ : ∀ c a w, Q (.panic c) (a.put d v) w → Q (.panic c) a w) (hy : YieldsIf P ops S oi v a) (hS : S w)
    (h : wpAnyS P md ops Q S Z fuel (listed.setIfInBounds i true) (a.put d v) w) : wpAnyS P md ops Q S Z (fuel + 1) listed a w := by
  subst hd
  exact wpAnyS_front2 hi (Region.noSelect_spec hs) hQ hiz fuel listed a w (waitsB_spec hwait).1 (waitsB_spec hwait).2 (Ahead.of_free hi (by simpa using hr) hf) hy hS h
end

end Go.Proofs.YtgmdimbiipemhaaGreatDoor
