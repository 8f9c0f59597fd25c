/- A region that draws its order: a condition on the world that is held behind every operation but the last one, which may overwrite what the region loads. -/
import Derived.OrdersHeld
import Derived.RegionTactic
import Derived.WalkKit
namespace Go.Proofs.Ytilonmpcifohiaa
open Go
set_option linter.unusedVariables false

section
variable {P : Program} {ops : Array Oper} {Q : Exit → Act → World → Prop} {md : Region.Mode} {S : World → Prop} {z : Nat}

/-- Whatever order is picked, and S holds behind every operation but number z. -/
def wpAnyZ (P : Program) (md : Region.Mode) (ops : Array Oper) (Q : Exit → Act → World → Prop) (S : World → Prop) (z : Nat) : Nat → Array Bool → Act → World → Prop
  | 0, listed, a, w => Region.ready md ops listed = [] ∧ Q .normal a w
  | fuel + 1, listed, a, w =>
    (Region.ready md ops listed = [] → Q .normal a w) ∧
    ∀ i ∈ Region.ready md ops listed, wpOp P ops Q i (fun a' w' => (i ≠ z → S w') ∧ wpAnyZ P md ops Q S z fuel (listed.setIfInBounds i true) a' w') a w

theorem wpAny_of_z : ∀ (fuel : Nat) (listed : Array Bool) (a : Act) (w : World), wpAnyZ P md ops Q S z fuel listed a w → wpAny P md ops Q fuel listed a w
  | 0, _, _, _, h => h
  | fuel + 1, _, _, _, h => ⟨h.1, fun i hi => wpOp_mono (fun a' w' h' => wpAny_of_z fuel _ a' w' h'.2) (h.2 i hi)⟩

/-- One more listed, and some more. -/
def more (listed : Array Bool) (js : List Nat) : Array Bool := js.foldl (fun l j => l.setIfInBounds j true) listed
theorem more_un {k : Nat} : ∀ (js : List Nat) (listed : Array Bool), (more listed js).getD k true = false → listed.getD k true = false
  | [], _, h => h
  | j :: js, listed, h => by
    have h1 := more_un js (listed.setIfInBounds j true) h
    by_cases hjk : j = k
    · subst hjk
      by_cases hs : j < listed.size
      · simp [hs] at h1
      · simp [hs] at h1
    · rwa [getD_set_ne true hjk] at h1
theorem more_still {k : Nat} : ∀ (js : List Nat) (listed : Array Bool), k ∉ js → listed.getD k true = false → (more listed js).getD k true = false
  | [], _, _, h => h
  | j :: js, listed, hn, h => more_still js _ (fun e => hn (by simp [e])) (by rw [getD_set_ne true (fun e => hn (by simp [e]))]; exact h)
theorem un_false {listed : Array Bool} {k : Nat} (h : listed.getD k true = false) : listed.getD k false = false := by
  by_cases hs : k < listed.size
  · simp [hs] at h ⊢; exact h
  · simp [hs] at h

/-- Whoever may come up ahead of number i, whatever else has come, waits not for it and keeps apart from it. -/
def Ahead (md : Region.Mode) (ops : Array Oper) (i : Nat) (oi : Oper) (listed : Array Bool) : Prop :=
  i ∈ Region.ready md ops listed ∧ ∀ js, i ∉ js → ∀ j oj, j ∈ Region.ready md ops (more listed js) → j ≠ i → ops[j]? = some oj → (∀ e ∈ oj.after, Region.binds md e = true → e.on ≠ i) ∧ oi.apart ops oj = true
theorem Ahead.step {i j : Nat} {oi : Oper} {listed : Array Bool} (h : Ahead md ops i oi listed) (hj : j ≠ i) : Ahead md ops i oi (listed.setIfInBounds j true) :=
  ⟨ready_mono h.1 (Ne.symm hj), fun js hn => h.2 (j :: js) (by simp [hn, Ne.symm hj])⟩
theorem Ahead.of_free {i : Nat} {oi : Oper} {listed : Array Bool} (hi : ops[i]? = some oi) (hr : i ∈ Region.ready md ops listed) (hf : Region.free md ops listed i = true) : Ahead md ops i oi listed := by
  refine ⟨hr, fun js hn j oj hj hji hoj => ?_⟩
  obtain ⟨hun, o, ho, hall⟩ := mem_ready.1 hj
  rw [hoj] at ho
  cases ho
  have hno : ∀ e ∈ oj.after, Region.binds md e = true → e.on ≠ i := fun e he hb hei => by
    have h1 := hall e he hb
    rw [hei, un_false (more_still js listed hn (mem_ready.1 hr).1)] at h1
    cases h1
  exact ⟨hno, Region.free_spec hi hf j oj hoj hji (more_un js listed hun) hno⟩

theorem wpAnyZ_at {fuel : Nat} {listed : Array Bool} {a : Act} {w : World} (h : wpAnyZ P md ops Q S z fuel listed a w) {j : Nat} (hj : j ∈ Region.ready md ops listed) :
    ∃ n, fuel = n + 1 ∧ wpOp P ops Q j (fun a' w' => (j ≠ z → S w') ∧ wpAnyZ P md ops Q S z n (listed.setIfInBounds j true) a' w') a w := by
  cases fuel with
  | zero => exact absurd (h.1 ▸ hj : j ∈ []) (by simp)
  | succ n => exact ⟨n, rfl, h.2 j hj⟩

/-- Number i, that yields the same wherever S holds, and that z waits for, may be taken first. -/
theorem wpAnyZ_front {i : Nat} {oi oz : Oper} {v : Value} (hi : ops[i]? = some oi) (hz : ops[z]? = some oz) (hwait : ∃ e ∈ oz.after, Region.binds md e = true ∧ e.on = i)
    (hsel : ∀ (j : Nat) (o : Oper) cs b, ops[j]? = some o → o.op ≠ .select cs b) (hQ : ∀ c a w, Q (.panic c) (a.put oi.dst v) w → Q (.panic c) a w) (fuel : Nat) :
    ∀ (listed : Array Bool) (a : Act) (w : World), Ahead md ops i oi listed → YieldsIf P ops S oi v a → S w →
      wpAnyZ P md ops Q S z fuel (listed.setIfInBounds i true) (a.put oi.dst v) w → wpAnyZ P md ops Q S z (fuel + 1) listed a w := by
  induction fuel using Nat.strongRecOn with
  | _ fuel ih =>
    intro listed a w hA hy hS H
    refine ⟨fun h0 => absurd (h0 ▸ hA.1 : i ∈ []) (by simp), fun j hj => ?_⟩
    rcases Decidable.em (j = i) with hji | hji
    · rw [hji]
      exact hy.wpOp hi hS ⟨fun _ => hS, H⟩
    · obtain ⟨n, rfl, hop⟩ := wpAnyZ_at H (ready_mono hj hji)
      obtain ⟨oj, hoj⟩ : ∃ oj, ops[j]? = some oj := by
        obtain ⟨_, oj, hoj, _⟩ := mem_ready.1 hj
        exact ⟨oj, hoj⟩
      obtain ⟨hno, hap⟩ := hA.2 [] (by simp) j oj hj hji hoj
      have hjz : j ≠ z := by
        rintro rfl
        obtain ⟨e, he, hb, hei⟩ := hwait
        rw [hz] at hoj
        cases hoj
        exact hno e he hb hei
      refine wpOp_mono ?_ (wpOp_putIf hoj hap (fun cs b => hsel i oi cs b hi) (fun cs b => hsel j oj cs b hoj) hQ hy hop)
      rintro a' w' ⟨hy', hS', H'⟩
      rw [Array.setIfInBounds_comm _ _ (Ne.symm hji)] at H'
      exact ⟨hS', ih n (Nat.lt_succ_self n) _ a' w' (hA.step hji) hy' (hS' hjz) H'⟩

/-- Take number i first. -/
theorem wpAnyZ_take {i : Nat} {oi oz : Oper} {v : Value} {fuel : Nat} {listed : Array Bool} {a : Act} {w : World} (hi : ops[i]? = some oi) (hz : ops[z]? = some oz) (hiz : i ≠ z) (hwait : ∃ e ∈ oz.after, Region.binds md e = true ∧ e.on = i)
    (hs : Region.noSelect ops = true) (hf : Region.free md ops listed i = true) (hr : (Region.ready md ops listed).contains i = true)
    (hQ : ∀ c a w, Q (.panic c) (a.put oi.dst v) w → Q (.panic c) a w) (hy : YieldsIf P ops S oi v a) (hS : S w)
    (h : wpAnyZ P md ops Q S z fuel (listed.setIfInBounds i true) (a.put oi.dst v) w) : wpAnyZ P md ops Q S z (fuel + 1) listed a w :=
  wpAnyZ_front hi hz hwait (Region.noSelect_spec hs) hQ fuel listed a w (Ahead.of_free hi (by simpa using hr) hf) hy hS h

/-- Only number i may come up. -/
theorem wpAnyZ_one {i : Nat} {fuel : Nat} {listed : Array Bool} {a : Act} {w : World} (hr : Region.ready md ops listed = [i])
    (h : wpOp P ops Q i (fun a' w' => (i ≠ z → S w') ∧ wpAnyZ P md ops Q S z fuel (listed.setIfInBounds i true) a' w') a w) : wpAnyZ P md ops Q S z (fuel + 1) listed a w :=
  ⟨fun h0 => absurd (hr.symm.trans h0) (by simp), fun j hj => by rw [hr] at hj; rw [List.mem_singleton.1 hj]; exact h⟩

/-- Only number i may come up, and it yields a value. -/
theorem wpAnyZ_ran {i : Nat} {o : Oper} {v : Value} {fuel : Nat} {listed : Array Bool} {a : Act} {w w' : World} (hr : Region.ready md ops listed = [i]) (ho : ops[i]? = some o) (hw : Region.wanted o (yielded ops a.tmps) = true)
    (hv : (execOp a.eval o).run P w = .ok (.value v) w') (hS : i ≠ z → S w') (h : wpAnyZ P md ops Q S z fuel (listed.setIfInBounds i true) (a.put o.dst v) w') : wpAnyZ P md ops Q S z (fuel + 1) listed a w :=
  wpAnyZ_one hr (wpOp_step ho fun K' hK => by
    rw [if_pos hw, Oper.wp, hv]
    exact hK _ _ ⟨hS, h⟩)
/-- Only number i may come up, and it yields nothing. -/
theorem wpAnyZ_mute {i : Nat} {o : Oper} {fuel : Nat} {listed : Array Bool} {a : Act} {w w' : World} (hr : Region.ready md ops listed = [i]) (ho : ops[i]? = some o) (hw : Region.wanted o (yielded ops a.tmps) = true)
    (hv : (execOp a.eval o).run P w = .ok .skip w') (hS : i ≠ z → S w') (h : wpAnyZ P md ops Q S z fuel (listed.setIfInBounds i true) (a.put o.dst undef) w') : wpAnyZ P md ops Q S z (fuel + 1) listed a w :=
  wpAnyZ_one hr (wpOp_step ho fun K' hK => by
    rw [if_pos hw, Oper.wp, hv]
    exact hK _ _ ⟨hS, h⟩)
/-- Only number i may come up, and it is a call. -/
theorem wpAnyZ_call {i : Nat} {o : Oper} {f : FuncId} {args : Array Value} {fuel : Nat} {listed : Array Bool} {a : Act} {w w' : World} (hr : Region.ready md ops listed = [i]) (ho : ops[i]? = some o) (hw : Region.wanted o (yielded ops a.tmps) = true)
    (hv : (execOp a.eval o).run P w = .ok (.enter f args) w')
    (h : Calls P f args w' fun e w'' => ∃ v, e = .returned v ∧ (i ≠ z → S w'') ∧ wpAnyZ P md ops Q S z fuel (listed.setIfInBounds i true) (a.put o.dst v) w'') : wpAnyZ P md ops Q S z (fuel + 1) listed a w :=
  wpAnyZ_one hr (wpOp_step ho fun K' hK => by
    rw [if_pos hw, Oper.wp, hv, Oper.upon_enter]
    refine Calls.mono h ?_
    rintro e w'' ⟨v, rfl, h1, h2⟩
    exact hK _ _ ⟨h1, h2⟩)

theorem wpAnyZ_done {listed : Array Bool} {a : Act} {w : World} (hr : Region.ready md ops listed = []) (h : Q .normal a w) : ∀ fuel, wpAnyZ P md ops Q S z fuel listed a w
  | 0 => ⟨hr, h⟩
  | _ + 1 => ⟨fun _ => h, by rw [hr]; simp⟩

theorem wp_region_z {id : Nat} {a : Act} {w : World} (hm : P.follows .mixedOrders = true)
    (h : wpAnyZ P .any ops Q S z ops.size (Array.replicate ops.size false) a w.drew) : (Code.region id ops true).wp P Q a w :=
  wp_region_any hm (wpAny_of_z _ _ _ _ h)
end

end Go.Proofs.Ytilonmpcifohiaa
