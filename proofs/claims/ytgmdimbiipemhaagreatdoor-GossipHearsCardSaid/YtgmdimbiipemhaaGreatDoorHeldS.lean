/- A region that draws its order: a condition on the world that is held behind every operation but some, which wait for what the condition serves. -/
import Derived.OrdersHeld
import Derived.RegionTactic
import Derived.WalkKit
namespace Go.Proofs.YtgmdimbiipemhaaGreatDoor
open Go
set_option linter.unusedVariables false

section
variable {P : Program} {ops : Array Oper} {Q : Exit → Act → World → Prop} {md : Region.Mode} {S : World → Prop} {Z : Nat → Bool}

/-- Whatever order is picked, and S holds behind every operation but those of Z. -/
def wpAnyS (P : Program) (md : Region.Mode) (ops : Array Oper) (Q : Exit → Act → World → Prop) (S : World → Prop) (Z : Nat → Bool) : Nat → Array Bool → Act → World → Prop
  | 0, listed, a, w => Region.ready md ops listed = [] ∧ Q .normal a w
  | fuel + 1, listed, a, w =>
    (Region.ready md ops listed = [] → Q .normal a w) ∧
    ∀ i ∈ Region.ready md ops listed, wpOp P ops Q i (fun a' w' => (Z i = false → S w') ∧ wpAnyS P md ops Q S Z fuel (listed.setIfInBounds i true) a' w') a w

theorem wpAny_of_s : ∀ (fuel : Nat) (listed : Array Bool) (a : Act) (w : World), wpAnyS P md ops Q S Z fuel listed a w → wpAny P md ops Q fuel listed a w
  | 0, _, _, _, h => h
  | fuel + 1, _, _, _, h => ⟨h.1, fun i hi => wpOp_mono (fun a' w' h' => wpAny_of_s fuel _ a' w' h'.2) (h.2 i hi)⟩

/-- One more listed, and some more. -/
def more (listed : Array Bool) (js : List Nat) : Array Bool := js.foldl (fun l j => l.setIfInBounds j true) listed
theorem more_un {k : Nat} : ∀ (js : List Nat) (listed : Array Bool), (more listed js).getD k true = false → listed.getD k true = false
  | [], _, h => h
  | j :: js, listed, h => by
    have h1 := more_un js (listed.setIfInBounds j true) h
    by_cases hjk : j = k
    · subst hjk
      by_cases hs : j < listed.size
      · simp [hs] at h1
      · simp [hs] at h1
    · rwa [getD_set_ne true hjk] at h1
theorem more_still {k : Nat} : ∀ (js : List Nat) (listed : Array Bool), k ∉ js → listed.getD k true = false → (more listed js).getD k true = false
  | [], _, _, h => h
  | j :: js, listed, hn, h => more_still js _ (fun e => hn (by simp [e])) (by rw [getD_set_ne true (fun e => hn (by simp [e]))]; exact h)
theorem un_false {listed : Array Bool} {k : Nat} (h : listed.getD k true = false) : listed.getD k false = false := by
  by_cases hs : k < listed.size
  · simp [hs] at h ⊢; exact h
  · simp [hs] at h

/-- Whoever may come up ahead of number i, whatever else has come, waits not for it and keeps apart from it. -/
def Ahead (md : Region.Mode) (ops : Array Oper) (i : Nat) (oi : Oper) (listed : Array Bool) : Prop :=
  i ∈ Region.ready md ops listed ∧ ∀ js, i ∉ js → ∀ j oj, j ∈ Region.ready md ops (more listed js) → j ≠ i → ops[j]? = some oj → (∀ e ∈ oj.after, Region.binds md e = true → e.on ≠ i) ∧ oi.apart ops oj = true
theorem Ahead.step {i j : Nat} {oi : Oper} {listed : Array Bool} (h : Ahead md ops i oi listed) (hj : j ≠ i) : Ahead md ops i oi (listed.setIfInBounds j true) :=
  ⟨ready_mono h.1 (Ne.symm hj), fun js hn => h.2 (j :: js) (by simp [hn, Ne.symm hj])⟩
theorem Ahead.of_free {i : Nat} {oi : Oper} {listed : Array Bool} (hi : ops[i]? = some oi) (hr : i ∈ Region.ready md ops listed) (hf : Region.free md ops listed i = true) : Ahead md ops i oi listed := by
  refine ⟨hr, fun js hn j oj hj hji hoj => ?_⟩
  obtain ⟨hun, o, ho, hall⟩ := mem_ready.1 hj
  rw [hoj] at ho
  cases ho
  have hno : ∀ e ∈ oj.after, Region.binds md e = true → e.on ≠ i := fun e he hb hei => by
    have h1 := hall e he hb
    rw [hei, un_false (more_still js listed hn (mem_ready.1 hr).1)] at h1
    cases h1
  exact ⟨hno, Region.free_spec hi hf j oj hoj hji (more_un js listed hun) hno⟩


theorem wpAnyS_at {fuel : Nat} {listed : Array Bool} {a : Act} {w : World} (h : wpAnyS P md ops Q S Z fuel listed a w) {j : Nat} (hj : j ∈ Region.ready md ops listed) :
    ∃ n, fuel = n + 1 ∧ wpOp P ops Q j (fun a' w' => (Z j = false → S w') ∧ wpAnyS P md ops Q S Z n (listed.setIfInBounds j true) a' w') a w := by
  cases fuel with
  | zero => exact absurd (h.1 ▸ hj : j ∈ []) (by simp)
  | succ n => exact ⟨n, rfl, h.2 j hj⟩

/-- Those of Z that are not listed wait for number i. -/
def waitsZ (md : Region.Mode) (ops : Array Oper) (Z : Nat → Bool) (listed : Array Bool) (i : Nat) : Bool :=
  (List.range ops.size).all fun j => listed.getD j true || !Z j || (match ops[j]? with
    | some o => o.after.any fun e => Region.binds md e && e.on == i
    | none => true)
theorem waitsZ_spec {i j : Nat} {oj : Oper} {listed : Array Bool} (h : waitsZ md ops Z listed i = true) (hz : Z j = true) (hu : listed.getD j true = false) (hj : ops[j]? = some oj) : ∃ e ∈ oj.after, Region.binds md e = true ∧ e.on = i := by
  have hjs : j < ops.size := (Array.getElem?_eq_some_iff.1 hj).1
  have := List.all_eq_true.1 h j (List.mem_range.2 hjs)
  rw [hz, hj, hu] at this
  simp only [Bool.not_true, Bool.false_or, Array.any_eq_true, Bool.and_eq_true, beq_iff_eq] at this
  obtain ⟨k, hk, h1, h2⟩ := this
  exact ⟨_, Array.getElem_mem hk, h1, h2⟩

/-- Number i, that yields the same wherever S holds, and that those of Z wait for, may be taken first. -/
theorem wpAnyS_front {i : Nat} {oi : Oper} {v : Value} (hi : ops[i]? = some oi)
    (hsel : ∀ (j : Nat) (o : Oper) cs b, ops[j]? = some o → o.op ≠ .select cs b) (hQ : ∀ c a w, Q (.panic c) (a.put oi.dst v) w → Q (.panic c) a w) (hiz : Z i = false) (fuel : Nat) :
    ∀ (listed : Array Bool) (a : Act) (w : World), (∀ j oj, Z j = true → listed.getD j true = false → ops[j]? = some oj → ∃ e ∈ oj.after, Region.binds md e = true ∧ e.on = i) → Ahead md ops i oi listed → YieldsIf P ops S oi v a → S w →
      wpAnyS P md ops Q S Z fuel (listed.setIfInBounds i true) (a.put oi.dst v) w → wpAnyS P md ops Q S Z (fuel + 1) listed a w := by
  induction fuel using Nat.strongRecOn with
  | _ fuel ih =>
    intro listed a w hwait hA hy hS H
    refine ⟨fun h0 => absurd (h0 ▸ hA.1 : i ∈ []) (by simp), fun j hj => ?_⟩
    rcases Decidable.em (j = i) with hji | hji
    · rw [hji]
      exact hy.wpOp hi hS ⟨fun _ => hS, H⟩
    · obtain ⟨n, rfl, hop⟩ := wpAnyS_at H (ready_mono hj hji)
      obtain ⟨oj, hoj⟩ : ∃ oj, ops[j]? = some oj := by
        obtain ⟨_, oj, hoj, _⟩ := mem_ready.1 hj
        exact ⟨oj, hoj⟩
      obtain ⟨hno, hap⟩ := hA.2 [] (by simp) j oj hj hji hoj
      have hjz : Z j = false := by
        cases hz : Z j with
        | false => rfl
        | true =>
          obtain ⟨e, he, hb, hei⟩ := hwait j oj hz (mem_ready.1 hj).1 hoj
          exact absurd hei (hno e he hb)
      refine wpOp_mono ?_ (wpOp_putIf hoj hap (fun cs b => hsel i oi cs b hi) (fun cs b => hsel j oj cs b hoj) hQ hy hop)
      rintro a' w' ⟨hy', hS', H'⟩
      rw [Array.setIfInBounds_comm _ _ (Ne.symm hji)] at H'
      exact ⟨hS', ih n (Nat.lt_succ_self n) _ a' w' (fun q oq hq hu => hwait q oq hq (more_un [j] listed hu)) (hA.step hji) hy' (hS' hjz) H'⟩
/-- Number i, that yields the same in every world, may be taken first. -/
theorem wpAnyS_frontP {i : Nat} {oi : Oper} {v : Value} (hi : ops[i]? = some oi) 
    (hsel : ∀ (j : Nat) (o : Oper) cs b, ops[j]? = some o → o.op ≠ .select cs b) (hQ : ∀ c a w, Q (.panic c) (a.put oi.dst v) w → Q (.panic c) a w) (hiz : Z i = true) (fuel : Nat) :
    ∀ (listed : Array Bool) (a : Act) (w : World), Ahead md ops i oi listed → YieldsIf P ops (fun _ => True) oi v a →
      wpAnyS P md ops Q S Z fuel (listed.setIfInBounds i true) (a.put oi.dst v) w → wpAnyS P md ops Q S Z (fuel + 1) listed a w := by
  induction fuel using Nat.strongRecOn with
  | _ fuel ih =>
    intro listed a w hA hy H
    refine ⟨fun h0 => absurd (h0 ▸ hA.1 : i ∈ []) (by simp), fun j hj => ?_⟩
    rcases Decidable.em (j = i) with hji | hji
    · rw [hji]
      exact hy.wpOp hi trivial ⟨fun h => (by rw [hiz] at h; cases h), H⟩
    · obtain ⟨n, rfl, hop⟩ := wpAnyS_at H (ready_mono hj hji)
      obtain ⟨oj, hoj⟩ : ∃ oj, ops[j]? = some oj := by
        obtain ⟨_, oj, hoj, _⟩ := mem_ready.1 hj
        exact ⟨oj, hoj⟩
      obtain ⟨hno, hap⟩ := hA.2 [] (by simp) j oj hj hji hoj
      refine wpOp_mono ?_ (wpOp_putIf hoj hap (fun cs b => hsel i oi cs b hi) (fun cs b => hsel j oj cs b hoj) hQ hy hop)
      rintro a' w' ⟨hy', hS', H'⟩
      rw [Array.setIfInBounds_comm _ _ (Ne.symm hji)] at H'
      exact ⟨hS', ih n (Nat.lt_succ_self n) _ a' w' (hA.step hji) hy' H'⟩

/-- Take number i first: it reads what S tells. -/
theorem wpAnyS_take {i : Nat} {oi : Oper} {d : Option Tmp} {v : Value} {fuel : Nat} {listed : Array Bool} {a : Act} {w : World} (hi : ops[i]? = some oi) (hd : oi.dst = d) (hiz : Z i = false) (hwait : waitsZ md ops Z listed i = true)
    (hs : Region.noSelect ops = true) (hf : Region.free md ops listed i = true) (hr : (Region.ready md ops listed).contains i = true)
    (hQ : ∀ c a w, Q (.panic c) (a.put d v) w → Q (.panic c) a w) (hy : YieldsIf P ops S oi v a) (hS : S w)
    (h : wpAnyS P md ops Q S Z fuel (listed.setIfInBounds i true) (a.put d v) w) : wpAnyS P md ops Q S Z (fuel + 1) listed a w := by
  subst hd
  exact wpAnyS_front hi (Region.noSelect_spec hs) hQ hiz fuel listed a w (fun j oj hz hu hj => waitsZ_spec hwait hz hu hj) (Ahead.of_free hi (by simpa using hr) hf) hy hS h
/-- Take number i first: it only computes. -/
theorem wpAnyS_takeP {i : Nat} {oi : Oper} {d : Option Tmp} {v : Value} {fuel : Nat} {listed : Array Bool} {a : Act} {w : World} (hi : ops[i]? = some oi) (hd : oi.dst = d) (hiz : Z i = true)
    (hs : Region.noSelect ops = true) (hf : Region.free md ops listed i = true) (hr : (Region.ready md ops listed).contains i = true)
    (hQ : ∀ c a w, Q (.panic c) (a.put d v) w → Q (.panic c) a w) (hy : YieldsIf P ops (fun _ => True) oi v a)
    (h : wpAnyS P md ops Q S Z fuel (listed.setIfInBounds i true) (a.put d v) w) : wpAnyS P md ops Q S Z (fuel + 1) listed a w := by
  subst hd
  exact wpAnyS_frontP hi (Region.noSelect_spec hs) hQ hiz fuel listed a w (Ahead.of_free hi (by simpa using hr) hf) hy h

/-- Only number i may come up. -/
theorem wpAnyS_one {i : Nat} {fuel : Nat} {listed : Array Bool} {a : Act} {w : World} (hr : Region.ready md ops listed = [i])
    (h : wpOp P ops Q i (fun a' w' => (Z i = false → S w') ∧ wpAnyS P md ops Q S Z fuel (listed.setIfInBounds i true) a' w') a w) : wpAnyS P md ops Q S Z (fuel + 1) listed a w :=
  ⟨fun h0 => absurd (hr.symm.trans h0) (by simp), fun j hj => by rw [hr] at hj; rw [List.mem_singleton.1 hj]; exact h⟩
/-- Only number i may come up, and it yields nothing. -/
theorem wpAnyS_mute {i : Nat} {o : Oper} {d : Option Tmp} {fuel : Nat} {listed : Array Bool} {a : Act} {w w' : World} (hr : Region.ready md ops listed = [i]) (ho : ops[i]? = some o) (hd : o.dst = d) (hw : Region.wanted o (yielded ops a.tmps) = true)
    (hv : (execOp a.eval o).run P w = .ok .skip w') (hS : Z i = false → S w') (h : wpAnyS P md ops Q S Z fuel (listed.setIfInBounds i true) (a.put d undef) w') : wpAnyS P md ops Q S Z (fuel + 1) listed a w := by
  subst hd
  exact wpAnyS_one hr (wpOp_step ho fun K' hK => by
    rw [if_pos hw, Oper.wp, hv]
    exact hK _ _ ⟨hS, h⟩)
theorem wpAnyS_done {listed : Array Bool} {a : Act} {w : World} (hr : Region.ready md ops listed = []) (h : Q .normal a w) : ∀ fuel, wpAnyS P md ops Q S Z fuel listed a w
  | 0 => ⟨hr, h⟩
  | _ + 1 => ⟨fun _ => h, by rw [hr]; simp⟩
theorem wp_region_s {id : Nat} {a : Act} {w : World} (S : World → Prop) (Z : Nat → Bool) (hm : P.follows .mixedOrders = true)
    (h : wpAnyS P .any ops Q S Z ops.size (Array.replicate ops.size false) a w.drew) : (Code.region id ops true).wp P Q a w :=
  wp_region_any hm (wpAny_of_s _ _ _ _ h)
end

end Go.Proofs.YtgmdimbiipemhaaGreatDoor
