/- append of one struct to the call's own slice: where the new slice lies. A region that draws its order: a condition on the world that is held behind every operation but some, which wait for what the condition serves. A region that draws its order, walked in one order: operations that make memory, calls, append. Layer 14's document answer: contract of Move. Layer 14's document answer: contracts of All, Parent, Took, Kids, Move. -/
import Derived.Test.YtilonmpcifohiaaRow
import Derived.Laws.AppendOwn
import Derived.OrdersHeld
import Derived.RegionTactic
import Derived.WalkKit
import Derived.Test.YtilonmpcifohiaaRefA14
import Derived.Deep.RegionLaw
import Derived.StillTailTactics
namespace Go.Proofs.Ytilonmpcifohiaa
open Go.RowKit
set_option linter.unusedSimpArgs false
set_option linter.unusedVariables false

section
variable {P : Program} {w : World} {α : Type} {ea : α → List Value} {k : Nat} {e : TypeId} {base : Nat} {v : Value} {l : List α}

/-- append's slice is the old one's block, or a new one's. -/
theorem append_new (t ty : TypeId) (i : TypeInfo) (z : Value) (size bytes : Nat) (ht : P.underlying t = some (.slice e)) (hi : P.info? e = some i) (hz : i.zero = some z)
    (hsize : i.size = size) (hby : i.bytes = bytes) (v : Value) (n : Nat) (xs : List Value) (hown : w.ownsRow base e size v n xs)
    (a : Addr) (m c : Nat) (news : List Value) (hl : news.length = m * size) (hnews : ∀ j u, news[j]? = some u → w.cell? (a.add j) = some u) (h1 : ∀ u ∈ news, u.oneCell' = true)
    (h63 : n + m ≤ maxLen) (hbytes : (n + m) * bytes ≤ 140737488355328) (hm : 0 < m) {v' : Value} {w' : World}
    (hr : (Builtin.append_ #[t, t] ty #[v, .slice (some a) m c]).run P w = .ok v' w') : ∀ b, v'.ownBlock = some b → v.ownBlock = some b ∨ w.heap.size ≤ b := by
  subst hsize
  subst hby
  have hsmall : n + m ≤ 9223372036854775807 := by simp only [maxLen] at h63; omega
  rcases hown.2 with ⟨rfl, rfl⟩ | ⟨g, cap, cur, rfl, hbg, hg, hnc, hcm, hcs, htake⟩
  · have hr2 := run_append_nil (P := P) w t ty e i z ht hi hz a m c news hl hnews hm (by omega) (by have hb := hbytes; simp only [Nat.zero_add] at hb; omega)
    rw [hr] at hr2
    cases hr2
    intro b hb
    simp [Value.ownBlock] at hb
    exact .inr (by omega)
  · by_cases hroom : n + m ≤ cap
    · have hfit : n * i.size + news.length ≤ cur.size := by rw [hl, hcs, ← Nat.add_mul]; exact Nat.mul_le_mul_right _ hroom
      have hr2 := run_append_room (P := P) w t ty e i ht hi g n cap cur hg a m c news hl hnews h1 hroom hfit
      rw [hr] at hr2
      cases hr2
      intro b hb
      simp [Value.ownBlock] at hb ⊢
      exact .inl hb
    · have holds : ∀ j u, xs[j]? = some u → w.cell? ((⟨g, 0, none⟩ : Addr).add j) = some u := hown.cells (g := g) rfl
      have hr2 := run_append_grow (P := P) w t ty e i z ht hi hz ⟨g, 0, none⟩ n cap xs hown.1 holds a m c news hl hnews (by omega) (by omega) (growslice_fits (by omega) hbytes)
      rw [hr] at hr2
      cases hr2
      intro b hb
      simp [Value.ownBlock] at hb
      exact .inr (by omega)

theorem append_struct_run (t ty : TypeId) (i : TypeInfo) (z : Value) (bytes : Nat) (ht : P.underlying t = some (.slice e)) (hi : P.info? e = some i) (hz : i.zero = some z)
    (hsize : i.size = k) (hby : i.bytes = bytes) (hzs : z.cells.size = k) (hk0 : 0 < k) (hk : ∀ x, (ea x).length = k) (h1 : ∀ x, ∀ u ∈ ea x, u.oneCell' = true)
    (hown : Own ea k e base w v l) (y : α) (nb c : Nat) (hnews : ∀ j u, (ea y)[j]? = some u → w.cell? ⟨nb, j, none⟩ = some u)
    (h63 : l.length + 1 ≤ maxLen) (hbytes : (l.length + 1) * bytes ≤ 140737488355328) (hbase : base ≤ w.heap.size) :
    ∃ v' w', (Builtin.append_ #[t, t] ty #[v, .slice (some ⟨nb, 0, none⟩) 1 c]).run P w = .ok v' w' ∧ Own ea k e base w' v' (l ++ [y]) ∧ Ext (fun b => v.ownBlock = some b) w w' ∧
      ∀ b, v'.ownBlock = some b → v.ownBlock = some b ∨ w.heap.size ≤ b := by
  have hn : ∀ j u, (ea y)[j]? = some u → w.cell? (Addr.add ⟨nb, 0, none⟩ j) = some u := fun j u hj => by
    rw [show (Addr.add ⟨nb, 0, none⟩ j) = ⟨nb, j, none⟩ from by unfold Addr.add; split <;> simp_all]
    exact hnews j u hj
  obtain ⟨v', w', hr, h2, h3, _⟩ := run_append_own (P := P) w base t ty e i z k bytes ht hi hz hsize hby hzs hk0 v l.length (l.flatMap ea) hown ⟨nb, 0, none⟩ 1 c (ea y) (by rw [hk, Nat.one_mul]) hn (h1 y) h63 hbytes hbase
  refine ⟨v', w', hr, ?_, Ext.of_grown h3, append_new t ty i z k bytes ht hi hz hsize hby v l.length (l.flatMap ea) hown ⟨nb, 0, none⟩ 1 c (ea y) (by rw [hk, Nat.one_mul]) hn (h1 y) h63 hbytes (by omega) hr⟩
  unfold Own
  rw [List.length_append, List.flatMap_append]
  simpa using h2

theorem wpList_append_struct2 {ops : Array Oper} {rest : List Oper} {o : Oper} {a : Act} {Q : Exit → Act → World → Prop} (hgd : o.guard = none) (s x : Operand) (t : TypeId)
    (ho : o.op = .call { callee := .builtin .append, args := #[s, x], argTypes := #[t, t] })
    (i : TypeInfo) (z : Value) (bytes : Nat) (ht : P.underlying t = some (.slice e)) (hi : P.info? e = some i) (hz : i.zero = some z)
    (hsize : i.size = k) (hby : i.bytes = bytes) (hzs : z.cells.size = k) (hk0 : 0 < k) (hk : ∀ x, (ea x).length = k) (h1 : ∀ x, ∀ u ∈ ea x, u.oneCell' = true)
    (hs : a.eval s = v) (hown : Own ea k e base w v l) (y : α) (nb c : Nat) (hx : a.eval x = .slice (some ⟨nb, 0, none⟩) 1 c) (hnews : ∀ j u, (ea y)[j]? = some u → w.cell? ⟨nb, j, none⟩ = some u)
    (h63 : l.length + 1 ≤ maxLen) (hbytes : (l.length + 1) * bytes ≤ 140737488355328) (hbase : base ≤ w.heap.size)
    (h : ∀ v' w', Own ea k e base w' v' (l ++ [y]) → Ext (fun b => v.ownBlock = some b) w w' → (∀ b, v'.ownBlock = some b → v.ownBlock = some b ∨ w.heap.size ≤ b) → wpList P ops Q rest (a.put o.dst v') w') : wpList P ops Q (o :: rest) a w := by
  obtain ⟨v', w', hr, h2, h3, h4⟩ := append_struct_run (P := P) t o.type i z bytes ht hi hz hsize hby hzs hk0 hk h1 hown y nb c hnews h63 hbytes hbase
  refine wpList_plain hgd fun _ hK => ?_
  unfold Oper.wp execOp
  simp only [ho, resolve, invoke, builtin, Sem.run_bind, Sem.run_pure, Result.andThen_ok, List.map_toArray, List.map_cons, List.map_nil, hs, hx, hr]
  exact hK _ _ (h v' w' h2 h3 h4)

/-- The same as one step of a region that draws its order. -/
theorem step_append_struct2 {ops : Array Oper} {o : Oper} {a : Act} {K : Act → World → Prop} {Q : Exit → Act → World → Prop} {E : Prop} (hgd : o.guard = none) (s x : Operand) (t : TypeId)
    (ho : o.op = .call { callee := .builtin .append, args := #[s, x], argTypes := #[t, t] })
    (i : TypeInfo) (z : Value) (bytes : Nat) (ht : P.underlying t = some (.slice e)) (hi : P.info? e = some i) (hz : i.zero = some z)
    (hsize : i.size = k) (hby : i.bytes = bytes) (hzs : z.cells.size = k) (hk0 : 0 < k) (hk : ∀ x, (ea x).length = k) (h1 : ∀ x, ∀ u ∈ ea x, u.oneCell' = true)
    (hs : a.eval s = v) (hown : Own ea k e base w v l) (y : α) (nb c : Nat) (hx : a.eval x = .slice (some ⟨nb, 0, none⟩) 1 c) (hnews : ∀ j u, (ea y)[j]? = some u → w.cell? ⟨nb, j, none⟩ = some u)
    (h63 : l.length + 1 ≤ maxLen) (hbytes : (l.length + 1) * bytes ≤ 140737488355328) (hbase : base ≤ w.heap.size)
    (h : ∀ v' w', Own ea k e base w' v' (l ++ [y]) → Ext (fun b => v.ownBlock = some b) w w' → (∀ b, v'.ownBlock = some b → v.ownBlock = some b ∨ w.heap.size ≤ b) → K (a.put o.dst v') w') : if Region.wanted o (yielded ops a.tmps) = true then Oper.wp P o a w K Q else E := by
  have hw : Region.wanted o (yielded ops a.tmps) = true := by simp [Region.wanted, hgd]
  rw [if_pos hw]
  obtain ⟨v', w', hr, h2, h3, h4⟩ := append_struct_run (P := P) t o.type i z bytes ht hi hz hsize hby hzs hk0 hk h1 hown y nb c hnews h63 hbytes hbase
  unfold Oper.wp execOp
  simp only [ho, resolve, invoke, builtin, Sem.run_bind, Sem.run_pure, Result.andThen_ok, List.map_toArray, List.map_cons, List.map_nil, hs, hx, hr]
  exact h v' w' h2 h3 h4

/-- A call of a Go function as one step of a region that draws its order. -/
theorem step_call {ops : Array Oper} {o : Oper} {a : Act} {K : Act → World → Prop} {Q : Exit → Act → World → Prop} {E : Prop} {f : FuncId} {args : Array Value} (hgd : o.guard = none)
    (hv : (execOp a.eval o).run P w = .ok (.enter f args) w) (h : Calls P f args w fun e w' => ∃ v, e = .returned v ∧ K (a.put o.dst v) w') : if Region.wanted o (yielded ops a.tmps) = true then Oper.wp P o a w K Q else E := by
  have hw : Region.wanted o (yielded ops a.tmps) = true := by simp [Region.wanted, hgd]
  rw [if_pos hw, Oper.wp, hv, Oper.upon_enter]
  refine Calls.mono h ?_
  rintro e w'' ⟨v, rfl, h1⟩
  exact h1
end

end Go.Proofs.Ytilonmpcifohiaa

namespace Go.Proofs.Ytilonmpcifohiaa
open Go
set_option linter.unusedVariables false

section
variable {P : Program} {ops : Array Oper} {Q : Exit → Act → World → Prop} {md : Region.Mode} {S : World → Prop} {Z : Nat → Bool}

/-- Whatever order is picked, and S holds behind every operation but those of Z. -/
def wpAnyS (P : Program) (md : Region.Mode) (ops : Array Oper) (Q : Exit → Act → World → Prop) (S : World → Prop) (Z : Nat → Bool) : Nat → Array Bool → Act → World → Prop
  | 0, listed, a, w => Region.ready md ops listed = [] ∧ Q .normal a w
  | fuel + 1, listed, a, w =>
    (Region.ready md ops listed = [] → Q .normal a w) ∧
    ∀ i ∈ Region.ready md ops listed, wpOp P ops Q i (fun a' w' => (Z i = false → S w') ∧ wpAnyS P md ops Q S Z fuel (listed.setIfInBounds i true) a' w') a w

theorem wpAny_of_s : ∀ (fuel : Nat) (listed : Array Bool) (a : Act) (w : World), wpAnyS P md ops Q S Z fuel listed a w → wpAny P md ops Q fuel listed a w
  | 0, _, _, _, h => h
  | fuel + 1, _, _, _, h => ⟨h.1, fun i hi => wpOp_mono (fun a' w' h' => wpAny_of_s fuel _ a' w' h'.2) (h.2 i hi)⟩

/-- One smore listed, and some smore. -/
def smore (listed : Array Bool) (js : List Nat) : Array Bool := js.foldl (fun l j => l.setIfInBounds j true) listed
theorem smore_un {k : Nat} : ∀ (js : List Nat) (listed : Array Bool), (smore listed js).getD k true = false → listed.getD k true = false
  | [], _, h => h
  | j :: js, listed, h => by
    have h1 := smore_un js (listed.setIfInBounds j true) h
    by_cases hjk : j = k
    · subst hjk
      by_cases hs : j < listed.size
      · simp [hs] at h1
      · simp [hs] at h1
    · rwa [getD_set_ne true hjk] at h1
theorem smore_still {k : Nat} : ∀ (js : List Nat) (listed : Array Bool), k ∉ js → listed.getD k true = false → (smore listed js).getD k true = false
  | [], _, _, h => h
  | j :: js, listed, hn, h => smore_still js _ (fun e => hn (by simp [e])) (by rw [getD_set_ne true (fun e => hn (by simp [e]))]; exact h)
theorem sun_false {listed : Array Bool} {k : Nat} (h : listed.getD k true = false) : listed.getD k false = false := by
  by_cases hs : k < listed.size
  · simp [hs] at h ⊢; exact h
  · simp [hs] at h

/-- Whoever may come up ahead of number i, whatever else has come, waits not for it and keeps apart from it. -/
def sAhead (md : Region.Mode) (ops : Array Oper) (i : Nat) (oi : Oper) (listed : Array Bool) : Prop :=
  i ∈ Region.ready md ops listed ∧ ∀ js, i ∉ js → ∀ j oj, j ∈ Region.ready md ops (smore listed js) → j ≠ i → ops[j]? = some oj → (∀ e ∈ oj.after, Region.binds md e = true → e.on ≠ i) ∧ oi.apart ops oj = true
theorem sAhead.step {i j : Nat} {oi : Oper} {listed : Array Bool} (h : sAhead md ops i oi listed) (hj : j ≠ i) : sAhead md ops i oi (listed.setIfInBounds j true) :=
  ⟨ready_mono h.1 (Ne.symm hj), fun js hn => h.2 (j :: js) (by simp [hn, Ne.symm hj])⟩
theorem sAhead.of_free {i : Nat} {oi : Oper} {listed : Array Bool} (hi : ops[i]? = some oi) (hr : i ∈ Region.ready md ops listed) (hf : Region.free md ops listed i = true) : sAhead md ops i oi listed := by
  refine ⟨hr, fun js hn j oj hj hji hoj => ?_⟩
  obtain ⟨hun, o, ho, hall⟩ := mem_ready.1 hj
  rw [hoj] at ho
  cases ho
  have hno : ∀ e ∈ oj.after, Region.binds md e = true → e.on ≠ i := fun e he hb hei => by
    have h1 := hall e he hb
    rw [hei, sun_false (smore_still js listed hn (mem_ready.1 hr).1)] at h1
    cases h1
  exact ⟨hno, Region.free_spec hi hf j oj hoj hji (smore_un js listed hun) hno⟩


theorem wpAnyS_at {fuel : Nat} {listed : Array Bool} {a : Act} {w : World} (h : wpAnyS P md ops Q S Z fuel listed a w) {j : Nat} (hj : j ∈ Region.ready md ops listed) :
    ∃ n, fuel = n + 1 ∧ wpOp P ops Q j (fun a' w' => (Z j = false → S w') ∧ wpAnyS P md ops Q S Z n (listed.setIfInBounds j true) a' w') a w := by
  cases fuel with
  | zero => exact absurd (h.1 ▸ hj : j ∈ []) (by simp)
  | succ n => exact ⟨n, rfl, h.2 j hj⟩

/-- Those of Z that are not listed wait for number i. -/
def waitsZ (md : Region.Mode) (ops : Array Oper) (Z : Nat → Bool) (listed : Array Bool) (i : Nat) : Bool :=
  (List.range ops.size).all fun j => listed.getD j true || !Z j || (match ops[j]? with
    | some o => o.after.any fun e => Region.binds md e && e.on == i
    | none => true)
theorem waitsZ_spec {i j : Nat} {oj : Oper} {listed : Array Bool} (h : waitsZ md ops Z listed i = true) (hz : Z j = true) (hu : listed.getD j true = false) (hj : ops[j]? = some oj) : ∃ e ∈ oj.after, Region.binds md e = true ∧ e.on = i := by
  have hjs : j < ops.size := (Array.getElem?_eq_some_iff.1 hj).1
  have := List.all_eq_true.1 h j (List.mem_range.2 hjs)
  rw [hz, hj, hu] at this
  simp only [Bool.not_true, Bool.false_or, Array.any_eq_true, Bool.and_eq_true, beq_iff_eq] at this
  obtain ⟨k, hk, h1, h2⟩ := this
  exact ⟨_, Array.getElem_mem hk, h1, h2⟩

/-- Number i, that yields the same wherever S holds, and that those of Z wait for, may be taken first. -/
theorem wpAnyS_front {i : Nat} {oi : Oper} {v : Value} (hi : ops[i]? = some oi)
    (hsel : ∀ (j : Nat) (o : Oper) cs b, ops[j]? = some o → o.op ≠ .select cs b) (hQ : ∀ c a w, Q (.panic c) (a.put oi.dst v) w → Q (.panic c) a w) (hiz : Z i = false) (fuel : Nat) :
    ∀ (listed : Array Bool) (a : Act) (w : World), (∀ j oj, Z j = true → listed.getD j true = false → ops[j]? = some oj → ∃ e ∈ oj.after, Region.binds md e = true ∧ e.on = i) → sAhead md ops i oi listed → YieldsIf P ops S oi v a → S w →
      wpAnyS P md ops Q S Z fuel (listed.setIfInBounds i true) (a.put oi.dst v) w → wpAnyS P md ops Q S Z (fuel + 1) listed a w := by
  induction fuel using Nat.strongRecOn with
  | _ fuel ih =>
    intro listed a w hwait hA hy hS H
    refine ⟨fun h0 => absurd (h0 ▸ hA.1 : i ∈ []) (by simp), fun j hj => ?_⟩
    rcases Decidable.em (j = i) with hji | hji
    · rw [hji]
      exact hy.wpOp hi hS ⟨fun _ => hS, H⟩
    · obtain ⟨n, rfl, hop⟩ := wpAnyS_at H (ready_mono hj hji)
      obtain ⟨oj, hoj⟩ : ∃ oj, ops[j]? = some oj := by
        obtain ⟨_, oj, hoj, _⟩ := mem_ready.1 hj
        exact ⟨oj, hoj⟩
      obtain ⟨hno, hap⟩ := hA.2 [] (by simp) j oj hj hji hoj
      have hjz : Z j = false := by
        cases hz : Z j with
        | false => rfl
        | true =>
          obtain ⟨e, he, hb, hei⟩ := hwait j oj hz (mem_ready.1 hj).1 hoj
          exact absurd hei (hno e he hb)
      refine wpOp_mono ?_ (wpOp_putIf hoj hap (fun cs b => hsel i oi cs b hi) (fun cs b => hsel j oj cs b hoj) hQ hy hop)
      rintro a' w' ⟨hy', hS', H'⟩
      rw [Array.setIfInBounds_comm _ _ (Ne.symm hji)] at H'
      exact ⟨hS', ih n (Nat.lt_succ_self n) _ a' w' (fun q oq hq hu => hwait q oq hq (smore_un [j] listed hu)) (hA.step hji) hy' (hS' hjz) H'⟩
/-- Number i, that yields the same in every world, may be taken first. -/
theorem wpAnyS_frontP {i : Nat} {oi : Oper} {v : Value} (hi : ops[i]? = some oi) 
    (hsel : ∀ (j : Nat) (o : Oper) cs b, ops[j]? = some o → o.op ≠ .select cs b) (hQ : ∀ c a w, Q (.panic c) (a.put oi.dst v) w → Q (.panic c) a w) (hiz : Z i = true) (fuel : Nat) :
    ∀ (listed : Array Bool) (a : Act) (w : World), sAhead md ops i oi listed → YieldsIf P ops (fun _ => True) oi v a →
      wpAnyS P md ops Q S Z fuel (listed.setIfInBounds i true) (a.put oi.dst v) w → wpAnyS P md ops Q S Z (fuel + 1) listed a w := by
  induction fuel using Nat.strongRecOn with
  | _ fuel ih =>
    intro listed a w hA hy H
    refine ⟨fun h0 => absurd (h0 ▸ hA.1 : i ∈ []) (by simp), fun j hj => ?_⟩
    rcases Decidable.em (j = i) with hji | hji
    · rw [hji]
      exact hy.wpOp hi trivial ⟨fun h => (by rw [hiz] at h; cases h), H⟩
    · obtain ⟨n, rfl, hop⟩ := wpAnyS_at H (ready_mono hj hji)
      obtain ⟨oj, hoj⟩ : ∃ oj, ops[j]? = some oj := by
        obtain ⟨_, oj, hoj, _⟩ := mem_ready.1 hj
        exact ⟨oj, hoj⟩
      obtain ⟨hno, hap⟩ := hA.2 [] (by simp) j oj hj hji hoj
      refine wpOp_mono ?_ (wpOp_putIf hoj hap (fun cs b => hsel i oi cs b hi) (fun cs b => hsel j oj cs b hoj) hQ hy hop)
      rintro a' w' ⟨hy', hS', H'⟩
      rw [Array.setIfInBounds_comm _ _ (Ne.symm hji)] at H'
      exact ⟨hS', ih n (Nat.lt_succ_self n) _ a' w' (hA.step hji) hy' H'⟩

/-- Take number i first: it reads what S tells. -/
theorem wpAnyS_take {i : Nat} {oi : Oper} {d : Option Tmp} {v : Value} {fuel : Nat} {listed : Array Bool} {a : Act} {w : World} (hi : ops[i]? = some oi) (hd : oi.dst = d) (hiz : Z i = false) (hwait : waitsZ md ops Z listed i = true)
    (hs : Region.noSelect ops = true) (hf : Region.free md ops listed i = true) (hr : (Region.ready md ops listed).contains i = true)
    (hQ : ∀ c a w, Q (.panic c) (a.put d v) w → Q (.panic c) a w) (hy : YieldsIf P ops S oi v a) (hS : S w)
    (h : wpAnyS P md ops Q S Z fuel (listed.setIfInBounds i true) (a.put d v) w) : wpAnyS P md ops Q S Z (fuel + 1) listed a w := by
  subst hd
  exact wpAnyS_front hi (Region.noSelect_spec hs) hQ hiz fuel listed a w (fun j oj hz hu hj => waitsZ_spec hwait hz hu hj) (sAhead.of_free hi (by simpa using hr) hf) hy hS h
/-- Take number i first: it only computes. -/
theorem wpAnyS_takeP {i : Nat} {oi : Oper} {d : Option Tmp} {v : Value} {fuel : Nat} {listed : Array Bool} {a : Act} {w : World} (hi : ops[i]? = some oi) (hd : oi.dst = d) (hiz : Z i = true)
    (hs : Region.noSelect ops = true) (hf : Region.free md ops listed i = true) (hr : (Region.ready md ops listed).contains i = true)
    (hQ : ∀ c a w, Q (.panic c) (a.put d v) w → Q (.panic c) a w) (hy : YieldsIf P ops (fun _ => True) oi v a)
    (h : wpAnyS P md ops Q S Z fuel (listed.setIfInBounds i true) (a.put d v) w) : wpAnyS P md ops Q S Z (fuel + 1) listed a w := by
  subst hd
  exact wpAnyS_frontP hi (Region.noSelect_spec hs) hQ hiz fuel listed a w (sAhead.of_free hi (by simpa using hr) hf) hy h

/-- Only number i may come up. -/
theorem wpAnyS_one {i : Nat} {fuel : Nat} {listed : Array Bool} {a : Act} {w : World} (hr : Region.ready md ops listed = [i])
    (h : wpOp P ops Q i (fun a' w' => (Z i = false → S w') ∧ wpAnyS P md ops Q S Z fuel (listed.setIfInBounds i true) a' w') a w) : wpAnyS P md ops Q S Z (fuel + 1) listed a w :=
  ⟨fun h0 => absurd (hr.symm.trans h0) (by simp), fun j hj => by rw [hr] at hj; rw [List.mem_singleton.1 hj]; exact h⟩
/-- Only number i may come up, and it yields nothing. -/
theorem wpAnyS_mute {i : Nat} {o : Oper} {d : Option Tmp} {fuel : Nat} {listed : Array Bool} {a : Act} {w w' : World} (hr : Region.ready md ops listed = [i]) (ho : ops[i]? = some o) (hd : o.dst = d) (hw : Region.wanted o (yielded ops a.tmps) = true)
    (hv : (execOp a.eval o).run P w = .ok .skip w') (hS : Z i = false → S w') (h : wpAnyS P md ops Q S Z fuel (listed.setIfInBounds i true) (a.put d undef) w') : wpAnyS P md ops Q S Z (fuel + 1) listed a w := by
  subst hd
  exact wpAnyS_one hr (wpOp_step ho fun K' hK => by
    rw [if_pos hw, Oper.wp, hv]
    exact hK _ _ ⟨hS, h⟩)
theorem wpAnyS_done {listed : Array Bool} {a : Act} {w : World} (hr : Region.ready md ops listed = []) (h : Q .normal a w) : ∀ fuel, wpAnyS P md ops Q S Z fuel listed a w
  | 0 => ⟨hr, h⟩
  | _ + 1 => ⟨fun _ => h, by rw [hr]; simp⟩
theorem wp_region_s {id : Nat} {a : Act} {w : World} (S : World → Prop) (Z : Nat → Bool) (hm : P.follows .mixedOrders = true)
    (h : wpAnyS P .any ops Q S Z ops.size (Array.replicate ops.size false) a w.drew) : (Code.region id ops true).wp P Q a w :=
  wp_region_any hm (wpAny_of_s _ _ _ _ h)
end

end Go.Proofs.Ytilonmpcifohiaa

namespace Go.Proofs.Ytilonmpcifohiaa
open Go Go.RowKit Go.Deep
set_option linter.unusedVariables false

section
variable {P : Program} {ops : Array Oper} {Q : Exit → Act → World → Prop} {md : Region.Mode} {S : World → Prop} {Z : Nat → Bool}
/-- Only number i may come up, and it yields a value. -/
theorem wpAnyS_ran {i : Nat} {o : Oper} {d : Option Tmp} {v : Value} {fuel : Nat} {listed : Array Bool} {a : Act} {w w' : World} (hr : Region.ready md ops listed = [i]) (ho : ops[i]? = some o) (hd : o.dst = d) (hw : Region.wanted o (yielded ops a.tmps) = true)
    (hv : (execOp a.eval o).run P w = .ok (.value v) w') (hS : Z i = false → S w') (h : wpAnyS P md ops Q S Z fuel (listed.setIfInBounds i true) (a.put d v) w') : wpAnyS P md ops Q S Z (fuel + 1) listed a w := by
  subst hd
  exact wpAnyS_one hr (wpOp_step ho fun K' hK => by
    rw [if_pos hw, Oper.wp, hv]
    exact hK _ _ ⟨hS, h⟩)
/-- Only number i may come up, and it is a call. -/
theorem wpAnyS_call {i : Nat} {o : Oper} {d : Option Tmp} {f : FuncId} {args : Array Value} {fuel : Nat} {listed : Array Bool} {a : Act} {w w' : World} (hr : Region.ready md ops listed = [i]) (ho : ops[i]? = some o) (hd : o.dst = d) (hw : Region.wanted o (yielded ops a.tmps) = true)
    (hv : (execOp a.eval o).run P w = .ok (.enter f args) w')
    (h : Calls P f args w' fun e w'' => ∃ v, e = .returned v ∧ (Z i = false → S w'') ∧ wpAnyS P md ops Q S Z fuel (listed.setIfInBounds i true) (a.put d v) w'') : wpAnyS P md ops Q S Z (fuel + 1) listed a w := by
  subst hd
  exact wpAnyS_one hr (wpOp_step ho fun K' hK => by
    rw [if_pos hw, Oper.wp, hv, Oper.upon_enter]
    refine Calls.mono h ?_
    rintro e w'' ⟨v, rfl, h1, h2⟩
    exact hK _ _ ⟨h1, h2⟩)
/-- append, as one operation. -/
theorem exec_append {o : Oper} {a : Act} {w w' : World} {s x : Operand} {t tn : TypeId} {v vx v' : Value} (hop : o.op = .call { callee := .builtin .append, args := #[s, x], argTypes := #[t, tn] }) (hs : a.eval s = v) (hx : a.eval x = vx)
    (hr : (Builtin.append_ #[t, tn] o.type #[v, vx]).run P w = .ok v' w') : (execOp a.eval o).run P w = .ok (.value v') w' := by
  unfold execOp
  simp only [hop, resolve, invoke, builtin, Sem.run_bind, Sem.run_pure, Result.andThen_ok, List.map_toArray, List.map_cons, List.map_nil, hs, hx, hr]
/-- None of these may come up before number i: each waits for it, or for one of them. -/
def Blocks (md : Region.Mode) (ops : Array Oper) (i : Nat) (js : List Nat) (listed : Array Bool) : Prop :=
  ∀ j ∈ js, listed.getD j true = false ∧ ∃ oj, ops[j]? = some oj ∧ ∃ e ∈ oj.after, Region.binds md e = true ∧ (e.on = i ∨ e.on ∈ js)
/-- The same, to be computed; and those of Z that are not listed are among them. -/
def waitsB (md : Region.Mode) (ops : Array Oper) (Z : Nat → Bool) (listed : Array Bool) (i : Nat) (js : List Nat) : Bool :=
  (js.all fun j => !(listed.getD j true) && (match ops[j]? with
    | some o => o.after.any fun e => Region.binds md e && (e.on == i || js.contains e.on)
    | none => false)) && (List.range ops.size).all fun j => listed.getD j true || !Z j || js.contains j
theorem waitsB_spec {listed : Array Bool} {i : Nat} {js : List Nat} (h : waitsB md ops Z listed i js = true) : Blocks md ops i js listed ∧ ∀ j oj, Z j = true → listed.getD j true = false → ops[j]? = some oj → j ∈ js := by
  unfold waitsB at h
  rw [Bool.and_eq_true] at h
  refine ⟨fun j hj => ?_, fun j oj hz hu ho => ?_⟩
  · have := List.all_eq_true.1 h.1 j hj
    rw [Bool.and_eq_true, Bool.not_eq_true'] at this
    refine ⟨this.1, ?_⟩
    cases ho : ops[j]? with
    | none => rw [ho] at this; exact absurd this.2 (by simp)
    | some o =>
      rw [ho] at this
      obtain ⟨k, hk, h2⟩ := Array.any_eq_true.1 this.2
      rw [Bool.and_eq_true, Bool.or_eq_true, beq_iff_eq, List.contains_iff_mem] at h2
      exact ⟨o, rfl, _, Array.getElem_mem hk, h2.1, h2.2⟩
  · have := List.all_eq_true.1 h.2 j (List.mem_range.2 (Array.getElem?_eq_some_iff.1 ho).1)
    rw [hz, hu] at this
    simpa using this
theorem wpAnyS_front2 {i : Nat} {oi : Oper} {v : Value} {js : List Nat} (hi : ops[i]? = some oi)
    (hsel : ∀ (j : Nat) (o : Oper) cs b, ops[j]? = some o → o.op ≠ .select cs b) (hQ : ∀ c a w, Q (.panic c) (a.put oi.dst v) w → Q (.panic c) a w) (hiz : Z i = false) (fuel : Nat) :
    ∀ (listed : Array Bool) (a : Act) (w : World), Blocks md ops i js listed → (∀ j oj, Z j = true → listed.getD j true = false → ops[j]? = some oj → j ∈ js) → sAhead md ops i oi listed → YieldsIf P ops S oi v a → S w →
      wpAnyS P md ops Q S Z fuel (listed.setIfInBounds i true) (a.put oi.dst v) w → wpAnyS P md ops Q S Z (fuel + 1) listed a w := by
  induction fuel using Nat.strongRecOn with
  | _ fuel ih =>
    intro listed a w hbl hzj hA hy hS H
    refine ⟨fun h0 => absurd (h0 ▸ hA.1 : i ∈ []) (by simp), fun j hj => ?_⟩
    rcases Decidable.em (j = i) with hji | hji
    · rw [hji]
      exact hy.wpOp hi hS ⟨fun _ => hS, H⟩
    · obtain ⟨n, rfl, hop⟩ := wpAnyS_at H (ready_mono hj hji)
      obtain ⟨hun, oj, hoj, hall⟩ := mem_ready.1 hj
      obtain ⟨hno, hap⟩ := hA.2 [] (by simp) j oj hj hji hoj
      have hjs : j ∉ js := fun hm => by
        obtain ⟨_, oj', hoj', e, he, hb, hd⟩ := hbl j hm
        rw [hoj] at hoj'
        cases hoj'
        rcases hd with hd | hd
        · exact hno e he hb hd
        · have h1 := hall e he hb
          rw [sun_false (hbl _ hd).1] at h1
          cases h1
      have hjz : Z j = false := by
        cases hz : Z j with
        | false => rfl
        | true => exact absurd (hzj j oj hz hun hoj) hjs
      refine wpOp_mono ?_ (wpOp_putIf hoj hap (fun cs b => hsel i oi cs b hi) (fun cs b => hsel j oj cs b hoj) hQ hy hop)
      rintro a' w' ⟨hy', hS', H'⟩
      rw [Array.setIfInBounds_comm _ _ (Ne.symm hji)] at H'
      refine ⟨hS', ih n (Nat.lt_succ_self n) _ a' w' (fun q hq => ?_) (fun q oq hq hu => hzj q oq hq (smore_un [j] listed hu)) (hA.step hji) hy' (hS' hjz) H'⟩
      obtain ⟨h1, h2⟩ := hbl q hq
      exact ⟨by rw [getD_set_ne true (fun e => hjs (by rw [e]; exact hq))]; exact h1, h2⟩
/-- Take number i first: it reads what S tells; those of Z that are not listed wait for it, by way of others. -/
theorem wpAnyS_take2 {i : Nat} {oi : Oper} {d : Option Tmp} {v : Value} {fuel : Nat} {listed : Array Bool} {a : Act} {w : World} (js : List Nat) (hi : ops[i]? = some oi) (hd : oi.dst = d) (hiz : Z i = false) (hwait : waitsB md ops Z listed i js = true)
    (hs : Region.noSelect ops = true) (hf : Region.free md ops listed i = true) (hr : (Region.ready md ops listed).contains i = true)
    (hQ : ∀ c a w, Q (.panic c) (a.put d v) w → Q (.panic c) a w) (hy : YieldsIf P ops S oi v a) (hS : S w)
    (h : wpAnyS P md ops Q S Z fuel (listed.setIfInBounds i true) (a.put d v) w) : wpAnyS P md ops Q S Z (fuel + 1) listed a w := by
  subst hd
  exact wpAnyS_front2 hi (Region.noSelect_spec hs) hQ hiz fuel listed a w (waitsB_spec hwait).1 (waitsB_spec hwait).2 (sAhead.of_free hi (by simpa using hr) hf) hy hS h
end

end Go.Proofs.Ytilonmpcifohiaa

namespace Go.Proofs.Ytilonmpcifohiaa
open Go.RowKit
set_option linter.unusedSimpArgs false
set_option linter.unusedVariables false

/-- The blocks that Move writes. -/
def RTouch (v : Value) (rb k : Nat) : Prop := k = rb ∨ v.ownBlock = some k
/-- What Move answers, and leaves. -/
def RMovePost (B : Nat) (w : World) (rb : Nat) (v : Value) (c : List (St × Ch)) (a b u : St) (key : ByteArray) (e : Ending) (w' : World) : Prop :=
  ∃ v' L', e = .returned (.int .i64 (moveCode c a b u)) ∧ RTree B w' rb v' L' ∧ CoreOf L' (addC c a ⟨b, u, key⟩) ∧ Ext (RTouch v rb) w w'
theorem rmv_new (W : World) (x : RMv) : ∀ j u, (RMv.cells x)[j]? = some u → (W.alloc (.cells #[.int .i64 x.at_.n, .int .i64 x.at_.r, .int .i64 x.block.n, .int .i64 x.block.r, .int .i64 x.under.n, .int .i64 x.under.r, .string x.key] 26)).cell? ⟨W.heap.size, j, none⟩ = some u := by
  intro j u hj
  rw [World.cell?_alloc_at _ _ _ _ rfl, ← hj, RMv.cells]
  simp
theorem at_ne_r {x : RMv} {an ar : Int} (h : x.at_ ≠ ⟨an, ar⟩) (e : x.at_.n = an) : ¬ x.at_.r = ar := fun e2 => h (by
  obtain ⟨⟨n, r⟩, b, u, k⟩ := x
  simp only at e e2
  rw [e, e2])
theorem none_snocR {l : List RMv} {b : St} {k : Nat} {x : RMv} (h : ∀ j y, j < k → l[j]? = some y → y.at_ ≠ b) (hx : l[k]? = some x) (hb : x.at_ ≠ b) : ∀ j y, j < k + 1 → l[j]? = some y → y.at_ ≠ b := fun j y hj hy => by
  by_cases e : j = k
  · subst e; rw [hx] at hy; cases hy; exact hb
  · exact h j y (by omega) hy
theorem code_twice {L : List RMv} {c : List (St × Ch)} (hc : CoreOf L c) {a b u : St} (hg : goodB a b u = true) {x : RMv} (hx : x ∈ L) (hb : x.at_ = a) : moveCode c a b u = 141 := by
  unfold moveCode
  rw [if_pos hg, if_pos ⟨coreR x, by rw [← hc.1]; exact List.mem_map_of_mem hx, hb⟩]
theorem code_ok {L : List RMv} {c : List (St × Ch)} (hc : CoreOf L c) {a b u : St} (hg : goodB a b u = true) (hn : ∀ j y, j < L.length → L[j]? = some y → y.at_ ≠ a) : moveCode c a b u = 0 ∧ ∀ y ∈ c, y.1 ≠ a := by
  have hn2 : ∀ y ∈ c, y.1 ≠ a := fun y hy e => by
    rw [← hc.1] at hy
    obtain ⟨x, hx, rfl⟩ := List.mem_map.1 hy
    obtain ⟨i, hi⟩ := List.getElem?_of_mem hx
    exact hn i x (List.getElem?_eq_some_iff.1 hi).1 hi e
  exact ⟨moveCode_ok hg hn2, hn2⟩
theorem add_not {c : List (St × Ch)} {a : St} {x : Ch} (h : moveCode c a x.block x.under ≠ 0) : addC c a x = c := by rw [addC, if_neg h]

set_option maxRecDepth 100000 in
set_option maxHeartbeats 4000000 in
theorem rmove_bad1 (rb : Nat) (an ar bn br un ur : Int) (key : ByteArray) (w : World) (h1 : rightB ⟨an, ar⟩ = false) :
    Calls Try.prog 17 #[.pointer (some ⟨rb, 0, none⟩), .agg #[.int .i64 an, .int .i64 ar], .agg #[.int .i64 bn, .int .i64 br], .agg #[.int .i64 un, .int .i64 ur], .string key] w fun e w' => e = .returned (.int .i64 1) ∧ Below w.heap.size w w' := by
  have z0 : (((w.alloc (.cells #[.int .i64 an, .int .i64 ar] 24)).alloc (.cells #[.int .i64 bn, .int .i64 br] 24)).alloc (.cells #[.int .i64 un, .int .i64 ur] 24)).cell? ⟨w.heap.size, 0, none⟩ = some (.int .i64 an) := by go_simp
  have z1 : (((w.alloc (.cells #[.int .i64 an, .int .i64 ar] 24)).alloc (.cells #[.int .i64 bn, .int .i64 br] 24)).alloc (.cells #[.int .i64 un, .int .i64 ur] 24)).cell? ⟨w.heap.size, 1, none⟩ = some (.int .i64 ar) := by go_simp
  have z2 : (((w.alloc (.cells #[.int .i64 an, .int .i64 ar] 24)).alloc (.cells #[.int .i64 bn, .int .i64 br] 24)).alloc (.cells #[.int .i64 un, .int .i64 ur] 24)).cell? ⟨w.heap.size + 1, 0, none⟩ = some (.int .i64 bn) := by go_simp
  have z3 : (((w.alloc (.cells #[.int .i64 an, .int .i64 ar] 24)).alloc (.cells #[.int .i64 bn, .int .i64 br] 24)).alloc (.cells #[.int .i64 un, .int .i64 ur] 24)).cell? ⟨w.heap.size + 1, 1, none⟩ = some (.int .i64 br) := by go_simp
  have z4 : (((w.alloc (.cells #[.int .i64 an, .int .i64 ar] 24)).alloc (.cells #[.int .i64 bn, .int .i64 br] 24)).alloc (.cells #[.int .i64 un, .int .i64 ur] 24)).cell? ⟨w.heap.size + 2, 0, none⟩ = some (.int .i64 un) := by go_simp
  have z5 : (((w.alloc (.cells #[.int .i64 an, .int .i64 ar] 24)).alloc (.cells #[.int .i64 bn, .int .i64 br] 24)).alloc (.cells #[.int .i64 un, .int .i64 ur] 24)).cell? ⟨w.heap.size + 2, 1, none⟩ = some (.int .i64 ur) := by go_simp
  have hB0 : Below w.heap.size w (((w.alloc (.cells #[.int .i64 an, .int .i64 ar] 24)).alloc (.cells #[.int .i64 bn, .int .i64 br] 24)).alloc (.cells #[.int .i64 un, .int .i64 ur] 24)) := (((Below.refl _ _).alloc (Nat.le_refl _) _).alloc (by simp) _).alloc (by simp; omega) _
  go_enter Try.func17, Try.ntmps17
  go_upto_region 1 with fail
  generalize (((w.alloc (.cells #[.int .i64 an, .int .i64 ar] 24)).alloc (.cells #[.int .i64 bn, .int .i64 br] 24)).alloc (.cells #[.int .i64 un, .int .i64 ur] 24)) = w0 at *
  go_wp2_with fail
  refine (rright_any _ _ _).mono ?_
  rintro e w1 ⟨rfl, b1⟩
  rw [h1]
  replace z0 := keepB b1 z0
  replace z1 := keepB b1 z1
  replace z2 := keepB b1 z2
  replace z3 := keepB b1 z3
  replace z4 := keepB b1 z4
  replace z5 := keepB b1 z5
  have hB1 := hB0.trans (b1.mono hB0.size)
  clear b1 hB0
  go_wp2_with fail
  refine (rright_any _ _ _).mono ?_
  rintro e w2 ⟨rfl, b2⟩
  replace z0 := keepB b2 z0
  replace z1 := keepB b2 z1
  replace z2 := keepB b2 z2
  replace z3 := keepB b2 z3
  replace z4 := keepB b2 z4
  replace z5 := keepB b2 z5
  have hB2 := hB1.trans (b2.mono hB1.size)
  clear b2 hB1
  go_wp2_with fail
  refine (rright_any _ _ _).mono ?_
  rintro e w3 ⟨rfl, b3⟩
  replace z0 := keepB b3 z0
  replace z1 := keepB b3 z1
  replace z2 := keepB b3 z2
  replace z3 := keepB b3 z3
  replace z4 := keepB b3 z4
  replace z5 := keepB b3 z5
  have hB3 := hB2.trans (b3.mono hB2.size)
  clear b3 hB2
  go_wp2_with fail
  go_ret
  exact ⟨rfl, hB3⟩

set_option maxRecDepth 100000 in
set_option maxHeartbeats 4000000 in
theorem rmove_bad2 (rb : Nat) (an ar bn br un ur : Int) (key : ByteArray) (w : World) (h1 : rightB ⟨an, ar⟩ = true) (h2 : rightB ⟨bn, br⟩ = false) :
    Calls Try.prog 17 #[.pointer (some ⟨rb, 0, none⟩), .agg #[.int .i64 an, .int .i64 ar], .agg #[.int .i64 bn, .int .i64 br], .agg #[.int .i64 un, .int .i64 ur], .string key] w fun e w' => e = .returned (.int .i64 1) ∧ Below w.heap.size w w' := by
  have z0 : (((w.alloc (.cells #[.int .i64 an, .int .i64 ar] 24)).alloc (.cells #[.int .i64 bn, .int .i64 br] 24)).alloc (.cells #[.int .i64 un, .int .i64 ur] 24)).cell? ⟨w.heap.size, 0, none⟩ = some (.int .i64 an) := by go_simp
  have z1 : (((w.alloc (.cells #[.int .i64 an, .int .i64 ar] 24)).alloc (.cells #[.int .i64 bn, .int .i64 br] 24)).alloc (.cells #[.int .i64 un, .int .i64 ur] 24)).cell? ⟨w.heap.size, 1, none⟩ = some (.int .i64 ar) := by go_simp
  have z2 : (((w.alloc (.cells #[.int .i64 an, .int .i64 ar] 24)).alloc (.cells #[.int .i64 bn, .int .i64 br] 24)).alloc (.cells #[.int .i64 un, .int .i64 ur] 24)).cell? ⟨w.heap.size + 1, 0, none⟩ = some (.int .i64 bn) := by go_simp
  have z3 : (((w.alloc (.cells #[.int .i64 an, .int .i64 ar] 24)).alloc (.cells #[.int .i64 bn, .int .i64 br] 24)).alloc (.cells #[.int .i64 un, .int .i64 ur] 24)).cell? ⟨w.heap.size + 1, 1, none⟩ = some (.int .i64 br) := by go_simp
  have z4 : (((w.alloc (.cells #[.int .i64 an, .int .i64 ar] 24)).alloc (.cells #[.int .i64 bn, .int .i64 br] 24)).alloc (.cells #[.int .i64 un, .int .i64 ur] 24)).cell? ⟨w.heap.size + 2, 0, none⟩ = some (.int .i64 un) := by go_simp
  have z5 : (((w.alloc (.cells #[.int .i64 an, .int .i64 ar] 24)).alloc (.cells #[.int .i64 bn, .int .i64 br] 24)).alloc (.cells #[.int .i64 un, .int .i64 ur] 24)).cell? ⟨w.heap.size + 2, 1, none⟩ = some (.int .i64 ur) := by go_simp
  have hB0 : Below w.heap.size w (((w.alloc (.cells #[.int .i64 an, .int .i64 ar] 24)).alloc (.cells #[.int .i64 bn, .int .i64 br] 24)).alloc (.cells #[.int .i64 un, .int .i64 ur] 24)) := (((Below.refl _ _).alloc (Nat.le_refl _) _).alloc (by simp) _).alloc (by simp; omega) _
  go_enter Try.func17, Try.ntmps17
  go_upto_region 1 with fail
  generalize (((w.alloc (.cells #[.int .i64 an, .int .i64 ar] 24)).alloc (.cells #[.int .i64 bn, .int .i64 br] 24)).alloc (.cells #[.int .i64 un, .int .i64 ur] 24)) = w0 at *
  go_wp2_with fail
  refine (rright_any _ _ _).mono ?_
  rintro e w1 ⟨rfl, b1⟩
  rw [h1]
  replace z0 := keepB b1 z0
  replace z1 := keepB b1 z1
  replace z2 := keepB b1 z2
  replace z3 := keepB b1 z3
  replace z4 := keepB b1 z4
  replace z5 := keepB b1 z5
  have hB1 := hB0.trans (b1.mono hB0.size)
  clear b1 hB0
  go_wp2_with fail
  refine (rright_any _ _ _).mono ?_
  rintro e w2 ⟨rfl, b2⟩
  rw [h2]
  replace z0 := keepB b2 z0
  replace z1 := keepB b2 z1
  replace z2 := keepB b2 z2
  replace z3 := keepB b2 z3
  replace z4 := keepB b2 z4
  replace z5 := keepB b2 z5
  have hB2 := hB1.trans (b2.mono hB1.size)
  clear b2 hB1
  go_wp2_with fail
  refine (rright_any _ _ _).mono ?_
  rintro e w3 ⟨rfl, b3⟩
  replace z0 := keepB b3 z0
  replace z1 := keepB b3 z1
  replace z2 := keepB b3 z2
  replace z3 := keepB b3 z3
  replace z4 := keepB b3 z4
  replace z5 := keepB b3 z5
  have hB3 := hB2.trans (b3.mono hB2.size)
  clear b3 hB2
  go_wp2_with fail
  go_ret
  exact ⟨rfl, hB3⟩

set_option maxRecDepth 100000 in
set_option maxHeartbeats 4000000 in
theorem rmove_bad3 (rb : Nat) (an ar bn br un ur : Int) (key : ByteArray) (w : World) (h1 : rightB ⟨an, ar⟩ = true) (h2 : rightB ⟨bn, br⟩ = true) (h3 : rightB ⟨un, ur⟩ = false) (hu : ¬ un = 0) :
    Calls Try.prog 17 #[.pointer (some ⟨rb, 0, none⟩), .agg #[.int .i64 an, .int .i64 ar], .agg #[.int .i64 bn, .int .i64 br], .agg #[.int .i64 un, .int .i64 ur], .string key] w fun e w' => e = .returned (.int .i64 1) ∧ Below w.heap.size w w' := by
  have z0 : (((w.alloc (.cells #[.int .i64 an, .int .i64 ar] 24)).alloc (.cells #[.int .i64 bn, .int .i64 br] 24)).alloc (.cells #[.int .i64 un, .int .i64 ur] 24)).cell? ⟨w.heap.size, 0, none⟩ = some (.int .i64 an) := by go_simp
  have z1 : (((w.alloc (.cells #[.int .i64 an, .int .i64 ar] 24)).alloc (.cells #[.int .i64 bn, .int .i64 br] 24)).alloc (.cells #[.int .i64 un, .int .i64 ur] 24)).cell? ⟨w.heap.size, 1, none⟩ = some (.int .i64 ar) := by go_simp
  have z2 : (((w.alloc (.cells #[.int .i64 an, .int .i64 ar] 24)).alloc (.cells #[.int .i64 bn, .int .i64 br] 24)).alloc (.cells #[.int .i64 un, .int .i64 ur] 24)).cell? ⟨w.heap.size + 1, 0, none⟩ = some (.int .i64 bn) := by go_simp
  have z3 : (((w.alloc (.cells #[.int .i64 an, .int .i64 ar] 24)).alloc (.cells #[.int .i64 bn, .int .i64 br] 24)).alloc (.cells #[.int .i64 un, .int .i64 ur] 24)).cell? ⟨w.heap.size + 1, 1, none⟩ = some (.int .i64 br) := by go_simp
  have z4 : (((w.alloc (.cells #[.int .i64 an, .int .i64 ar] 24)).alloc (.cells #[.int .i64 bn, .int .i64 br] 24)).alloc (.cells #[.int .i64 un, .int .i64 ur] 24)).cell? ⟨w.heap.size + 2, 0, none⟩ = some (.int .i64 un) := by go_simp
  have z5 : (((w.alloc (.cells #[.int .i64 an, .int .i64 ar] 24)).alloc (.cells #[.int .i64 bn, .int .i64 br] 24)).alloc (.cells #[.int .i64 un, .int .i64 ur] 24)).cell? ⟨w.heap.size + 2, 1, none⟩ = some (.int .i64 ur) := by go_simp
  have hB0 : Below w.heap.size w (((w.alloc (.cells #[.int .i64 an, .int .i64 ar] 24)).alloc (.cells #[.int .i64 bn, .int .i64 br] 24)).alloc (.cells #[.int .i64 un, .int .i64 ur] 24)) := (((Below.refl _ _).alloc (Nat.le_refl _) _).alloc (by simp) _).alloc (by simp; omega) _
  go_enter Try.func17, Try.ntmps17
  go_upto_region 1 with fail
  generalize (((w.alloc (.cells #[.int .i64 an, .int .i64 ar] 24)).alloc (.cells #[.int .i64 bn, .int .i64 br] 24)).alloc (.cells #[.int .i64 un, .int .i64 ur] 24)) = w0 at *
  go_wp2_with fail
  refine (rright_any _ _ _).mono ?_
  rintro e w1 ⟨rfl, b1⟩
  rw [h1]
  replace z0 := keepB b1 z0
  replace z1 := keepB b1 z1
  replace z2 := keepB b1 z2
  replace z3 := keepB b1 z3
  replace z4 := keepB b1 z4
  replace z5 := keepB b1 z5
  have hB1 := hB0.trans (b1.mono hB0.size)
  clear b1 hB0
  go_wp2_with fail
  refine (rright_any _ _ _).mono ?_
  rintro e w2 ⟨rfl, b2⟩
  rw [h2]
  replace z0 := keepB b2 z0
  replace z1 := keepB b2 z1
  replace z2 := keepB b2 z2
  replace z3 := keepB b2 z3
  replace z4 := keepB b2 z4
  replace z5 := keepB b2 z5
  have hB2 := hB1.trans (b2.mono hB1.size)
  clear b2 hB1
  go_wp2_with fail
  refine (rright_any _ _ _).mono ?_
  rintro e w3 ⟨rfl, b3⟩
  rw [h3]
  replace z0 := keepB b3 z0
  replace z1 := keepB b3 z1
  replace z2 := keepB b3 z2
  replace z3 := keepB b3 z3
  replace z4 := keepB b3 z4
  replace z5 := keepB b3 z5
  have hB3 := hB2.trans (b3.mono hB2.size)
  clear b3 hB2
  go_wp2_with fail
  go_ret
  exact ⟨rfl, hB3⟩

set_option maxRecDepth 100000 in
set_option maxHeartbeats 4000000 in
theorem rmove_bad4 (rb : Nat) (an ar bn br ur : Int) (key : ByteArray) (w : World) (h1 : rightB ⟨an, ar⟩ = true) (h2 : rightB ⟨bn, br⟩ = true) (h3 : rightB ⟨0, ur⟩ = false) (hu : ¬ ur = 0) :
    Calls Try.prog 17 #[.pointer (some ⟨rb, 0, none⟩), .agg #[.int .i64 an, .int .i64 ar], .agg #[.int .i64 bn, .int .i64 br], .agg #[.int .i64 0, .int .i64 ur], .string key] w fun e w' => e = .returned (.int .i64 1) ∧ Below w.heap.size w w' := by
  have z0 : (((w.alloc (.cells #[.int .i64 an, .int .i64 ar] 24)).alloc (.cells #[.int .i64 bn, .int .i64 br] 24)).alloc (.cells #[.int .i64 0, .int .i64 ur] 24)).cell? ⟨w.heap.size, 0, none⟩ = some (.int .i64 an) := by go_simp
  have z1 : (((w.alloc (.cells #[.int .i64 an, .int .i64 ar] 24)).alloc (.cells #[.int .i64 bn, .int .i64 br] 24)).alloc (.cells #[.int .i64 0, .int .i64 ur] 24)).cell? ⟨w.heap.size, 1, none⟩ = some (.int .i64 ar) := by go_simp
  have z2 : (((w.alloc (.cells #[.int .i64 an, .int .i64 ar] 24)).alloc (.cells #[.int .i64 bn, .int .i64 br] 24)).alloc (.cells #[.int .i64 0, .int .i64 ur] 24)).cell? ⟨w.heap.size + 1, 0, none⟩ = some (.int .i64 bn) := by go_simp
  have z3 : (((w.alloc (.cells #[.int .i64 an, .int .i64 ar] 24)).alloc (.cells #[.int .i64 bn, .int .i64 br] 24)).alloc (.cells #[.int .i64 0, .int .i64 ur] 24)).cell? ⟨w.heap.size + 1, 1, none⟩ = some (.int .i64 br) := by go_simp
  have z4 : (((w.alloc (.cells #[.int .i64 an, .int .i64 ar] 24)).alloc (.cells #[.int .i64 bn, .int .i64 br] 24)).alloc (.cells #[.int .i64 0, .int .i64 ur] 24)).cell? ⟨w.heap.size + 2, 0, none⟩ = some (.int .i64 0) := by go_simp
  have z5 : (((w.alloc (.cells #[.int .i64 an, .int .i64 ar] 24)).alloc (.cells #[.int .i64 bn, .int .i64 br] 24)).alloc (.cells #[.int .i64 0, .int .i64 ur] 24)).cell? ⟨w.heap.size + 2, 1, none⟩ = some (.int .i64 ur) := by go_simp
  have hB0 : Below w.heap.size w (((w.alloc (.cells #[.int .i64 an, .int .i64 ar] 24)).alloc (.cells #[.int .i64 bn, .int .i64 br] 24)).alloc (.cells #[.int .i64 0, .int .i64 ur] 24)) := (((Below.refl _ _).alloc (Nat.le_refl _) _).alloc (by simp) _).alloc (by simp; omega) _
  go_enter Try.func17, Try.ntmps17
  go_upto_region 1 with fail
  generalize (((w.alloc (.cells #[.int .i64 an, .int .i64 ar] 24)).alloc (.cells #[.int .i64 bn, .int .i64 br] 24)).alloc (.cells #[.int .i64 0, .int .i64 ur] 24)) = w0 at *
  go_wp2_with fail
  refine (rright_any _ _ _).mono ?_
  rintro e w1 ⟨rfl, b1⟩
  rw [h1]
  replace z0 := keepB b1 z0
  replace z1 := keepB b1 z1
  replace z2 := keepB b1 z2
  replace z3 := keepB b1 z3
  replace z4 := keepB b1 z4
  replace z5 := keepB b1 z5
  have hB1 := hB0.trans (b1.mono hB0.size)
  clear b1 hB0
  go_wp2_with fail
  refine (rright_any _ _ _).mono ?_
  rintro e w2 ⟨rfl, b2⟩
  rw [h2]
  replace z0 := keepB b2 z0
  replace z1 := keepB b2 z1
  replace z2 := keepB b2 z2
  replace z3 := keepB b2 z3
  replace z4 := keepB b2 z4
  replace z5 := keepB b2 z5
  have hB2 := hB1.trans (b2.mono hB1.size)
  clear b2 hB1
  go_wp2_with fail
  refine (rright_any _ _ _).mono ?_
  rintro e w3 ⟨rfl, b3⟩
  rw [h3]
  replace z0 := keepB b3 z0
  replace z1 := keepB b3 z1
  replace z2 := keepB b3 z2
  replace z3 := keepB b3 z3
  replace z4 := keepB b3 z4
  replace z5 := keepB b3 z5
  have hB3 := hB2.trans (b3.mono hB2.size)
  clear b3 hB2
  go_wp2_with fail
  go_ret
  exact ⟨rfl, hB3⟩

set_option maxRecDepth 100000 in
set_option maxHeartbeats 1800000 in
theorem rmove_good (rb : Nat) (v : Value) (L : List RMv) (an ar bn br un ur : Int) (key : ByteArray) (w : World) {B : Nat} (h : RTree B w rb v L) (hBw : B ≤ w.heap.size) {c : List (St × Ch)} (hc : CoreOf L c) (hl : L.length ≤ 900) (h1 : rightB ⟨an, ar⟩ = true) (h2 : rightB ⟨bn, br⟩ = true) (h3 : (un = 0 ∧ ur = 0) ∨ rightB ⟨un, ur⟩ = true) :
    Calls Try.prog 17 #[.pointer (some ⟨rb, 0, none⟩), .agg #[.int .i64 an, .int .i64 ar], .agg #[.int .i64 bn, .int .i64 br], .agg #[.int .i64 un, .int .i64 ur], .string key] w fun e w' => RMovePost B w rb v c ⟨an, ar⟩ ⟨bn, br⟩ ⟨un, ur⟩ key e w' := by
  obtain ⟨a, cap, rfl, hcap, hmax, _⟩ := h.2.1.slice RMv.len
  unfold maxLen at hmax
  obtain ⟨i0, hi, hz0, hz1, hz2⟩ := info_parts info_rmove
  have hg : goodB ⟨an, ar⟩ ⟨bn, br⟩ ⟨un, ur⟩ = true := by
    rcases h3 with ⟨rfl, rfl⟩ | h3
    · simp [goodB, h1, h2]
    · simp [goodB, h1, h2, h3]
  have HG := Lib.hid hg
  have HC := Lib.hid hc
  have HT := Lib.hid h
  have HBW := Lib.hid hBw
  have h1 := h1
  obtain ⟨q3, hq3⟩ : ∃ q3, rightB ⟨un, ur⟩ = q3 := ⟨_, rfl⟩
  rw [hq3] at h3
  have H3 := Lib.hid h3
  clear h hc hg h3 hBw
  have z0 : (((w.alloc (.cells #[.int .i64 an, .int .i64 ar] 24)).alloc (.cells #[.int .i64 bn, .int .i64 br] 24)).alloc (.cells #[.int .i64 un, .int .i64 ur] 24)).cell? ⟨w.heap.size, 0, none⟩ = some (.int .i64 an) := by go_simp
  have z1 : (((w.alloc (.cells #[.int .i64 an, .int .i64 ar] 24)).alloc (.cells #[.int .i64 bn, .int .i64 br] 24)).alloc (.cells #[.int .i64 un, .int .i64 ur] 24)).cell? ⟨w.heap.size, 1, none⟩ = some (.int .i64 ar) := by go_simp
  have z2 : (((w.alloc (.cells #[.int .i64 an, .int .i64 ar] 24)).alloc (.cells #[.int .i64 bn, .int .i64 br] 24)).alloc (.cells #[.int .i64 un, .int .i64 ur] 24)).cell? ⟨w.heap.size + 1, 0, none⟩ = some (.int .i64 bn) := by go_simp
  have z3 : (((w.alloc (.cells #[.int .i64 an, .int .i64 ar] 24)).alloc (.cells #[.int .i64 bn, .int .i64 br] 24)).alloc (.cells #[.int .i64 un, .int .i64 ur] 24)).cell? ⟨w.heap.size + 1, 1, none⟩ = some (.int .i64 br) := by go_simp
  have z4 : (((w.alloc (.cells #[.int .i64 an, .int .i64 ar] 24)).alloc (.cells #[.int .i64 bn, .int .i64 br] 24)).alloc (.cells #[.int .i64 un, .int .i64 ur] 24)).cell? ⟨w.heap.size + 2, 0, none⟩ = some (.int .i64 un) := by go_simp
  have z5 : (((w.alloc (.cells #[.int .i64 an, .int .i64 ar] 24)).alloc (.cells #[.int .i64 bn, .int .i64 br] 24)).alloc (.cells #[.int .i64 un, .int .i64 ur] 24)).cell? ⟨w.heap.size + 2, 1, none⟩ = some (.int .i64 ur) := by go_simp
  have hB0 : Below w.heap.size w (((w.alloc (.cells #[.int .i64 an, .int .i64 ar] 24)).alloc (.cells #[.int .i64 bn, .int .i64 br] 24)).alloc (.cells #[.int .i64 un, .int .i64 ur] 24)) := (((Below.refl _ _).alloc (Nat.le_refl _) _).alloc (by simp) _).alloc (by simp; omega) _
  go_enter Try.func17, Try.ntmps17
  go_upto_region 1 with fail
  generalize (((w.alloc (.cells #[.int .i64 an, .int .i64 ar] 24)).alloc (.cells #[.int .i64 bn, .int .i64 br] 24)).alloc (.cells #[.int .i64 un, .int .i64 ur] 24)) = w0 at *
  go_wp2_with fail
  refine (rright_any _ _ _).mono ?_
  rintro e w1 ⟨rfl, b1⟩
  rw [h1]
  replace z0 := keepB b1 z0
  replace z1 := keepB b1 z1
  replace z2 := keepB b1 z2
  replace z3 := keepB b1 z3
  replace z4 := keepB b1 z4
  replace z5 := keepB b1 z5
  have hB1 := hB0.trans (b1.mono hB0.size)
  clear b1 hB0
  go_wp2_with fail
  refine (rright_any _ _ _).mono ?_
  rintro e w2 ⟨rfl, b2⟩
  rw [h2]
  replace z0 := keepB b2 z0
  replace z1 := keepB b2 z1
  replace z2 := keepB b2 z2
  replace z3 := keepB b2 z3
  replace z4 := keepB b2 z4
  replace z5 := keepB b2 z5
  have hB2 := hB1.trans (b2.mono hB1.size)
  clear b2 hB1
  go_wp2_with fail
  refine (rright_any _ _ _).mono ?_
  rintro e w3 ⟨rfl, b3⟩
  rw [hq3]
  replace z0 := keepB b3 z0
  replace z1 := keepB b3 z1
  replace z2 := keepB b3 z2
  replace z3 := keepB b3 z3
  replace z4 := keepB b3 z4
  replace z5 := keepB b3 z5
  have hB3 := hB2.trans (b3.mono hB2.size)
  clear b3 hB2
  have HB3 := Lib.hid hB3
  clear hB3
  go_upto_region 4 with fail
  go_cut [37] (fun tv wx => tv = .bool false ∧ wx = w3)
  case first =>
    rcases H3.out with ⟨rfl, rfl⟩ | rfl
    · clear hq3
      cases q3
      · go_wp2_with fail
        go_meet
        case rel => exact ⟨rfl, rfl⟩
      · go_wp2_with fail
        go_meet
        case rel => exact ⟨rfl, rfl⟩
    · clear hq3
      go_wp2_with fail
      go_meet
      case rel => exact ⟨rfl, rfl⟩
  case rest =>
  obtain ⟨rfl, rfl⟩ := hcut
  have t0 := (HT.out.below HB3.out).c0
  go_wp2_with fail
  go_loopg [14] L.length (fun g iv wx => ∃ k : Nat, g = L.length - k ∧ k ≤ L.length ∧ iv = .int .i64 k ∧ Hid (∀ j y, j < k → L[j]? = some y → y.at_ ≠ ⟨an, ar⟩) ∧ Hid (Below wc.heap.size wc wx))
  case atStart => exact ⟨0, rfl, Nat.zero_le _, rfl, Lib.hid (fun j y hj => absurd hj (by omega)), Lib.hid (Below.refl _ _)⟩
  case round =>
    obtain ⟨k, hg, hk, rfl, HP, HB⟩ := hrel
    have HGG := Lib.hid hg
    clear hg
    replace t0 := keepB HB.out t0
    replace z0 := keepB HB.out z0
    replace z1 := keepB HB.out z1
    replace z2 := keepB HB.out z2
    replace z3 := keepB HB.out z3
    replace z4 := keepB HB.out z4
    replace z5 := keepB HB.out z5
    have HW := Lib.hid (HB3.out.trans (HB.out.mono HB3.out.size))
    by_cases hlt : k < L.length
    · obtain ⟨x, hx⟩ : ∃ x, L[k]? = some x := ⟨_, List.getElem?_eq_getElem hlt⟩
      obtain ⟨b, o, c1, e1, hh⟩ := ((HT.out.below HW.out).2.1.slice RMv.len).rcells (by intro e; rw [e] at hlt; simp at hlt)
      cases e1
      obtain ⟨x0, x1, -, -, -, -, -⟩ := hh k x hx
      have HX := Lib.hid hx
      have HD : Hid (Below w.heap.size w wr.drew ∧ Below wc.heap.size wc wr.drew) := Lib.hid ⟨HW.out.drew, HB.out.drew⟩
      have hkk : (k : Int) < (L.length : Int) := by omega
      have hk0 : (0 : Int) ≤ (k : Int) := by omega
      clear hh hx
      by_cases hb : x.at_ = ⟨an, ar⟩
      · have e1 : x.at_.n = an := by rw [hb]
        have e2 : x.at_.r = ar := by rw [hb]
        rw [e1] at x0
        rw [e2] at x1
        have HM := Lib.hid (code_twice HC.out HG.out (List.mem_of_getElem? HX.out) hb)
        clear hb e1 e2
        go_wp2_with fail
        go_region_held3 (fun W => W.cell? ⟨rb, 0, none⟩ = some (.slice (some ⟨b, o, none⟩) L.length cap) ∧ W.cell? ⟨b, o + k * 7, none⟩ = some (.int .i64 an) ∧ W.cell? ⟨b, o + k * 7 + 1, none⟩ = some (.int .i64 ar) ∧ W.cell? ⟨w.heap.size, 0, none⟩ = some (.int .i64 an) ∧ W.cell? ⟨w.heap.size, 1, none⟩ = some (.int .i64 ar)) (exact ⟨t0, x0, x1, z0, z1⟩) (fail)
        go_wp2_with fail
        go_ret
        refine ⟨_, L, by rw [HM.out]; rfl, HT.out.below HD.out.1, ?_, Ext.of_below HD.out.1⟩
        rw [add_not (by rw [show moveCode c ⟨an, ar⟩ (Ch.mk ⟨bn, br⟩ ⟨un, ur⟩ key).block (Ch.mk ⟨bn, br⟩ ⟨un, ur⟩ key).under = 141 from HM.out]; decide)]
        exact HC.out
      · have HN := Lib.hid (none_snocR HP.out HX.out hb)
        have hb' := at_ne_r hb
        clear hb
        by_cases e1 : x.at_.n = an
        · have e2 := hb' e1
          rw [e1] at x0
          clear e1
          clear hb'
          go_wp2_with fail
          go_region_held3 (fun W => W.cell? ⟨rb, 0, none⟩ = some (.slice (some ⟨b, o, none⟩) L.length cap) ∧ W.cell? ⟨b, o + k * 7, none⟩ = some (.int .i64 an) ∧ W.cell? ⟨b, o + k * 7 + 1, none⟩ = some (.int .i64 x.at_.r) ∧ W.cell? ⟨w.heap.size, 0, none⟩ = some (.int .i64 an) ∧ W.cell? ⟨w.heap.size, 1, none⟩ = some (.int .i64 ar)) (exact ⟨t0, x0, x1, z0, z1⟩) (fail)
          go_wp2_with fail
          go_roundg (L.length - (k + 1))
          case measure => rw [HGG.out]; omega
          case rel => exact ⟨k + 1, rfl, hlt, by go_num, HN, Lib.hid HD.out.2⟩
        · have htr : True := trivial
          clear hb'
          go_wp2_with fail
          go_region_held3 (fun W => W.cell? ⟨rb, 0, none⟩ = some (.slice (some ⟨b, o, none⟩) L.length cap) ∧ W.cell? ⟨b, o + k * 7, none⟩ = some (.int .i64 x.at_.n) ∧ W.cell? ⟨b, o + k * 7 + 1, none⟩ = some (.int .i64 x.at_.r) ∧ W.cell? ⟨w.heap.size, 0, none⟩ = some (.int .i64 an) ∧ W.cell? ⟨w.heap.size, 1, none⟩ = some (.int .i64 ar)) (exact ⟨t0, x0, x1, z0, z1⟩) (fail)
          go_wp2_with fail
          go_roundg (L.length - (k + 1))
          case measure => rw [HGG.out]; omega
          case rel => exact ⟨k + 1, rfl, hlt, by go_num, HN, Lib.hid HD.out.2⟩
    · obtain rfl : k = L.length := by omega
      obtain ⟨hcode, hnin⟩ := code_ok HC.out HG.out HP.out
      have HCODE := Lib.hid hcode
      have HNIN := Lib.hid hnin
      have hkk : ¬ (L.length : Int) < (L.length : Int) := by omega
      have hT := HT.out.below HW.out
      have HT2 := Lib.hid hT
      have hrl := (Array.getElem?_eq_some_iff.1 hT.1).1
      have hwz := HW.out.size
      have hne : ∀ b, (Value.slice a L.length cap).ownBlock = some b → ¬ b = rb := fun b hb e => by
        obtain ⟨cur, hcur⟩ := hT.2.1.tag hb
        rw [e, hT.1] at hcur
        cases hcur
      have hBw := Nat.le_trans HBW.out hwz
      have HNE := Lib.hid hne
      have hzb : w.heap.size + 2 < wr.heap.size := by have := cell_lt z4; omega
      clear hcode hnin hne hT hlt hk
      go_upto_region 11 with fail
      obtain ⟨W1, hW1⟩ : ∃ W1, wr.drew = W1 := ⟨_, rfl⟩
      have hT1 : RTree B W1 rb (.slice a L.length cap) L := by rw [← hW1]; exact HT2.out.below (Below.refl _ _).drew
      have hX1 : Below w.heap.size w W1 := by rw [← hW1]; exact HW.out.drew
      have hs1 : wr.heap.size = W1.heap.size := by rw [← hW1]; rfl
      have hS0 : W1.cell? ⟨rb, 0, none⟩ = some (.slice a L.length cap) ∧ W1.cell? ⟨w.heap.size, 0, none⟩ = some (.int .i64 an) ∧ W1.cell? ⟨w.heap.size, 1, none⟩ = some (.int .i64 ar) ∧ W1.cell? ⟨w.heap.size + 1, 0, none⟩ = some (.int .i64 bn) ∧ W1.cell? ⟨w.heap.size + 1, 1, none⟩ = some (.int .i64 br) ∧ W1.cell? ⟨w.heap.size + 2, 0, none⟩ = some (.int .i64 un) ∧ W1.cell? ⟨w.heap.size + 2, 1, none⟩ = some (.int .i64 ur) := by rw [← hW1]; exact ⟨t0, z0, z1, z2, z3, z4, z5⟩
      refine wp_region_s (fun W => W.cell? ⟨rb, 0, none⟩ = some (.slice a L.length cap) ∧ W.cell? ⟨w.heap.size, 0, none⟩ = some (.int .i64 an) ∧ W.cell? ⟨w.heap.size, 1, none⟩ = some (.int .i64 ar) ∧ W.cell? ⟨w.heap.size + 1, 0, none⟩ = some (.int .i64 bn) ∧ W.cell? ⟨w.heap.size + 1, 1, none⟩ = some (.int .i64 br) ∧ W.cell? ⟨w.heap.size + 2, 0, none⟩ = some (.int .i64 un) ∧ W.cell? ⟨w.heap.size + 2, 1, none⟩ = some (.int .i64 ur)) (fun i => i == 14) (by kernel_rfl) ?_
      rw [hW1]
      clear hW1 t0 z0 z1 z2 z3 z4 z5
      rw [hs1] at hzb hBw hwz hrl
      refine wpAnyS_take (i := 0) (d := some 57) rfl rfl rfl (by kernel_rfl) (by kernel_rfl) (by kernel_rfl) (by kernel_rfl) (fun _ _ _ h => h) (.inl ⟨by rfl, fun W hW => by go_simp; rfl⟩) hS0 ?_
      try simp only [Act.put, List.setIfInBounds_toArray, List.set_cons_zero, List.set_cons_succ]
      refine wpAnyS_take (i := 1) (d := some 58) rfl rfl rfl (by kernel_rfl) (by kernel_rfl) (by kernel_rfl) (by kernel_rfl) (fun _ _ _ h => h) (.inl ⟨by rfl, fun W hW => by go_simp; rfl⟩) hS0 ?_
      try simp only [Act.put, List.setIfInBounds_toArray, List.set_cons_zero, List.set_cons_succ]
      refine wpAnyS_take (i := 2) (d := some 59) rfl rfl rfl (by kernel_rfl) (by kernel_rfl) (by kernel_rfl) (by kernel_rfl) (fun _ _ _ h => h) (.inl ⟨by rfl, fun W hW => by go_simp; rfl⟩) hS0 ?_
      try simp only [Act.put, List.setIfInBounds_toArray, List.set_cons_zero, List.set_cons_succ]
      refine wpAnyS_take (i := 3) (d := some 60) rfl rfl rfl (by kernel_rfl) (by kernel_rfl) (by kernel_rfl) (by kernel_rfl) (fun _ _ _ h => h) (.inl ⟨by rfl, fun W hW => by go_simp; rfl⟩) hS0 ?_
      try simp only [Act.put, List.setIfInBounds_toArray, List.set_cons_zero, List.set_cons_succ]
      refine wpAnyS_take (i := 4) (d := some 61) rfl rfl rfl (by kernel_rfl) (by kernel_rfl) (by kernel_rfl) (by kernel_rfl) (fun _ _ _ h => h) (.inl ⟨by rfl, fun W hW => by obtain ⟨q0, q1, q2, q3, q4, q5, q6⟩ := hW; go_simp; rfl⟩) hS0 ?_
      try simp only [Act.put, List.setIfInBounds_toArray, List.set_cons_zero, List.set_cons_succ]
      refine wpAnyS_take (i := 5) (d := some 62) rfl rfl rfl (by kernel_rfl) (by kernel_rfl) (by kernel_rfl) (by kernel_rfl) (fun _ _ _ h => h) (.inl ⟨by rfl, fun W hW => by obtain ⟨q0, q1, q2, q3, q4, q5, q6⟩ := hW; go_simp; rfl⟩) hS0 ?_
      try simp only [Act.put, List.setIfInBounds_toArray, List.set_cons_zero, List.set_cons_succ]
      refine wpAnyS_take (i := 6) (d := some 63) rfl rfl rfl (by kernel_rfl) (by kernel_rfl) (by kernel_rfl) (by kernel_rfl) (fun _ _ _ h => h) (.inl ⟨by rfl, fun W hW => by obtain ⟨q0, q1, q2, q3, q4, q5, q6⟩ := hW; go_simp; rfl⟩) hS0 ?_
      try simp only [Act.put, List.setIfInBounds_toArray, List.set_cons_zero, List.set_cons_succ]
      refine wpAnyS_take (i := 7) (d := some 64) rfl rfl rfl (by kernel_rfl) (by kernel_rfl) (by kernel_rfl) (by kernel_rfl) (fun _ _ _ h => h) (.inl ⟨by rfl, fun W hW => by obtain ⟨q0, q1, q2, q3, q4, q5, q6⟩ := hW; go_simp; rfl⟩) hS0 ?_
      try simp only [Act.put, List.setIfInBounds_toArray, List.set_cons_zero, List.set_cons_succ]
      refine wpAnyS_take (i := 8) (d := some 65) rfl rfl rfl (by kernel_rfl) (by kernel_rfl) (by kernel_rfl) (by kernel_rfl) (fun _ _ _ h => h) (.inl ⟨by rfl, fun W hW => by go_simp; rfl⟩) hS0 ?_
      try simp only [Act.put, List.setIfInBounds_toArray, List.set_cons_zero, List.set_cons_succ]
      refine wpAnyS_ran (i := 9) (d := some 66) (v := .agg #[.int .i64 an, .int .i64 ar, .int .i64 bn, .int .i64 br, .int .i64 un, .int .i64 ur, .string key]) (w' := W1) (by kernel_rfl) rfl rfl (by rfl) (by go_simp; try rfl) (fun _ => hS0) ?_
      try simp only [Act.put, List.setIfInBounds_toArray, List.set_cons_zero, List.set_cons_succ]
      obtain ⟨v6, w6, hr6, hown6, hx6, hnw6⟩ := append_struct_run (P := Try.prog) 22 22 i0 _ 64 Try.underlying22 hi hz0 hz1 hz2 rfl (by omega) RMv.len RMv.one (hT1.2.1.alloc (.cells #[.int .i64 an, .int .i64 ar, .int .i64 bn, .int .i64 br, .int .i64 un, .int .i64 ur, .string key] 26)) ⟨⟨an, ar⟩, ⟨bn, br⟩, ⟨un, ur⟩, key⟩ W1.heap.size 1 (rmv_new _ ⟨⟨an, ar⟩, ⟨bn, br⟩, ⟨un, ur⟩, key⟩) (by unfold maxLen; omega) (by omega) (by simp; omega)
      obtain ⟨g6, cp6, rfl⟩ : ∃ g c, v6 = .slice (some ⟨g, 0, none⟩) (L.length + 1) c := (by rcases hown6.eq_slice with ⟨_, h⟩ | ⟨g, c, h, _⟩; (simp at h); exact ⟨g, c, by simpa using h⟩)
      have hk6 : ∀ b o u, ¬ (Value.slice a L.length cap).ownBlock = some b → W1.cell? ⟨b, o, none⟩ = some u → w6.cell? ⟨b, o, none⟩ = some u := fun b o u hn hu => hx6.keep (cell_alloc hu _) hn
      have hbx : ∀ b, w.heap.size ≤ b → b < w.heap.size + 3 → ¬ (Value.slice a L.length cap).ownBlock = some b := fun b h1 h2 e => by have := (HT.out.2.1.blk b e).2; omega
      have hSa : (W1.alloc (.cells #[.int .i64 an, .int .i64 ar, .int .i64 bn, .int .i64 br, .int .i64 un, .int .i64 ur, .string key] 26)).cell? ⟨rb, 0, none⟩ = some (.slice a L.length cap) ∧ (W1.alloc (.cells #[.int .i64 an, .int .i64 ar, .int .i64 bn, .int .i64 br, .int .i64 un, .int .i64 ur, .string key] 26)).cell? ⟨w.heap.size, 0, none⟩ = some (.int .i64 an) ∧ (W1.alloc (.cells #[.int .i64 an, .int .i64 ar, .int .i64 bn, .int .i64 br, .int .i64 un, .int .i64 ur, .string key] 26)).cell? ⟨w.heap.size, 1, none⟩ = some (.int .i64 ar) ∧ (W1.alloc (.cells #[.int .i64 an, .int .i64 ar, .int .i64 bn, .int .i64 br, .int .i64 un, .int .i64 ur, .string key] 26)).cell? ⟨w.heap.size + 1, 0, none⟩ = some (.int .i64 bn) ∧ (W1.alloc (.cells #[.int .i64 an, .int .i64 ar, .int .i64 bn, .int .i64 br, .int .i64 un, .int .i64 ur, .string key] 26)).cell? ⟨w.heap.size + 1, 1, none⟩ = some (.int .i64 br) ∧ (W1.alloc (.cells #[.int .i64 an, .int .i64 ar, .int .i64 bn, .int .i64 br, .int .i64 un, .int .i64 ur, .string key] 26)).cell? ⟨w.heap.size + 2, 0, none⟩ = some (.int .i64 un) ∧ (W1.alloc (.cells #[.int .i64 an, .int .i64 ar, .int .i64 bn, .int .i64 br, .int .i64 un, .int .i64 ur, .string key] 26)).cell? ⟨w.heap.size + 2, 1, none⟩ = some (.int .i64 ur) := ⟨cell_alloc hS0.1 _, cell_alloc hS0.2.1 _, cell_alloc hS0.2.2.1 _, cell_alloc hS0.2.2.2.1 _, cell_alloc hS0.2.2.2.2.1 _, cell_alloc hS0.2.2.2.2.2.1 _, cell_alloc hS0.2.2.2.2.2.2 _⟩
      have hrb6 : ¬ (Value.slice a L.length cap).ownBlock = some rb := fun e => HNE.out _ e rfl
      have hS6 : w6.cell? ⟨rb, 0, none⟩ = some (.slice a L.length cap) ∧ w6.cell? ⟨w.heap.size, 0, none⟩ = some (.int .i64 an) ∧ w6.cell? ⟨w.heap.size, 1, none⟩ = some (.int .i64 ar) ∧ w6.cell? ⟨w.heap.size + 1, 0, none⟩ = some (.int .i64 bn) ∧ w6.cell? ⟨w.heap.size + 1, 1, none⟩ = some (.int .i64 br) ∧ w6.cell? ⟨w.heap.size + 2, 0, none⟩ = some (.int .i64 un) ∧ w6.cell? ⟨w.heap.size + 2, 1, none⟩ = some (.int .i64 ur) := ⟨hk6 _ _ _ hrb6 hS0.1, hk6 _ _ _ (hbx _ (by omega) (by omega)) hS0.2.1, hk6 _ _ _ (hbx _ (by omega) (by omega)) hS0.2.2.1, hk6 _ _ _ (hbx _ (by omega) (by omega)) hS0.2.2.2.1, hk6 _ _ _ (hbx _ (by omega) (by omega)) hS0.2.2.2.2.1, hk6 _ _ _ (hbx _ (by omega) (by omega)) hS0.2.2.2.2.2.1, hk6 _ _ _ (hbx _ (by omega) (by omega)) hS0.2.2.2.2.2.2⟩
      have hb6 : w6.heap[rb]? = some (.cells #[.slice a L.length cap] 44 (0, 0)) := by rw [hx6.block rb (by simp; omega) hrb6, Below.heap_alloc _ _ _ hrl]; exact hT1.1
      have g1 : w6.frozen? ⟨rb, 0, none⟩ = false := by simp [World.frozen?, hb6]
      refine wpAnyS_ran (i := 10) (d := some 67) (v := .slice (some ⟨W1.heap.size, 0, none⟩) 1 1) (w' := W1.alloc (.cells #[.int .i64 an, .int .i64 ar, .int .i64 bn, .int .i64 br, .int .i64 un, .int .i64 ur, .string key] 26)) (by kernel_rfl) rfl rfl (by rfl) (by go_simp; try rfl) (fun _ => hSa) ?_
      try simp only [Act.put, List.setIfInBounds_toArray, List.set_cons_zero, List.set_cons_succ]
      refine wpAnyS_ran (i := 11) (d := some 68) (v := .slice (some ⟨g6, 0, none⟩) (L.length + 1) cp6) (w' := w6) (by kernel_rfl) rfl rfl (by rfl) (exec_append rfl rfl rfl hr6) (fun _ => hS6) ?_
      try simp only [Act.put, List.setIfInBounds_toArray, List.set_cons_zero, List.set_cons_succ]
      refine wpAnyS_ran (i := 12) (d := some 69) (w' := w6) (by kernel_rfl) rfl rfl (by rfl) (by go_simp; try rfl) (fun _ => hS6) ?_
      try simp only [Act.put, List.setIfInBounds_toArray, List.set_cons_zero, List.set_cons_succ]
      refine wpAnyS_ran (i := 13) (d := some 70) (w' := w6) (by kernel_rfl) rfl rfl (by rfl) (by go_simp; try rfl) (fun _ => hS6) ?_
      try simp only [Act.put, List.setIfInBounds_toArray, List.set_cons_zero, List.set_cons_succ]
      refine wpAnyS_mute (i := 14) (d := none) (w' := w6.setCell ⟨rb, 0, none⟩ (.slice (some ⟨g6, 0, none⟩) (L.length + 1) cp6)) (by kernel_rfl) rfl rfl (by rfl) (by have g2 := hS6.1; go_simp; try rfl) (fun h => by cases h) ?_
      try simp only [Act.put, List.setIfInBounds_toArray, List.set_cons_zero, List.set_cons_succ]
      refine wpAnyS_done (by kernel_rfl) ?_ _
      have hT6 : RTree B (w6.setCell ⟨rb, 0, none⟩ (.slice (some ⟨g6, 0, none⟩) (L.length + 1) cp6)) rb (.slice (some ⟨g6, 0, none⟩) (L.length + 1) cp6) (L ++ [⟨⟨an, ar⟩, ⟨bn, br⟩, ⟨un, ur⟩, key⟩]) := by
        refine ⟨by simp [World.setCell, Array.getElem?_modify, hb6], hown6.ext ((Ext.refl (· = rb) w6).setCell (p := ⟨rb, 0, none⟩) (.inr rfl) _) (fun b hb e => ?_), HT2.out.2.2⟩
        obtain ⟨cur, hcur⟩ := hown6.tag hb
        rw [e, hb6] at hcur
        cases hcur
      have hF6 : Ext (RTouch (.slice a L.length cap) rb) w (w6.setCell ⟨rb, 0, none⟩ (.slice (some ⟨g6, 0, none⟩) (L.length + 1) cp6)) :=
        (((Ext.of_below hX1).alloc (.cells #[.int .i64 an, .int .i64 ar, .int .i64 bn, .int .i64 br, .int .i64 un, .int .i64 ur, .string key] 26)).andThen hx6 (fun b _ hb => .inr hb)).setCell (p := ⟨rb, 0, none⟩) (.inr (.inl rfl)) _
      have hg6 : w.heap.size ≤ g6 ∨ RTouch (.slice a L.length cap) rb g6 := by
        rcases hnw6 g6 rfl with e | e
        · exact .inr (.inr e)
        · exact .inl (by simp at e; omega)
      have HT6 := Lib.hid hT6
      have HF6 := Lib.hid hF6
      obtain ⟨-, hc6, hm6⟩ := hown6.lenI RMv.len
      clear hr6 hown6 hx6 hnw6 hk6 hbx hSa hrb6 hS6 hb6 g1 hT6 hF6 hS0 hT1 hX1
      generalize w6.setCell ⟨rb, 0, none⟩ (.slice (some ⟨g6, 0, none⟩) (L.length + 1) cp6) = w7 at *
      obtain ⟨y, hy⟩ : ∃ y : RMv, (⟨⟨an, ar⟩, ⟨bn, br⟩, ⟨un, ur⟩, key⟩ : RMv) = y := ⟨_, rfl⟩
      rw [hy] at HT6
      obtain ⟨m, hm⟩ : ∃ m, L.length + 1 = m := ⟨_, rfl⟩
      rw [hm] at HT6 hc6
      have hm1 : (m : Int) - 1 = (L.length : Int) := by omega
      have hmb : m ≤ 901 := by omega
      have HM := Lib.hid hm
      have hlm : (L ++ [y]).length = m := by simp [hm]
      have HLM := Lib.hid hlm
      have hnd : (L ++ [y]).Nodup ∧ ∀ q ∈ L, q.at_ ≠ y.at_ := by
        have hq : ∀ q ∈ L, q.at_ ≠ y.at_ := fun q hq e => HNIN.out (coreR q) (by rw [← HC.out.1]; exact List.mem_map_of_mem hq) (by rw [← hy] at e; exact e)
        refine ⟨?_, hq⟩
        rw [List.nodup_append]
        refine ⟨HC.out.2.imp (fun {a b} h e => by rw [e] at h; exact stLt_irrefl _ h), by simp, fun a ha b hb e => ?_⟩
        rw [List.mem_singleton] at hb
        subst hb
        exact hq a ha (by rw [e])
      have HND := Lib.hid hnd
      have t0 := HT6.out.c0
      have HY := Lib.hid hy
      have HI0 : Hid (InsR RLt (L ++ [y]) (L ++ [y]) L.length ∧ RTree B w7 rb (.slice (some ⟨g6, 0, none⟩) m cp6) (L ++ [y]) ∧ Ext (RTouch (.slice a L.length cap) rb) w w7) := Lib.hid ⟨insR_first HC.out.2 y, HT6.out, HF6.out⟩
      clear hm hlm hnd hy HT6 HF6 hzb hwz hrl hs1 hBw
      go_wp2_with fail
      go_loopg [15] L.length (fun g jv wr => ∃ (j : Nat) (zs : List RMv), g = j ∧ j ≤ L.length ∧ jv = .int .i64 j ∧ zs.length = m ∧ Hid (zs[j]? = some y) ∧ Hid (InsR RLt (L ++ [y]) zs j ∧ RTree B wr rb (.slice (some ⟨g6, 0, none⟩) m cp6) zs ∧ Ext (RTouch (.slice a L.length cap) rb) w wr))
      case atStart => exact ⟨L.length, _, rfl, Nat.le_refl _, by first | rfl | simp, HLM.out, Lib.hid (by rw [List.getElem?_append_right (Nat.le_refl _), Nat.sub_self]; rfl), HI0⟩
      case round =>
        obtain ⟨j, zs, hg, hj, rfl, hzl, hzx, hV⟩ := hrel
        have HGJ := Lib.hid hg
        clear hg t0
        have t0 := hV.out.2.1.c0
        have hend : ∀ W, Below wr.heap.size wr W → zs.Pairwise RLt → Hid (RMovePost B w rb (.slice a L.length cap) c ⟨an, ar⟩ ⟨bn, br⟩ ⟨un, ur⟩ key (.returned (.int .i64 0)) W) := fun W hW h => Lib.hid ⟨_, zs, by rw [HCODE.out], hV.out.2.1.below hW, by
          rw [addC, if_pos (show moveCode c ⟨an, ar⟩ (Ch.mk ⟨bn, br⟩ ⟨un, ur⟩ key).block (Ch.mk ⟨bn, br⟩ ⟨un, ur⟩ key).under = 0 from HCODE.out)]
          have := HC.out.add (x := y) (by rw [← HY.out]; exact HNIN.out) hV.out.1.perm h
          rw [← HY.out] at this
          exact this, hV.out.2.2.then_below hW⟩
        by_cases hj0 : 0 < j
        · obtain ⟨p, hp⟩ : ∃ p, zs[j]? = some p := ⟨_, List.getElem?_eq_getElem (by omega)⟩
          obtain ⟨q, hq⟩ : ∃ q, zs[j - 1]? = some q := ⟨_, List.getElem?_eq_getElem (by omega)⟩
          have ho := hV.out.2.1.2.1
          have p0 := ho.cellI (j := 0) RMv.len hp rfl
          have p1 := ho.cellI (j := 1) RMv.len hp rfl
          have q0 := ho.cellI (j := 0) RMv.len hq rfl
          have q1 := ho.cellI (j := 1) RMv.len hq rfl
          simp only [Nat.add_zero] at p0 q0
          have HPQ := Lib.hid (And.intro hp hq)
          have hcm := rcompare_any p.at_.n p.at_.r q.at_.n q.at_.r
          obtain ⟨cv, hcv⟩ : ∃ cv, cmpS ⟨p.at_.n, p.at_.r⟩ ⟨q.at_.n, q.at_.r⟩ = cv := ⟨_, rfl⟩
          rw [hcv] at hcm
          have HCM := Lib.hid hcm
          have hvv := cmpS_lt p.at_ q.at_
          rw [show cmpS p.at_ q.at_ = cv from hcv] at hvv
          have HVV := Lib.hid hvv
          have hja : (0 : Int) ≤ (j : Int) := by omega
          have hjb : (j : Int) < (m : Int) := by omega
          have hj1 : (0 : Int) < (j : Int) := by omega
          obtain ⟨jq, hjq⟩ : ∃ jq : Nat, j - 1 = jq := ⟨_, rfl⟩
          rw [hjq] at q0 q1
          have hjc : (0 : Int) ≤ (jq : Int) := by omega
          have hjd : (jq : Int) < (m : Int) := by omega
          have hje : IntKind.i64.wrap ((j : Int) - 1) = (jq : Int) := by rw [show (j : Int) - 1 = (jq : Int) by omega]; exact IntWalk.i64_in _ (by omega)
          have HJE := Lib.hid hje
          have HJQ := Lib.hid hjq
          clear ho hp hq hcm hcv hvv hjq
          go_upto_region 13 with fail
          go_region_held3 (fun W => W.cell? ⟨rb, 0, none⟩ = some (.slice (some ⟨g6, 0, none⟩) m cp6) ∧ W.cell? ⟨g6, j * 7, none⟩ = some (.int .i64 p.at_.n) ∧ W.cell? ⟨g6, j * 7 + 1, none⟩ = some (.int .i64 p.at_.r) ∧ W.cell? ⟨g6, jq * 7, none⟩ = some (.int .i64 q.at_.n) ∧ W.cell? ⟨g6, jq * 7 + 1, none⟩ = some (.int .i64 q.at_.r)) (first | exact ⟨t0, p0, p1, q0, q1⟩ | exact ⟨keepB b5 t0, keepB b5 p0, keepB b5 p1, keepB b5 q0, keepB b5 q1⟩) (first | (go_at_call 33; ((with_reducible refine (HCM.out _).mono ?_); rintro e w5 ⟨rfl, b5⟩; simp only [heap_drew, below_drew] at b5)))
          have HB5 := Lib.hid b5
          clear b5 p0 p1 q0 q1 hje t0
          by_cases hlt : cv < 0
          · have HSW := Lib.hid (hV.out.1.swap hj0 HPQ.out.1 HPQ.out.2 (HVV.out.1 hlt))
            have hT5 := hV.out.2.1.below HB5.out
            have hF5 := hV.out.2.2.then_below HB5.out
            clear hV hend HCM HVV HB5
            have t0 := hT5.c0
            have ho := hT5.2.1
            have p0 := ho.cellI (j := 0) RMv.len HPQ.out.1 rfl
            have p1 := ho.cellI (j := 1) RMv.len HPQ.out.1 rfl
            have p2 := ho.cellI (j := 2) RMv.len HPQ.out.1 rfl
            have p3 := ho.cellI (j := 3) RMv.len HPQ.out.1 rfl
            have p4 := ho.cellI (j := 4) RMv.len HPQ.out.1 rfl
            have p5 := ho.cellI (j := 5) RMv.len HPQ.out.1 rfl
            have p6 := ho.cellI (j := 6) RMv.len HPQ.out.1 rfl
            simp only [Nat.add_zero] at p0
            have z0 : (w5.alloc (.cells #[.int .i64 p.at_.n, .int .i64 p.at_.r, .int .i64 p.block.n, .int .i64 p.block.r, .int .i64 p.under.n, .int .i64 p.under.r, .string p.key] 26)).cell? ⟨w5.heap.size, 0, none⟩ = some (.int .i64 p.at_.n) := by go_simp
            have z1 : (w5.alloc (.cells #[.int .i64 p.at_.n, .int .i64 p.at_.r, .int .i64 p.block.n, .int .i64 p.block.r, .int .i64 p.under.n, .int .i64 p.under.r, .string p.key] 26)).cell? ⟨w5.heap.size, 1, none⟩ = some (.int .i64 p.at_.r) := by go_simp
            have z2 : (w5.alloc (.cells #[.int .i64 p.at_.n, .int .i64 p.at_.r, .int .i64 p.block.n, .int .i64 p.block.r, .int .i64 p.under.n, .int .i64 p.under.r, .string p.key] 26)).cell? ⟨w5.heap.size, 2, none⟩ = some (.int .i64 p.block.n) := by go_simp
            have z3 : (w5.alloc (.cells #[.int .i64 p.at_.n, .int .i64 p.at_.r, .int .i64 p.block.n, .int .i64 p.block.r, .int .i64 p.under.n, .int .i64 p.under.r, .string p.key] 26)).cell? ⟨w5.heap.size, 3, none⟩ = some (.int .i64 p.block.r) := by go_simp
            have z4 : (w5.alloc (.cells #[.int .i64 p.at_.n, .int .i64 p.at_.r, .int .i64 p.block.n, .int .i64 p.block.r, .int .i64 p.under.n, .int .i64 p.under.r, .string p.key] 26)).cell? ⟨w5.heap.size, 4, none⟩ = some (.int .i64 p.under.n) := by go_simp
            have z5 : (w5.alloc (.cells #[.int .i64 p.at_.n, .int .i64 p.at_.r, .int .i64 p.block.n, .int .i64 p.block.r, .int .i64 p.under.n, .int .i64 p.under.r, .string p.key] 26)).cell? ⟨w5.heap.size, 5, none⟩ = some (.int .i64 p.under.r) := by go_simp
            have z6 : (w5.alloc (.cells #[.int .i64 p.at_.n, .int .i64 p.at_.r, .int .i64 p.block.n, .int .i64 p.block.r, .int .i64 p.under.n, .int .i64 p.under.r, .string p.key] 26)).cell? ⟨w5.heap.size, 6, none⟩ = some (.string p.key) := by go_simp
            have hgl := (ho.blk g6 rfl).2
            have HT5 := Lib.hid (hT5.below ((Below.refl _ _).alloc (Nat.le_refl _) (.cells #[.int .i64 p.at_.n, .int .i64 p.at_.r, .int .i64 p.block.n, .int .i64 p.block.r, .int .i64 p.under.n, .int .i64 p.under.r, .string p.key] 26)))
            have HF5 := Lib.hid (hF5.alloc (.cells #[.int .i64 p.at_.n, .int .i64 p.at_.r, .int .i64 p.block.n, .int .i64 p.block.r, .int .i64 p.under.n, .int .i64 p.under.r, .string p.key] 26))
            have hneb : ¬ w5.heap.size = g6 := by omega
            clear hT5 hF5 ho
            go_upto_region 16 with fail
            generalize w5.alloc (.cells #[.int .i64 p.at_.n, .int .i64 p.at_.r, .int .i64 p.block.n, .int .i64 p.block.r, .int .i64 p.under.n, .int .i64 p.under.r, .string p.key] 26) = wy at *
            clear p0 p1 p2 p3 p4 p5 p6 t0
            have t0 := HT5.out.c0
            have hoy := HT5.out.2.1
            have q0 := hoy.cellI (j := 0) RMv.len HPQ.out.2 rfl
            have r0 := hoy.cellI (j := 0) RMv.len HPQ.out.1 rfl
            have f0 := hoy.freeI (j * 7)
            have q1 := hoy.cellI (j := 1) RMv.len HPQ.out.2 rfl
            have r1 := hoy.cellI (j := 1) RMv.len HPQ.out.1 rfl
            have f1 := hoy.freeI (j * 7 + 1)
            have q2 := hoy.cellI (j := 2) RMv.len HPQ.out.2 rfl
            have r2 := hoy.cellI (j := 2) RMv.len HPQ.out.1 rfl
            have f2 := hoy.freeI (j * 7 + 2)
            have q3 := hoy.cellI (j := 3) RMv.len HPQ.out.2 rfl
            have r3 := hoy.cellI (j := 3) RMv.len HPQ.out.1 rfl
            have f3 := hoy.freeI (j * 7 + 3)
            have q4 := hoy.cellI (j := 4) RMv.len HPQ.out.2 rfl
            have r4 := hoy.cellI (j := 4) RMv.len HPQ.out.1 rfl
            have f4 := hoy.freeI (j * 7 + 4)
            have q5 := hoy.cellI (j := 5) RMv.len HPQ.out.2 rfl
            have r5 := hoy.cellI (j := 5) RMv.len HPQ.out.1 rfl
            have f5 := hoy.freeI (j * 7 + 5)
            have q6 := hoy.cellI (j := 6) RMv.len HPQ.out.2 rfl
            have r6 := hoy.cellI (j := 6) RMv.len HPQ.out.1 rfl
            have f6 := hoy.freeI (j * 7 + 6)
            simp only [Nat.add_zero] at q0 r0
            rw [HJQ.out] at q0 q1 q2 q3 q4 q5 q6
            have hje := HJE.out
            obtain ⟨wd, hwd⟩ : ∃ wd, wy.drew = wd := ⟨_, rfl⟩
            have hTd : RTree B wd rb (.slice (some ⟨g6, 0, none⟩) m cp6) zs := by rw [← hwd]; exact HT5.out.below (Below.refl _ _).drew
            have hFd : Ext (RTouch (.slice a L.length cap) rb) w wd := by rw [← hwd]; exact HF5.out.drew
            have hzd : wy.heap.size = wd.heap.size := by rw [← hwd]; rfl
            have hS0 : wd.cell? ⟨rb, 0, none⟩ = some (.slice (some ⟨g6, 0, none⟩) m cp6) ∧ wd.cell? ⟨g6, jq * 7, none⟩ = some (.int .i64 q.at_.n) ∧ wd.cell? ⟨g6, jq * 7 + 1, none⟩ = some (.int .i64 q.at_.r) ∧ wd.cell? ⟨g6, jq * 7 + 2, none⟩ = some (.int .i64 q.block.n) ∧ wd.cell? ⟨g6, jq * 7 + 3, none⟩ = some (.int .i64 q.block.r) ∧ wd.cell? ⟨g6, jq * 7 + 4, none⟩ = some (.int .i64 q.under.n) ∧ wd.cell? ⟨g6, jq * 7 + 5, none⟩ = some (.int .i64 q.under.r) ∧ wd.cell? ⟨g6, jq * 7 + 6, none⟩ = some (.string q.key) := by rw [← hwd]; exact ⟨t0, q0, q1, q2, q3, q4, q5, q6⟩
            have u0 : wd.cell? ⟨g6, j * 7, none⟩ = some (.int .i64 p.at_.n) := by rw [← hwd]; exact r0
            have v0 : wd.cell? ⟨w5.heap.size, 0, none⟩ = some (.int .i64 p.at_.n) := by rw [← hwd]; exact z0
            have u1 : wd.cell? ⟨g6, j * 7 + 1, none⟩ = some (.int .i64 p.at_.r) := by rw [← hwd]; exact r1
            have v1 : wd.cell? ⟨w5.heap.size, 1, none⟩ = some (.int .i64 p.at_.r) := by rw [← hwd]; exact z1
            have u2 : wd.cell? ⟨g6, j * 7 + 2, none⟩ = some (.int .i64 p.block.n) := by rw [← hwd]; exact r2
            have v2 : wd.cell? ⟨w5.heap.size, 2, none⟩ = some (.int .i64 p.block.n) := by rw [← hwd]; exact z2
            have u3 : wd.cell? ⟨g6, j * 7 + 3, none⟩ = some (.int .i64 p.block.r) := by rw [← hwd]; exact r3
            have v3 : wd.cell? ⟨w5.heap.size, 3, none⟩ = some (.int .i64 p.block.r) := by rw [← hwd]; exact z3
            have u4 : wd.cell? ⟨g6, j * 7 + 4, none⟩ = some (.int .i64 p.under.n) := by rw [← hwd]; exact r4
            have v4 : wd.cell? ⟨w5.heap.size, 4, none⟩ = some (.int .i64 p.under.n) := by rw [← hwd]; exact z4
            have u5 : wd.cell? ⟨g6, j * 7 + 5, none⟩ = some (.int .i64 p.under.r) := by rw [← hwd]; exact r5
            have v5 : wd.cell? ⟨w5.heap.size, 5, none⟩ = some (.int .i64 p.under.r) := by rw [← hwd]; exact z5
            have u6 : wd.cell? ⟨g6, j * 7 + 6, none⟩ = some (.string p.key) := by rw [← hwd]; exact r6
            have v6 : wd.cell? ⟨w5.heap.size, 6, none⟩ = some (.string p.key) := by rw [← hwd]; exact z6
            clear z0 r0 f0 q0 z1 r1 f1 q1 z2 r2 f2 q2 z3 r3 f3 q3 z4 r4 f4 q4 z5 r5 f5 q5 z6 r6 f6 q6
            clear t0 hoy
            have hoy := hTd.2.1
            have f0 := hoy.freeI (j * 7)
            have f1 := hoy.freeI (j * 7 + 1)
            have f2 := hoy.freeI (j * 7 + 2)
            have f3 := hoy.freeI (j * 7 + 3)
            have f4 := hoy.freeI (j * 7 + 4)
            have f5 := hoy.freeI (j * 7 + 5)
            have f6 := hoy.freeI (j * 7 + 6)
            have hx1 : Ext (· = g6) wd (((((((wd.setCell ⟨g6, j * 7, none⟩ (.int .i64 q.at_.n)).setCell ⟨g6, j * 7 + 1, none⟩ (.int .i64 q.at_.r)).setCell ⟨g6, j * 7 + 2, none⟩ (.int .i64 q.block.n)).setCell ⟨g6, j * 7 + 3, none⟩ (.int .i64 q.block.r)).setCell ⟨g6, j * 7 + 4, none⟩ (.int .i64 q.under.n)).setCell ⟨g6, j * 7 + 5, none⟩ (.int .i64 q.under.r)).setCell ⟨g6, j * 7 + 6, none⟩ (.string q.key)) := ext_putFrom (o := j * 7) (RMv.cells q) 0 wd
            have ho1 : Own RMv.cells 7 26 B (((((((wd.setCell ⟨g6, j * 7, none⟩ (.int .i64 q.at_.n)).setCell ⟨g6, j * 7 + 1, none⟩ (.int .i64 q.at_.r)).setCell ⟨g6, j * 7 + 2, none⟩ (.int .i64 q.block.n)).setCell ⟨g6, j * 7 + 3, none⟩ (.int .i64 q.block.r)).setCell ⟨g6, j * 7 + 4, none⟩ (.int .i64 q.under.n)).setCell ⟨g6, j * 7 + 5, none⟩ (.int .i64 q.under.r)).setCell ⟨g6, j * 7 + 6, none⟩ (.string q.key)) (.slice (some ⟨g6, 0, none⟩) m cp6) (zs.set j q) := slab_put1 (y := q) RMv.len (by omega) hzl hoy HPQ.out.1
            have hnrb : ¬ rb = g6 := fun e => by
              obtain ⟨cur, hcur⟩ := hoy.tag (b := g6) rfl
              rw [← e, hTd.1] at hcur
              cases hcur
            have hT1 : RTree B (((((((wd.setCell ⟨g6, j * 7, none⟩ (.int .i64 q.at_.n)).setCell ⟨g6, j * 7 + 1, none⟩ (.int .i64 q.at_.r)).setCell ⟨g6, j * 7 + 2, none⟩ (.int .i64 q.block.n)).setCell ⟨g6, j * 7 + 3, none⟩ (.int .i64 q.block.r)).setCell ⟨g6, j * 7 + 4, none⟩ (.int .i64 q.under.n)).setCell ⟨g6, j * 7 + 5, none⟩ (.int .i64 q.under.r)).setCell ⟨g6, j * 7 + 6, none⟩ (.string q.key)) rb (.slice (some ⟨g6, 0, none⟩) m cp6) (zs.set j q) := ⟨(hx1.block rb (Array.getElem?_eq_some_iff.1 hTd.1).1 hnrb).trans hTd.1, ho1, hTd.2.2⟩
            have hF1 : Ext (RTouch (.slice a L.length cap) rb) w (((((((wd.setCell ⟨g6, j * 7, none⟩ (.int .i64 q.at_.n)).setCell ⟨g6, j * 7 + 1, none⟩ (.int .i64 q.at_.r)).setCell ⟨g6, j * 7 + 2, none⟩ (.int .i64 q.block.n)).setCell ⟨g6, j * 7 + 3, none⟩ (.int .i64 q.block.r)).setCell ⟨g6, j * 7 + 4, none⟩ (.int .i64 q.under.n)).setCell ⟨g6, j * 7 + 5, none⟩ (.int .i64 q.under.r)).setCell ⟨g6, j * 7 + 6, none⟩ (.string q.key)) := by
              rcases hg6 with hg | hg
              · exact hFd.andThen hx1 (fun i hi e => by omega)
              · exact hFd.andThen hx1 (fun i hi e => by rw [e]; exact hg)
            have y0 := hx1.keep v0 hneb
            have y1 := hx1.keep v1 hneb
            have y2 := hx1.keep v2 hneb
            have y3 := hx1.keep v3 hneb
            have y4 := hx1.keep v4 hneb
            have y5 := hx1.keep v5 hneb
            have y6 := hx1.keep v6 hneb
            have HY0 := Lib.hid y0
            have HY1 := Lib.hid y1
            have HY2 := Lib.hid y2
            have HY3 := Lib.hid y3
            have HY4 := Lib.hid y4
            have HY5 := Lib.hid y5
            have HY6 := Lib.hid y6
            have HT1 := Lib.hid hT1
            have HF1 := Lib.hid hF1
            clear hx1 ho1 hT1 hF1 hoy hTd hFd v0 y0 v1 y1 v2 y2 v3 y3 v4 y4 v5 y5 v6 y6
            refine wp_region_s (fun W => W.cell? ⟨rb, 0, none⟩ = some (.slice (some ⟨g6, 0, none⟩) m cp6) ∧ W.cell? ⟨g6, jq * 7, none⟩ = some (.int .i64 q.at_.n) ∧ W.cell? ⟨g6, jq * 7 + 1, none⟩ = some (.int .i64 q.at_.r) ∧ W.cell? ⟨g6, jq * 7 + 2, none⟩ = some (.int .i64 q.block.n) ∧ W.cell? ⟨g6, jq * 7 + 3, none⟩ = some (.int .i64 q.block.r) ∧ W.cell? ⟨g6, jq * 7 + 4, none⟩ = some (.int .i64 q.under.n) ∧ W.cell? ⟨g6, jq * 7 + 5, none⟩ = some (.int .i64 q.under.r) ∧ W.cell? ⟨g6, jq * 7 + 6, none⟩ = some (.string q.key)) (fun i => i == 14) (by kernel_rfl) ?_
            rw [hwd]
            clear hwd HT5 HF5
            refine wpAnyS_take (i := 0) (d := some 109) rfl rfl rfl (by kernel_rfl) (by kernel_rfl) (by kernel_rfl) (by kernel_rfl) (fun _ _ _ h => h) (.inl ⟨by rfl, fun W hW => by go_simp; rfl⟩) hS0 ?_
            try simp only [Act.put, List.setIfInBounds_toArray, List.set_cons_zero, List.set_cons_succ]
            refine wpAnyS_take (i := 1) (d := some 110) rfl rfl rfl (by kernel_rfl) (by kernel_rfl) (by kernel_rfl) (by kernel_rfl) (fun _ _ _ h => h) (.inl ⟨by rfl, fun W hW => by go_simp; rfl⟩) hS0 ?_
            try simp only [Act.put, List.setIfInBounds_toArray, List.set_cons_zero, List.set_cons_succ]
            refine wpAnyS_take (i := 2) (d := some 111) rfl rfl rfl (by kernel_rfl) (by kernel_rfl) (by kernel_rfl) (by kernel_rfl) (fun _ _ _ h => h) (.inl ⟨by rfl, fun W hW => by go_simp; rfl⟩) hS0 ?_
            try simp only [Act.put, List.setIfInBounds_toArray, List.set_cons_zero, List.set_cons_succ]
            refine wpAnyS_take (i := 3) (d := some 112) rfl rfl rfl (by kernel_rfl) (by kernel_rfl) (by kernel_rfl) (by kernel_rfl) (fun _ _ _ h => h) (.inl ⟨by rfl, fun W hW => by obtain ⟨g10, g11, g12, g13, g14, g15, g16, g17⟩ := hW; go_simp; rfl⟩) hS0 ?_
            try simp only [Act.put, List.setIfInBounds_toArray, List.set_cons_zero, List.set_cons_succ]
            refine wpAnyS_take (i := 4) (d := some 113) rfl rfl rfl (by kernel_rfl) (by kernel_rfl) (by kernel_rfl) (by kernel_rfl) (fun _ _ _ h => h) (.inl ⟨by rfl, fun W hW => by go_simp; rfl⟩) hS0 ?_
            try simp only [Act.put, List.setIfInBounds_toArray, List.set_cons_zero, List.set_cons_succ]
            refine wpAnyS_take (i := 5) (d := some 114) rfl rfl rfl (by kernel_rfl) (by kernel_rfl) (by kernel_rfl) (by kernel_rfl) (fun _ _ _ h => h) (.inl ⟨by rfl, fun W hW => by go_simp; rfl⟩) hS0 ?_
            try simp only [Act.put, List.setIfInBounds_toArray, List.set_cons_zero, List.set_cons_succ]
            refine wpAnyS_take (i := 6) (d := some 115) rfl rfl rfl (by kernel_rfl) (by kernel_rfl) (by kernel_rfl) (by kernel_rfl) (fun _ _ _ h => h) (.inl ⟨by rfl, fun W hW => by go_simp; rfl⟩) hS0 ?_
            try simp only [Act.put, List.setIfInBounds_toArray, List.set_cons_zero, List.set_cons_succ]
            refine wpAnyS_take (i := 7) (d := some 116) rfl rfl rfl (by kernel_rfl) (by kernel_rfl) (by kernel_rfl) (by kernel_rfl) (fun _ _ _ h => h) (.inl ⟨by rfl, fun W hW => by go_simp; rfl⟩) hS0 ?_
            try simp only [Act.put, List.setIfInBounds_toArray, List.set_cons_zero, List.set_cons_succ]
            refine wpAnyS_take (i := 8) (d := some 117) rfl rfl rfl (by kernel_rfl) (by kernel_rfl) (by kernel_rfl) (by kernel_rfl) (fun _ _ _ h => h) (.inl ⟨by rfl, fun W hW => by obtain ⟨g10, g11, g12, g13, g14, g15, g16, g17⟩ := hW; go_simp; rfl⟩) hS0 ?_
            try simp only [Act.put, List.setIfInBounds_toArray, List.set_cons_zero, List.set_cons_succ]
            refine wpAnyS_take (i := 9) (d := some 118) rfl rfl rfl (by kernel_rfl) (by kernel_rfl) (by kernel_rfl) (by kernel_rfl) (fun _ _ _ h => h) (.inl ⟨by rfl, fun W hW => by go_simp; rfl⟩) hS0 ?_
            try simp only [Act.put, List.setIfInBounds_toArray, List.set_cons_zero, List.set_cons_succ]
            refine wpAnyS_take (i := 10) (d := some 119) rfl rfl rfl (by kernel_rfl) (by kernel_rfl) (by kernel_rfl) (by kernel_rfl) (fun _ _ _ h => h) (.inl ⟨by rfl, fun W hW => by go_simp; rfl⟩) hS0 ?_
            try simp only [Act.put, List.setIfInBounds_toArray, List.set_cons_zero, List.set_cons_succ]
            refine wpAnyS_take (i := 11) (d := some 120) rfl rfl rfl (by kernel_rfl) (by kernel_rfl) (by kernel_rfl) (by kernel_rfl) (fun _ _ _ h => h) (.inl ⟨by rfl, fun W hW => by go_simp; rfl⟩) hS0 ?_
            try simp only [Act.put, List.setIfInBounds_toArray, List.set_cons_zero, List.set_cons_succ]
            refine wpAnyS_take (i := 12) (d := some 121) rfl rfl rfl (by kernel_rfl) (by kernel_rfl) (by kernel_rfl) (by kernel_rfl) (fun _ _ _ h => h) (.inl ⟨by rfl, fun W hW => by obtain ⟨g10, g11, g12, g13, g14, g15, g16, g17⟩ := hW; go_simp; rfl⟩) hS0 ?_
            try simp only [Act.put, List.setIfInBounds_toArray, List.set_cons_zero, List.set_cons_succ]
            refine wpAnyS_take (i := 13) (d := some 122) rfl rfl rfl (by kernel_rfl) (by kernel_rfl) (by kernel_rfl) (by kernel_rfl) (fun _ _ _ h => h) (.inl ⟨by rfl, fun W hW => by go_simp; rfl⟩) hS0 ?_
            try simp only [Act.put, List.setIfInBounds_toArray, List.set_cons_zero, List.set_cons_succ]
            refine wpAnyS_mute (i := 14) (d := none) (w' := (((((((wd.setCell ⟨g6, j * 7, none⟩ (.int .i64 q.at_.n)).setCell ⟨g6, j * 7 + 1, none⟩ (.int .i64 q.at_.r)).setCell ⟨g6, j * 7 + 2, none⟩ (.int .i64 q.block.n)).setCell ⟨g6, j * 7 + 3, none⟩ (.int .i64 q.block.r)).setCell ⟨g6, j * 7 + 4, none⟩ (.int .i64 q.under.n)).setCell ⟨g6, j * 7 + 5, none⟩ (.int .i64 q.under.r)).setCell ⟨g6, j * 7 + 6, none⟩ (.string q.key))) (by kernel_rfl) rfl rfl (by rfl) (by go_simp; try rfl) (fun h => by cases h) ?_
            try simp only [Act.put, List.setIfInBounds_toArray, List.set_cons_zero, List.set_cons_succ]
            refine wpAnyS_done (by kernel_rfl) ?_ _
            generalize (((((((wd.setCell ⟨g6, j * 7, none⟩ (.int .i64 q.at_.n)).setCell ⟨g6, j * 7 + 1, none⟩ (.int .i64 q.at_.r)).setCell ⟨g6, j * 7 + 2, none⟩ (.int .i64 q.block.n)).setCell ⟨g6, j * 7 + 3, none⟩ (.int .i64 q.block.r)).setCell ⟨g6, j * 7 + 4, none⟩ (.int .i64 q.under.n)).setCell ⟨g6, j * 7 + 5, none⟩ (.int .i64 q.under.r)).setCell ⟨g6, j * 7 + 6, none⟩ (.string q.key)) = wz at *
            clear hS0 u0 f0 u1 f1 u2 f2 u3 f3 u4 f4 u5 f5 u6 f6
            go_upto_region 17 with fail
            have t0 := HT1.out.c0
            obtain ⟨we, hwe⟩ : ∃ we, wz.drew = we := ⟨_, rfl⟩
            have hTd : RTree B we rb (.slice (some ⟨g6, 0, none⟩) m cp6) (zs.set j q) := by rw [← hwe]; exact HT1.out.below (Below.refl _ _).drew
            have hFd : Ext (RTouch (.slice a L.length cap) rb) w we := by rw [← hwe]; exact HF1.out.drew
            have hS0 : we.cell? ⟨rb, 0, none⟩ = some (.slice (some ⟨g6, 0, none⟩) m cp6) ∧ we.cell? ⟨w5.heap.size, 0, none⟩ = some (.int .i64 p.at_.n) ∧ we.cell? ⟨w5.heap.size, 1, none⟩ = some (.int .i64 p.at_.r) ∧ we.cell? ⟨w5.heap.size, 2, none⟩ = some (.int .i64 p.block.n) ∧ we.cell? ⟨w5.heap.size, 3, none⟩ = some (.int .i64 p.block.r) ∧ we.cell? ⟨w5.heap.size, 4, none⟩ = some (.int .i64 p.under.n) ∧ we.cell? ⟨w5.heap.size, 5, none⟩ = some (.int .i64 p.under.r) ∧ we.cell? ⟨w5.heap.size, 6, none⟩ = some (.string p.key) := by rw [← hwe]; exact ⟨t0, HY0.out, HY1.out, HY2.out, HY3.out, HY4.out, HY5.out, HY6.out⟩
            have hoy := hTd.2.1
            have hq1 : (zs.set j q)[jq]? = some q := by rw [List.getElem?_set, if_neg (by have := HJQ.out; omega), ← HJQ.out]; exact HPQ.out.2
            have u0 := hoy.cellI (j := 0) RMv.len hq1 rfl
            have f0 := hoy.freeI (jq * 7)
            have u1 := hoy.cellI (j := 1) RMv.len hq1 rfl
            have f1 := hoy.freeI (jq * 7 + 1)
            have u2 := hoy.cellI (j := 2) RMv.len hq1 rfl
            have f2 := hoy.freeI (jq * 7 + 2)
            have u3 := hoy.cellI (j := 3) RMv.len hq1 rfl
            have f3 := hoy.freeI (jq * 7 + 3)
            have u4 := hoy.cellI (j := 4) RMv.len hq1 rfl
            have f4 := hoy.freeI (jq * 7 + 4)
            have u5 := hoy.cellI (j := 5) RMv.len hq1 rfl
            have f5 := hoy.freeI (jq * 7 + 5)
            have u6 := hoy.cellI (j := 6) RMv.len hq1 rfl
            have f6 := hoy.freeI (jq * 7 + 6)
            simp only [Nat.add_zero] at u0
            have hx2 : Ext (· = g6) we (((((((we.setCell ⟨g6, jq * 7, none⟩ (.int .i64 p.at_.n)).setCell ⟨g6, jq * 7 + 1, none⟩ (.int .i64 p.at_.r)).setCell ⟨g6, jq * 7 + 2, none⟩ (.int .i64 p.block.n)).setCell ⟨g6, jq * 7 + 3, none⟩ (.int .i64 p.block.r)).setCell ⟨g6, jq * 7 + 4, none⟩ (.int .i64 p.under.n)).setCell ⟨g6, jq * 7 + 5, none⟩ (.int .i64 p.under.r)).setCell ⟨g6, jq * 7 + 6, none⟩ (.string p.key)) := ext_putFrom (o := jq * 7) (RMv.cells p) 0 we
            have ho2 : Own RMv.cells 7 26 B (((((((we.setCell ⟨g6, jq * 7, none⟩ (.int .i64 p.at_.n)).setCell ⟨g6, jq * 7 + 1, none⟩ (.int .i64 p.at_.r)).setCell ⟨g6, jq * 7 + 2, none⟩ (.int .i64 p.block.n)).setCell ⟨g6, jq * 7 + 3, none⟩ (.int .i64 p.block.r)).setCell ⟨g6, jq * 7 + 4, none⟩ (.int .i64 p.under.n)).setCell ⟨g6, jq * 7 + 5, none⟩ (.int .i64 p.under.r)).setCell ⟨g6, jq * 7 + 6, none⟩ (.string p.key)) (.slice (some ⟨g6, 0, none⟩) m cp6) ((zs.set j q).set jq p) := slab_put1 (y := p) RMv.len (by omega) (by rw [List.length_set]; exact hzl) hoy hq1
            have hT2 : RTree B (((((((we.setCell ⟨g6, jq * 7, none⟩ (.int .i64 p.at_.n)).setCell ⟨g6, jq * 7 + 1, none⟩ (.int .i64 p.at_.r)).setCell ⟨g6, jq * 7 + 2, none⟩ (.int .i64 p.block.n)).setCell ⟨g6, jq * 7 + 3, none⟩ (.int .i64 p.block.r)).setCell ⟨g6, jq * 7 + 4, none⟩ (.int .i64 p.under.n)).setCell ⟨g6, jq * 7 + 5, none⟩ (.int .i64 p.under.r)).setCell ⟨g6, jq * 7 + 6, none⟩ (.string p.key)) rb (.slice (some ⟨g6, 0, none⟩) m cp6) (exchR zs j p q) := ⟨(hx2.block rb (Array.getElem?_eq_some_iff.1 hTd.1).1 hnrb).trans hTd.1, by unfold exchR; rw [HJQ.out]; exact ho2, hTd.2.2⟩
            have hF2 : Ext (RTouch (.slice a L.length cap) rb) w (((((((we.setCell ⟨g6, jq * 7, none⟩ (.int .i64 p.at_.n)).setCell ⟨g6, jq * 7 + 1, none⟩ (.int .i64 p.at_.r)).setCell ⟨g6, jq * 7 + 2, none⟩ (.int .i64 p.block.n)).setCell ⟨g6, jq * 7 + 3, none⟩ (.int .i64 p.block.r)).setCell ⟨g6, jq * 7 + 4, none⟩ (.int .i64 p.under.n)).setCell ⟨g6, jq * 7 + 5, none⟩ (.int .i64 p.under.r)).setCell ⟨g6, jq * 7 + 6, none⟩ (.string p.key)) := by
              rcases hg6 with hg | hg
              · exact hFd.andThen hx2 (fun i hi e => by omega)
              · exact hFd.andThen hx2 (fun i hi e => by rw [e]; exact hg)
            have HN := Lib.hid (And.intro HSW.out (And.intro hT2 hF2))
            clear hx2 ho2 hT2 hF2 hoy hTd hFd t0 HT1 HF1 hq1 HY0 HY1 HY2 HY3 HY4 HY5 HY6
            refine wp_region_s (fun W => W.cell? ⟨rb, 0, none⟩ = some (.slice (some ⟨g6, 0, none⟩) m cp6) ∧ W.cell? ⟨w5.heap.size, 0, none⟩ = some (.int .i64 p.at_.n) ∧ W.cell? ⟨w5.heap.size, 1, none⟩ = some (.int .i64 p.at_.r) ∧ W.cell? ⟨w5.heap.size, 2, none⟩ = some (.int .i64 p.block.n) ∧ W.cell? ⟨w5.heap.size, 3, none⟩ = some (.int .i64 p.block.r) ∧ W.cell? ⟨w5.heap.size, 4, none⟩ = some (.int .i64 p.under.n) ∧ W.cell? ⟨w5.heap.size, 5, none⟩ = some (.int .i64 p.under.r) ∧ W.cell? ⟨w5.heap.size, 6, none⟩ = some (.string p.key)) (fun i => i == 8) (by kernel_rfl) ?_
            rw [hwe]
            clear hwe
            refine wpAnyS_take (i := 0) (d := some 123) rfl rfl rfl (by kernel_rfl) (by kernel_rfl) (by kernel_rfl) (by kernel_rfl) (fun _ _ _ h => h) (.inl ⟨by rfl, fun W hW => by go_simp; rfl⟩) hS0 ?_
            try simp only [Act.put, List.setIfInBounds_toArray, List.set_cons_zero, List.set_cons_succ]
            refine wpAnyS_take (i := 1) (d := some 124) rfl rfl rfl (by kernel_rfl) (by kernel_rfl) (by kernel_rfl) (by kernel_rfl) (fun _ _ _ h => h) (.inl ⟨by rfl, fun W hW => by go_simp; rfl⟩) hS0 ?_
            try simp only [Act.put, List.setIfInBounds_toArray, List.set_cons_zero, List.set_cons_succ]
            refine wpAnyS_take (i := 2) (d := some 125) rfl rfl rfl (by kernel_rfl) (by kernel_rfl) (by kernel_rfl) (by kernel_rfl) (fun _ _ _ h => h) (.inl ⟨by rfl, fun W hW => by go_simp; rfl⟩) hS0 ?_
            try simp only [Act.put, List.setIfInBounds_toArray, List.set_cons_zero, List.set_cons_succ]
            refine wpAnyS_take (i := 3) (d := some 126) rfl rfl rfl (by kernel_rfl) (by kernel_rfl) (by kernel_rfl) (by kernel_rfl) (fun _ _ _ h => h) (.inl ⟨by rfl, fun W hW => by obtain ⟨g10, g11, g12, g13, g14, g15, g16, g17⟩ := hW; go_simp; rfl⟩) hS0 ?_
            try simp only [Act.put, List.setIfInBounds_toArray, List.set_cons_zero, List.set_cons_succ]
            refine wpAnyS_take (i := 4) (d := some 127) rfl rfl rfl (by kernel_rfl) (by kernel_rfl) (by kernel_rfl) (by kernel_rfl) (fun _ _ _ h => h) (.inl ⟨by rfl, fun W hW => by go_simp; rfl⟩) hS0 ?_
            try simp only [Act.put, List.setIfInBounds_toArray, List.set_cons_zero, List.set_cons_succ]
            refine wpAnyS_take (i := 5) (d := some 128) rfl rfl rfl (by kernel_rfl) (by kernel_rfl) (by kernel_rfl) (by kernel_rfl) (fun _ _ _ h => h) (.inl ⟨by rfl, fun W hW => by go_simp; rfl⟩) hS0 ?_
            try simp only [Act.put, List.setIfInBounds_toArray, List.set_cons_zero, List.set_cons_succ]
            refine wpAnyS_take (i := 6) (d := some 129) rfl rfl rfl (by kernel_rfl) (by kernel_rfl) (by kernel_rfl) (by kernel_rfl) (fun _ _ _ h => h) (.inl ⟨by rfl, fun W hW => by obtain ⟨g10, g11, g12, g13, g14, g15, g16, g17⟩ := hW; go_simp; rfl⟩) hS0 ?_
            try simp only [Act.put, List.setIfInBounds_toArray, List.set_cons_zero, List.set_cons_succ]
            refine wpAnyS_take (i := 7) (d := some 130) rfl rfl rfl (by kernel_rfl) (by kernel_rfl) (by kernel_rfl) (by kernel_rfl) (fun _ _ _ h => h) (.inl ⟨by rfl, fun W hW => by go_simp; rfl⟩) hS0 ?_
            try simp only [Act.put, List.setIfInBounds_toArray, List.set_cons_zero, List.set_cons_succ]
            refine wpAnyS_mute (i := 8) (d := none) (w' := (((((((we.setCell ⟨g6, jq * 7, none⟩ (.int .i64 p.at_.n)).setCell ⟨g6, jq * 7 + 1, none⟩ (.int .i64 p.at_.r)).setCell ⟨g6, jq * 7 + 2, none⟩ (.int .i64 p.block.n)).setCell ⟨g6, jq * 7 + 3, none⟩ (.int .i64 p.block.r)).setCell ⟨g6, jq * 7 + 4, none⟩ (.int .i64 p.under.n)).setCell ⟨g6, jq * 7 + 5, none⟩ (.int .i64 p.under.r)).setCell ⟨g6, jq * 7 + 6, none⟩ (.string p.key))) (by kernel_rfl) rfl rfl (by rfl) (by go_simp; try rfl) (fun h => by cases h) ?_
            try simp only [Act.put, List.setIfInBounds_toArray, List.set_cons_zero, List.set_cons_succ]
            refine wpAnyS_done (by kernel_rfl) ?_ _
            generalize (((((((we.setCell ⟨g6, jq * 7, none⟩ (.int .i64 p.at_.n)).setCell ⟨g6, jq * 7 + 1, none⟩ (.int .i64 p.at_.r)).setCell ⟨g6, jq * 7 + 2, none⟩ (.int .i64 p.block.n)).setCell ⟨g6, jq * 7 + 3, none⟩ (.int .i64 p.block.r)).setCell ⟨g6, jq * 7 + 4, none⟩ (.int .i64 p.under.n)).setCell ⟨g6, jq * 7 + 5, none⟩ (.int .i64 p.under.r)).setCell ⟨g6, jq * 7 + 6, none⟩ (.string p.key)) = wq at *
            clear hS0 hje u0 f0 u1 f1 u2 f2 u3 f3 u4 f4 u5 f5 u6 f6
            have hjz : ((j - 1 : Nat) : Int) = (j : Int) - 1 := by omega
            go_wp2_with fail
            go_roundg (j - 1)
            case measure => rw [HGJ.out]; omega
            case rel => exact ⟨j - 1, _, rfl, by omega, by simp; omega, by rw [exchR_len]; exact hzl, Lib.hid (by rw [exchR_at zs hj0 HPQ.out.1 HPQ.out.2, if_pos rfl, ← HPQ.out.1, hzx.out]), HN⟩
          · have HN1 := hend _ HB5.out (hV.out.1.stands rlt_trans (fun x' y' _ hx' hy' => by
              rw [HPQ.out.1] at hx'; rw [HPQ.out.2] at hy'; cases hx'; cases hy'
              have hpx : p = y := by have := hzx.out; rw [HPQ.out.1] at this; exact Option.some.inj this
              have hqM : q ∈ L := by
                have h1 := hV.out.1.perm.mem_iff.1 (List.mem_of_getElem? HPQ.out.2)
                rcases List.mem_append.1 h1 with h1 | h1
                · exact h1
                · have hnd := hV.out.1.perm.nodup_iff.2 HND.out.1
                  have hq := HPQ.out.2
                  rw [List.mem_singleton.1 h1, ← hpx] at hq
                  exact absurd rfl (pairR_get.1 hnd (j - 1) j p p (by omega) hq HPQ.out.1)
              rcases stLt_total q.at_ p.at_ with t | t | t
              · exact t
              · exact absurd (by rw [t, hpx]) (HND.out.2 q hqM)
              · exact absurd (HVV.out.2 t) hlt))
            clear hV hend HVV HCM
            go_wp2_with fail
            go_ret
            exact HN1.out
        · have HN0 := Lib.hid (fun n => (hend (wr.drewN n) (below_drewN (Below.refl _ _) n) (hV.out.1.stands rlt_trans (fun x y h0 _ _ => absurd h0 hj0))).out)
          have hj1 : ¬ (0 : Int) < (j : Int) := by omega
          clear hV hend
          go_upto_region 13 with fail
          go_quiet (fail)
          have HN1 := Lib.hid (HN0.out nq)
          go_wp2_with fail
          go_ret
          exact HN1.out

end Go.Proofs.Ytilonmpcifohiaa

namespace Go.Proofs.Ytilonmpcifohiaa
open Go.RowKit
set_option linter.unusedSimpArgs false
set_option linter.unusedVariables false

section
variable {B : Nat} {w : World} {rb : Nat} {v : Value} {L : List RMv} {c : List (St × Ch)}

/-- Any move. -/
theorem rmove_any (a b u : St) (key : ByteArray) (h : RTree B w rb v L) (hBw : B ≤ w.heap.size) (hc : CoreOf L c) (hl : L.length ≤ 900) :
    Calls Try.prog 17 #[.pointer (some ⟨rb, 0, none⟩), .agg #[.int .i64 a.n, .int .i64 a.r], .agg #[.int .i64 b.n, .int .i64 b.r], .agg #[.int .i64 u.n, .int .i64 u.r], .string key] w fun e w' => RMovePost B w rb v c a b u key e w' := by
  have hbad : goodB a b u = false → ∀ (e : Ending) w', (e = .returned (.int .i64 1) ∧ Below w.heap.size w w') → RMovePost B w rb v c a b u key e w' := fun hg e w' ⟨he, hb⟩ => by
    have e1 : moveCode c a b u = 1 := by unfold moveCode; rw [if_neg (by rw [hg]; decide)]
    exact ⟨v, L, by rw [he, e1], h.below hb, by rw [add_not (by rw [show moveCode c a (Ch.mk b u key).block (Ch.mk b u key).under = 1 from e1]; decide)]; exact hc, Ext.of_below hb⟩
  obtain ⟨an, ar⟩ := a
  obtain ⟨bn, br⟩ := b
  obtain ⟨un, ur⟩ := u
  cases h1 : rightB ⟨an, ar⟩ with
  | false => exact (rmove_bad1 rb an ar bn br un ur key w h1).mono (hbad (by simp [goodB, h1]))
  | true =>
    cases h2 : rightB ⟨bn, br⟩ with
    | false => exact (rmove_bad2 rb an ar bn br un ur key w h1 h2).mono (hbad (by simp [goodB, h2]))
    | true =>
      cases h3 : rightB ⟨un, ur⟩ with
      | true => exact rmove_good rb v L an ar bn br un ur key w h hBw hc hl h1 h2 (.inr h3)
      | false =>
        by_cases hu : un = 0
        · subst hu
          by_cases hr : ur = 0
          · subst hr
            exact rmove_good rb v L an ar bn br 0 0 key w h hBw hc hl h1 h2 (.inl ⟨rfl, rfl⟩)
          · exact (rmove_bad4 rb an ar bn br ur key w h1 h2 h3 hr).mono (hbad (by simp [goodB, h3, hr]))
        · exact (rmove_bad3 rb an ar bn br un ur key w h1 h2 h3 hu).mono (hbad (by simp [goodB, h3, hu]))

/-- What All answers. -/
def AllPost (w : World) (c : List (St × Ch)) (e : Ending) (w' : World) : Prop := ∃ v' A, e = .returned v' ∧ Own Ch.cells 5 36 w.heap.size w' v' A ∧ AllOf (hang c) A ∧ Below w.heap.size w w'
set_option maxRecDepth 100000 in
set_option maxHeartbeats 4000000 in
theorem rall_any (h : RTree B w rb v L) (hc : CoreOf L c) (hl : L.length ≤ 1000) :
    Calls Try.prog 21 #[.pointer (some ⟨rb, 0, none⟩)] w fun e w' => AllPost w c e w' := by
  obtain ⟨a, cap, rfl, hcap, hmax, _⟩ := h.2.1.slice RMv.len
  unfold maxLen at hmax
  have t0 := h.c0
  have HA := Lib.hid (rafter_any rb _ L w h hc hl)
  clear h hc
  go_enter Try.func21, Try.ntmps21
  go_wp2_with fail
  refine HA.out.mono ?_
  rintro e w1 ⟨v1, v2, A, rfl, h1, h2, h3, h4⟩
  have HN := Lib.hid (And.intro h1 (And.intro h2 h4))
  clear h1 h2 h3 h4
  go_wp2_with fail
  go_ret
  exact ⟨_, A, rfl, HN.out.1, HN.out.2.1, HN.out.2.2⟩

set_option maxRecDepth 100000 in
set_option maxHeartbeats 4000000 in
theorem rkids_any (un ur : Int) (h : RTree B w rb v L) (hc : CoreOf L c) (hl : L.length ≤ 1000) :
    Calls Try.prog 24 #[.pointer (some ⟨rb, 0, none⟩), .agg #[.int .i64 un, .int .i64 ur]] w fun e w' => UnderPost w (hang c) ⟨un, ur⟩ e w' := by
  have q0 : (w.alloc (.cells #[.int .i64 un, .int .i64 ur] 24)).cell? ⟨w.heap.size, 0, none⟩ = some (.int .i64 un) := by go_simp
  have q1 : (w.alloc (.cells #[.int .i64 un, .int .i64 ur] 24)).cell? ⟨w.heap.size, 1, none⟩ = some (.int .i64 ur) := by go_simp
  have hB0 : Below w.heap.size w (w.alloc (.cells #[.int .i64 un, .int .i64 ur] 24)) := (Below.refl _ _).alloc (Nat.le_refl _) _
  have HT := Lib.hid (h.below hB0)
  have HB0 := Lib.hid hB0
  have HC := Lib.hid hc
  have HL := Lib.hid hc.len
  clear h hB0 hc
  go_enter Try.func24, Try.ntmps24
  go_upto_region 1 with fail
  generalize w.alloc (.cells #[.int .i64 un, .int .i64 ur] 24) = w1 at *
  have HAL := Lib.hid (rall_any (HT.out.below (Below.refl _ _).drew) HC.out hl)
  have HUN := Lib.hid (fun (W : World) (va : Value) (A : List Ch) (ho : Own Ch.cells 5 36 w1.heap.size W va A) (ha : AllOf (hang c) A) => runder_any va A un ur W (ho.slice Ch.len) (by
    have h0 : AllOf (play (c.map (·.2))) A := ha
    have := h0.length
    rw [List.length_map] at this
    have := HL.out
    omega) ha)
  clear HT HC HL
  go_region_held3 (fun W => W.cell? ⟨w.heap.size, 0, none⟩ = some (.int .i64 un) ∧ W.cell? ⟨w.heap.size, 1, none⟩ = some (.int .i64 ur)) (first | exact ⟨q0, q1⟩ | exact ⟨keepB HB3.out q0, keepB HB3.out q1⟩ | exact ⟨keepB HB2.out q0, keepB HB2.out q1⟩) (first
    | (go_at_call 21; ((with_reducible refine HAL.out.mono ?_); rintro e w2 ⟨v2, A, rfl, ho2, ha2, b2⟩; simp only [heap_drew, below_drew] at ho2 b2; have HO2 := Lib.hid ho2; have HA2 := Lib.hid ha2; have HB2 := Lib.hid b2; clear ho2 ha2 b2))
    | (go_at_call 43; ((with_reducible refine (HUN.out _ _ _ HO2.out HA2.out).mono ?_); rintro e w3 ⟨v3, K, rfl, ho3, hk3, b3⟩; have HO3 := Lib.hid ho3; have HK3 := Lib.hid hk3; have HB3 := Lib.hid (HB2.out.trans (b3.mono HB2.out.size)); clear ho3 hk3 b3)))
  all_goals
    have hsz := HB2.out.size
    have HN := Lib.hid (And.intro (HO3.out.mono (Nat.le_trans HB0.out.size hsz)) (HB0.out.trans (HB3.out.mono HB0.out.size)))
    clear hsz
    go_wp2_with fail
    go_ret
    exact ⟨_, K, rfl, HN.out.1, HK3.out, HN.out.2⟩

/-- Where a block hangs, and whether it does. -/
def prtH (h : Hang) (b : St) : Ch × Bool := match h b with
  | some x => (x, true)
  | none => (zeroCh, false)
/-- What Parent answers. -/
def PrtPost (w : World) (c : List (St × Ch)) (b : St) (e : Ending) (w' : World) : Prop :=
  e = .returned (.tuple #[.agg #[.int .i64 (prtH (hang c) b).1.block.n, .int .i64 (prtH (hang c) b).1.block.r, .int .i64 (prtH (hang c) b).1.under.n, .int .i64 (prtH (hang c) b).1.under.r, .string (prtH (hang c) b).1.key], .bool (prtH (hang c) b).2]) ∧ Below w.heap.size w w'
end

set_option maxRecDepth 100000 in
set_option maxHeartbeats 4000000 in
theorem rparent_any {B : Nat} {w : World} {rb : Nat} {v : Value} {L : List RMv} {c : List (St × Ch)} (bn br : Int) (h : RTree B w rb v L) (hc : CoreOf L c) (hl : L.length ≤ 1000) :
    Calls Try.prog 18 #[.pointer (some ⟨rb, 0, none⟩), .agg #[.int .i64 bn, .int .i64 br]] w fun e w' => PrtPost w c ⟨bn, br⟩ e w' := by
  obtain ⟨W0, hW0⟩ : ∃ W0, (w.alloc (.cells #[.int .i64 bn, .int .i64 br] 24)).alloc (.cells #[.int .i64 0, .int .i64 0, .int .i64 0, .int .i64 0, .string ⟨#[]⟩] 36) = W0 := ⟨_, rfl⟩
  have i4 : W0.cell? ⟨w.heap.size, 0, none⟩ = some (.int .i64 bn) := by subst hW0; go_simp
  have i5 : W0.cell? ⟨w.heap.size, 1, none⟩ = some (.int .i64 br) := by subst hW0; go_simp
  have hb : Below w.heap.size w W0 := by subst hW0; exact ((Below.refl _ _).alloc (Nat.le_refl _) _).alloc (by simp) _
  have hz : w.heap.size + 1 < W0.heap.size := by subst hW0; simp
  have e0 : W0.cell? ⟨w.heap.size + 1, 0, none⟩ = some (.int .i64 0) := by subst hW0; go_simp
  have e1 : W0.cell? ⟨w.heap.size + 1, 1, none⟩ = some (.int .i64 0) := by subst hW0; go_simp
  have e2 : W0.cell? ⟨w.heap.size + 1, 2, none⟩ = some (.int .i64 0) := by subst hW0; go_simp
  have e3 : W0.cell? ⟨w.heap.size + 1, 3, none⟩ = some (.int .i64 0) := by subst hW0; go_simp
  have e4 : W0.cell? ⟨w.heap.size + 1, 4, none⟩ = some (.string ⟨#[]⟩) := by subst hW0; go_simp
  have g0 : ∀ W, Below W0.heap.size W0 W → W.frozen? ⟨w.heap.size + 1, 0, none⟩ = false ∧ W.frozen? ⟨w.heap.size + 1, 1, none⟩ = false ∧ W.frozen? ⟨w.heap.size + 1, 2, none⟩ = false ∧ W.frozen? ⟨w.heap.size + 1, 3, none⟩ = false ∧ W.frozen? ⟨w.heap.size + 1, 4, none⟩ = false := fun W hW => by
    refine ⟨?_, ?_, ?_, ?_, ?_⟩ <;> (rw [hW.frozen (p := ⟨w.heap.size + 1, _, none⟩) hz]; subst hW0; go_simp)
  have HT := Lib.hid (h.below hb)
  have HB0 := Lib.hid hb
  have HC := Lib.hid hc
  have HL := Lib.hid hc.len
  have HG0 := Lib.hid g0
  have HAL := Lib.hid (rall_any HT.out HC.out hl)
  clear h hb hc g0
  subst hW0
  go_enter Try.func18, Try.ntmps18
  go_upto_region 1 with fail
  generalize (w.alloc (.cells #[.int .i64 bn, .int .i64 br] 24)).alloc (.cells #[.int .i64 0, .int .i64 0, .int .i64 0, .int .i64 0, .string ⟨#[]⟩] 36) = W0 at *
  go_wp2_with fail
  refine HAL.out.mono ?_
  rintro e w2 ⟨v2, A, rfl, ho2, ha2, b2⟩
  replace i4 := keepB b2 i4
  replace i5 := keepB b2 i5
  have HO2 := Lib.hid ho2
  have HA2 := Lib.hid ha2
  have hal : A.length ≤ 1000 := by
    have h0 : AllOf (play (c.map (·.2))) A := ha2
    have := h0.length
    rw [List.length_map] at this
    have := HL.out
    omega
  have hfd := ha2.find (hang_keyed c) (b := ⟨bn, br⟩)
  have HFD := Lib.hid hfd
  have HFI := Lib.hid (rfind_any v2 A bn br w2 (ho2.slice Ch.len) (by omega))
  have HB2 := Lib.hid b2
  obtain ⟨⟨va, vn, vc⟩, e9⟩ : ∃ s : SlK, v2 = .slice s.a s.n s.cap := by
    rcases ho2.eq_slice with ⟨e, _⟩ | ⟨g, c, e, _⟩
    · exact ⟨⟨_, _, _⟩, e⟩
    · exact ⟨⟨_, _, _⟩, e⟩
  dsimp only at e9
  subst e9
  clear ho2 ha2 b2 hfd
  go_wp2_with fail
  refine HFI.out.mono ?_
  rintro e w3 ⟨rfl, b3⟩
  have hb3 := HB2.out.trans (b3.mono HB2.out.size)
  obtain ⟨g0, g1, g2, g3, g4⟩ := HG0.out w3 hb3
  replace e0 := keepB hb3 e0
  replace e1 := keepB hb3 e1
  replace e2 := keepB hb3 e2
  replace e3 := keepB hb3 e3
  replace e4 := keepB hb3 e4
  have hO3 := HO2.out.ext (Ext.of_below (S := fun _ => False) b3) (fun _ _ h => h)
  have HB3 := Lib.hid (HB0.out.trans (hb3.mono HB0.out.size))
  clear i4 i5 b3 hb3 HFI
  rcases HFD.out with ⟨f1, f2⟩ | ⟨i, y, f1, f2, f3, f4⟩
  · have hfi : findI A ⟨bn, br⟩ = -1 := by unfold findI; rw [f1]
    rw [hfi]
    have HP : Hid (prtH (hang c) ⟨bn, br⟩ = (zeroCh, false)) := Lib.hid (by unfold prtH; rw [f2])
    clear hfi f1 f2 hO3 HFD
    go_wp2_with fail
    (try simp only [Exit.inBlock, Exit.then])
    refine bodyPost_ret (v := .tuple #[.agg #[.int .i64 0, .int .i64 0, .int .i64 0, .int .i64 0, .string ⟨#[]⟩], .bool false]) (by rw [results_cell_tmp rfl]; go_simp) rfl ?_
    refine ⟨by rw [HP.out]; rfl, ?_⟩
    exact ((((HB3.out.setCell (p := ⟨w.heap.size + 1, 0, none⟩) (by simp) _).setCell (p := ⟨w.heap.size + 1, 1, none⟩) (by simp) _).setCell (p := ⟨w.heap.size + 1, 2, none⟩) (by simp) _).setCell (p := ⟨w.heap.size + 1, 3, none⟩) (by simp) _).setCell (p := ⟨w.heap.size + 1, 4, none⟩) (by simp) _
  · have hfi : findI A ⟨bn, br⟩ = (i : Int) := by unfold findI; rw [f1]
    rw [hfi]
    have HP : Hid (prtH (hang c) ⟨bn, br⟩ = (y, true)) := Lib.hid (by unfold prtH; rw [f3])
    have hil := (List.getElem?_eq_some_iff.1 f2).1
    obtain ⟨b, o, c1, e9, h1⟩ := (hO3.slice Ch.len).dcells (by intro e; rw [e] at hil; simp at hil)
    cases e9
    obtain ⟨y0, y1, y2, y3, y4⟩ := h1 i y f2
    have hi0 : (0 : Int) ≤ (i : Int) := by omega
    have hi1 : (i : Int) < (A.length : Int) := by omega
    obtain ⟨_, _, e10, hcc, hmm, _⟩ := hO3.slice Ch.len
    cases e10
    unfold maxLen at hmm
    clear hfi f1 f2 f3 f4 hO3 HFD h1
    go_wp2_with fail
    (try simp only [Exit.inBlock, Exit.then])
    refine bodyPost_ret (v := .tuple #[.agg #[.int .i64 y.block.n, .int .i64 y.block.r, .int .i64 y.under.n, .int .i64 y.under.r, .string y.key], .bool true]) (by rw [results_cell_tmp rfl]; go_simp) rfl ?_
    refine ⟨by rw [HP.out], ?_⟩
    exact ((((HB3.out.setCell (p := ⟨w.heap.size + 1, 0, none⟩) (by simp) _).setCell (p := ⟨w.heap.size + 1, 1, none⟩) (by simp) _).setCell (p := ⟨w.heap.size + 1, 2, none⟩) (by simp) _).setCell (p := ⟨w.heap.size + 1, 3, none⟩) (by simp) _).setCell (p := ⟨w.heap.size + 1, 4, none⟩) (by simp) _

theorem rtook_none {L : List RMv} {c : List (St × Ch)} (hc : CoreOf L c) {a : St} (hn : ∀ j y, j < L.length → L[j]? = some y → y.at_ ≠ a) : tookC c a = false :=
  tookC_none (fun y hy e => by
    rw [← hc.1] at hy
    obtain ⟨x, hx, rfl⟩ := List.mem_map.1 hy
    obtain ⟨i, hi⟩ := List.getElem?_of_mem hx
    exact hn i x (List.getElem?_eq_some_iff.1 hi).1 hi e)
theorem rtook_at {L : List RMv} {c : List (St × Ch)} (hc : CoreOf L c) {k : Nat} {x : RMv} (hx : L[k]? = some x) : (tookL c)[k]? = some (tookC c x.at_) := by
  have h : c[k]? = some (x.at_, x.ch) := by rw [← hc.1, List.getElem?_map, hx]; rfl
  rw [tookL_get h, tookC_get hc.ris h]
theorem SliceIs.bcell {w : World} {a : Option Addr} {n cap : Nat} {l : List Bool} (h : SliceIs btc 1 w (.slice a n cap) l) {k : Nat} {x : Bool} (hx : l[k]? = some x) : n = l.length ∧ ∃ b o, a = some ⟨b, o, none⟩ ∧ w.cell? ⟨b, o + k, none⟩ = some (.bool x) := by
  obtain ⟨_, _, e, _, _, h4⟩ := h
  cases e
  obtain ⟨b, o, rfl, h5⟩ := h4 (by rintro rfl; simp at hx)
  have := h5 k x hx 0 _ rfl
  rw [Nat.mul_one, Nat.add_zero] at this
  exact ⟨rfl, b, o, rfl, this⟩

set_option maxRecDepth 100000 in
set_option maxHeartbeats 4000000 in
theorem rtook_any {B : Nat} {w : World} {rb : Nat} {v : Value} {L : List RMv} {c : List (St × Ch)} (an ar : Int) (h : RTree B w rb v L) (hc : CoreOf L c) (hl : L.length ≤ 1000) :
    Calls Try.prog 25 #[.pointer (some ⟨rb, 0, none⟩), .agg #[.int .i64 an, .int .i64 ar]] w fun e w' => e = .returned (.bool (tookC c ⟨an, ar⟩)) ∧ Below w.heap.size w w' := by
  obtain ⟨a, cap, rfl, hcap, hmax, _⟩ := h.2.1.slice RMv.len
  unfold maxLen at hmax
  have q0 : (w.alloc (.cells #[.int .i64 an, .int .i64 ar] 24)).cell? ⟨w.heap.size, 0, none⟩ = some (.int .i64 an) := by go_simp
  have q1 : (w.alloc (.cells #[.int .i64 an, .int .i64 ar] 24)).cell? ⟨w.heap.size, 1, none⟩ = some (.int .i64 ar) := by go_simp
  have hB0 : Below w.heap.size w (w.alloc (.cells #[.int .i64 an, .int .i64 ar] 24)) := (Below.refl _ _).alloc (Nat.le_refl _) _
  have HT := Lib.hid (h.below hB0)
  have HB0 := Lib.hid hB0
  have HC := Lib.hid hc
  have t0 := HT.out.c0
  have HAF := Lib.hid (rafter_any rb _ L _ HT.out hc hl)
  clear h hB0 hc
  go_enter Try.func25, Try.ntmps25
  go_upto_region 1 with fail
  generalize w.alloc (.cells #[.int .i64 an, .int .i64 ar] 24) = w1 at *
  go_wp2_with fail
  refine HAF.out.mono ?_
  rintro e w2 ⟨v1, v2, A, rfl, h1, h2, h3, b2⟩
  obtain ⟨⟨ta, tn, tc⟩, e9⟩ : ∃ s : SlK, v2 = .slice s.a s.n s.cap := by
    rcases h3.eq_slice with ⟨e, _⟩ | ⟨g, c, e, _⟩
    · exact ⟨⟨_, _, _⟩, e⟩
    · exact ⟨⟨_, _, _⟩, e⟩
  dsimp only at e9
  subst e9
  obtain ⟨htn, htc, htm⟩ := own_nlen h3 btc_len
  rw [tookL_len, ← HC.out.len] at htn
  subst htn
  have HTK := Lib.hid (h3.slice btc_len)
  have HB2 := Lib.hid b2
  have HW2 := Lib.hid (HB0.out.trans (b2.mono HB0.out.size))
  have HT2 := Lib.hid (HT.out.below b2)
  replace q0 := keepB b2 q0
  replace q1 := keepB b2 q1
  clear h1 h2 h3 b2 t0 HT HAF
  have t0 := HT2.out.c0
  go_wp2_with fail
  go_loopg [7] L.length (fun g iv wx => ∃ k : Nat, g = L.length - k ∧ k ≤ L.length ∧ iv = .int .i64 k ∧ Hid (∀ j y, j < k → L[j]? = some y → y.at_ ≠ ⟨an, ar⟩) ∧ Hid (Below w2.heap.size w2 wx))
  case atStart => exact ⟨0, rfl, Nat.zero_le _, rfl, Lib.hid (fun j y hj => absurd hj (by omega)), Lib.hid (Below.refl _ _)⟩
  case round =>
    obtain ⟨k, hg, hk, rfl, HP, HB⟩ := hrel
    have HG := Lib.hid hg
    clear hg
    replace t0 := keepB HB.out t0
    replace q0 := keepB HB.out q0
    replace q1 := keepB HB.out q1
    by_cases hlt : k < L.length
    · obtain ⟨x, hx⟩ : ∃ x, L[k]? = some x := ⟨_, List.getElem?_eq_getElem hlt⟩
      obtain ⟨b, o, c1, e1, hh⟩ := ((HT2.out.below HB.out).2.1.slice RMv.len).rcells (by intro e; rw [e] at hlt; simp at hlt)
      cases e1
      obtain ⟨x0, x1, -, -, -, -, -⟩ := hh k x hx
      have HX := Lib.hid hx
      have HD : Hid (Below w.heap.size w wr.drew ∧ Below w2.heap.size w2 wr.drew) := Lib.hid ⟨(HW2.out.trans (HB.out.mono HW2.out.size)).drew, HB.out.drew⟩
      have hkk : (k : Int) < (L.length : Int) := by omega
      have hk0 : (0 : Int) ≤ (k : Int) := by omega
      clear hh hx
      by_cases hb : x.at_ = ⟨an, ar⟩
      · have e1 : x.at_.n = an := by rw [hb]
        have e2 : x.at_.r = ar := by rw [hb]
        rw [e1] at x0
        rw [e2] at x1
        have htk := rtook_at HC.out HX.out
        rw [hb] at htk
        obtain ⟨-, b5, o5, e5, u0⟩ := (HTK.out.below HB.out).bcell htk
        subst e5
        obtain ⟨tv, htv⟩ : ∃ tv, tookC c ⟨an, ar⟩ = tv := ⟨_, rfl⟩
        rw [htv] at u0
        have HTV := Lib.hid htv
        clear hb e1 e2 htk htv
        go_wp2_with fail
        go_region_held3 (fun W => W.cell? ⟨rb, 0, none⟩ = some (.slice (some ⟨b, o, none⟩) L.length cap) ∧ W.cell? ⟨b, o + k * 7, none⟩ = some (.int .i64 an) ∧ W.cell? ⟨b, o + k * 7 + 1, none⟩ = some (.int .i64 ar) ∧ W.cell? ⟨w.heap.size, 0, none⟩ = some (.int .i64 an) ∧ W.cell? ⟨w.heap.size, 1, none⟩ = some (.int .i64 ar)) (exact ⟨t0, x0, x1, q0, q1⟩) (fail)
        go_wp2_with fail
        go_ret
        exact ⟨by rw [HTV.out]; rfl, HD.out.1⟩
      · have HN := Lib.hid (none_snocR HP.out HX.out hb)
        have hb' := at_ne_r hb
        clear hb
        by_cases e1 : x.at_.n = an
        · have e2 := hb' e1
          rw [e1] at x0
          clear e1
          clear hb'
          go_wp2_with fail
          go_region_held3 (fun W => W.cell? ⟨rb, 0, none⟩ = some (.slice (some ⟨b, o, none⟩) L.length cap) ∧ W.cell? ⟨b, o + k * 7, none⟩ = some (.int .i64 an) ∧ W.cell? ⟨b, o + k * 7 + 1, none⟩ = some (.int .i64 x.at_.r) ∧ W.cell? ⟨w.heap.size, 0, none⟩ = some (.int .i64 an) ∧ W.cell? ⟨w.heap.size, 1, none⟩ = some (.int .i64 ar)) (exact ⟨t0, x0, x1, q0, q1⟩) (fail)
          go_wp2_with fail
          go_roundg (L.length - (k + 1))
          case measure => rw [HG.out]; omega
          case rel => exact ⟨k + 1, rfl, hlt, by go_num, HN, Lib.hid HD.out.2⟩
        · clear hb'
          go_wp2_with fail
          go_region_held3 (fun W => W.cell? ⟨rb, 0, none⟩ = some (.slice (some ⟨b, o, none⟩) L.length cap) ∧ W.cell? ⟨b, o + k * 7, none⟩ = some (.int .i64 x.at_.n) ∧ W.cell? ⟨b, o + k * 7 + 1, none⟩ = some (.int .i64 x.at_.r) ∧ W.cell? ⟨w.heap.size, 0, none⟩ = some (.int .i64 an) ∧ W.cell? ⟨w.heap.size, 1, none⟩ = some (.int .i64 ar)) (exact ⟨t0, x0, x1, q0, q1⟩) (fail)
          go_wp2_with fail
          go_roundg (L.length - (k + 1))
          case measure => rw [HG.out]; omega
          case rel => exact ⟨k + 1, rfl, hlt, by go_num, HN, Lib.hid HD.out.2⟩
    · obtain rfl : k = L.length := by omega
      have HT0 := Lib.hid (rtook_none HC.out HP.out)
      have HD := Lib.hid (HW2.out.trans (HB.out.mono HW2.out.size))
      have hkk : ¬ (L.length : Int) < (L.length : Int) := by omega
      clear hlt hk
      go_wp2_with fail
      go_ret
      exact ⟨by rw [HT0.out]; rfl, HD.out⟩

end Go.Proofs.Ytilonmpcifohiaa
