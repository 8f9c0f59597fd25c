/- append of some structs to the call's own slice; one operation of a region that draws its order. -/
import Derived.Test.YtmlaojfhmaamcaaRow
import Derived.Test.YtmlaojfhmaamcaaHand
import Derived.Laws.AppendOwn
namespace Go.Proofs.Ytmlaojfhmaamcaa
open Go.RowKit
set_option linter.unusedSimpArgs false
set_option linter.unusedVariables false

section
variable {P : Program} {w : World} {α : Type} {ea : α → List Value} {k : Nat} {e : TypeId} {base : Nat} {v vx : Value} {l ys : List α}

theorem SliceIs.take {a : Option Addr} {cap n : Nat} (h : SliceIs ea k w (.slice a l.length cap) l) (hn : n ≤ l.length) : SliceIs ea k w (.slice a n cap) (l.take n) := by
  obtain ⟨a', cap', e, h1, h2, h3⟩ := h
  cases e
  refine ⟨a, cap, by rw [List.length_take, Nat.min_eq_left hn], by rw [List.length_take]; omega, h2, fun hne => ?_⟩
  obtain ⟨b, o, e, h4⟩ := h3 (fun e => hne (by rw [e]; simp))
  refine ⟨b, o, e, fun i x hi => h4 i x ?_⟩
  rw [List.getElem?_take] at hi
  split at hi
  · exact hi
  · cases hi
theorem SliceIs.ext {S : Nat → Prop} {w' : World} (h : SliceIs ea k w v l) (hx : Ext S w w') (hn : ∀ b o n cap, v = .slice (some ⟨b, o, none⟩) n cap → ¬ S b) : SliceIs ea k w' v l := by
  obtain ⟨a, cap, rfl, h2, h3, h4⟩ := h
  refine ⟨a, cap, rfl, h2, h3, fun hl => ?_⟩
  obtain ⟨b, off, h5, h6⟩ := h4 hl
  exact ⟨b, off, h5, fun i x hi j u hj => hx.keep (h6 i x hi j u hj) (hn b off l.length cap (by rw [h5]))⟩
theorem Own.empty (ea : α → List Value) (k : Nat) (e : TypeId) {w : World} (hb : base ≤ w.heap.size) : Own ea k e base (w.alloc (.cells #[] e)) (.slice (some ⟨w.heap.size, 0, none⟩) 0 0) ([] : List α) :=
  ⟨by simp, .inr ⟨w.heap.size, 0, #[], rfl, hb, heap_alloc_new w _, Nat.le_refl _, Nat.zero_le _, by simp, by simp⟩⟩
/-- A slice of one struct, made just now. -/
theorem SliceIs.one (x : α) (e : TypeId) {w : World} : SliceIs ea k (w.alloc (.cells (ea x).toArray e)) (.slice (some ⟨w.heap.size, 0, none⟩) 1 1) [x] := by
  refine ⟨_, 1, rfl, Nat.le_refl _, by unfold maxLen; omega, fun _ => ⟨w.heap.size, 0, rfl, fun i y hi j u hj => ?_⟩⟩
  have hi0 : i = 0 := by
    have := (List.getElem?_eq_some_iff.1 hi).1
    simpa using this
  subst hi0
  simp only [List.getElem?_cons_zero, Option.some.injEq] at hi
  subst hi
  have := heap_alloc_new w (.cells (ea x).toArray e)
  simp only [World.cell?, this, Nat.zero_mul, Nat.zero_add]
  simpa using hj

theorem run_append_none (t ty : TypeId) (i : TypeInfo) (ht : P.underlying t = some (.slice e)) (hi : P.info? e = some i) (b : Option Addr) (n cap c : Nat) (hc : n ≤ cap) :
    (Builtin.append_ #[t, t] ty #[.slice b n cap, .slice none 0 c]).run P w = .ok (.slice b n cap) w := by
  cases b <;> simp [Builtin.append_, run_underlying ht, sizeOf, typeInfo, hi, Builtin.lenOf, Builtin.firstCells, loadCells, loadCellsFrom, storeCells, hc]

theorem append_structs (t ty : TypeId) (i : TypeInfo) (z : Value) (bytes : Nat) (ht : P.underlying t = some (.slice e)) (hi : P.info? e = some i) (hz : i.zero = some z)
    (hsize : i.size = k) (hby : i.bytes = bytes) (hzs : z.cells.size = k) (hk0 : 0 < k) (hk : ∀ x, (ea x).length = k) (h1 : ∀ x, ∀ u ∈ ea x, u.oneCell' = true)
    (hown : Own ea k e base w v l) (hx : SliceIs ea k w vx ys) (h63 : l.length + ys.length ≤ maxLen) (hbytes : (l.length + ys.length) * bytes ≤ 140737488355328) (hbase : base ≤ w.heap.size) :
    ∃ v' w', (Builtin.append_ #[t, t] ty #[v, vx]).run P w = .ok v' w' ∧ Own ea k e base w' v' (l ++ ys) ∧ Ext (fun b => v.ownBlock = some b) w w' := by
  obtain ⟨a, cap, rfl, hcap, hmax, hcs⟩ := hx
  cases a with
  | none =>
    have hys : ys = [] := Classical.byContradiction fun hn => by obtain ⟨b, o, e, _⟩ := hcs hn; cases e
    subst hys
    obtain ⟨sa, sc, rfl, hsc, _⟩ := hown.slice hk
    refine ⟨_, w, run_append_none t ty i ht hi sa l.length sc cap hsc, by rw [List.append_nil]; exact hown, Ext.refl _ _⟩
  | some ad =>
    have hnews : ∀ j u, (ys.flatMap ea)[j]? = some u → w.cell? (ad.add j) = some u := fun j u hj => by
      have hne : ys ≠ [] := fun e => by rw [e] at hj; simp at hj
      obtain ⟨b, o, e, h2⟩ := hcs hne
      cases e
      have hjl := (List.getElem?_eq_some_iff.1 hj).1
      rw [length_flatMap_k hk] at hjl
      have hdm : j / k * k + j % k = j := by rw [Nat.mul_comm]; exact Nat.div_add_mod j k
      have hq : j / k < ys.length := Nat.div_lt_of_lt_mul (by rw [Nat.mul_comm]; exact hjl)
      obtain ⟨x, hx⟩ : ∃ x, ys[j / k]? = some x := ⟨_, List.getElem?_eq_getElem hq⟩
      obtain ⟨u', hu'⟩ : ∃ u', (ea x)[j % k]? = some u' := ⟨_, List.getElem?_eq_getElem (by rw [hk]; exact Nat.mod_lt _ hk0)⟩
      have h3 := getElem?_flatMap_k hk ys (j / k) x hx (j % k) u' hu'
      rw [hdm, hj] at h3
      cases h3
      have h4 := h2 (j / k) x hx (j % k) u hu'
      rw [Nat.add_assoc, hdm] at h4
      rw [show (Addr.add ⟨b, o, none⟩ j) = ⟨b, o + j, none⟩ from by unfold Addr.add; split <;> simp_all]
      exact h4
    obtain ⟨v', w', h2, h3, h4, _⟩ := run_append_own (P := P) w base t ty e i z k bytes ht hi hz hsize hby hzs hk0 v l.length (l.flatMap ea) hown ad ys.length cap (ys.flatMap ea) (length_flatMap_k hk ys) hnews
      (fun u hu => by obtain ⟨x, _, hx⟩ := List.mem_flatMap.1 hu; exact h1 x u hx) h63 hbytes hbase
    refine ⟨v', w', h2, ?_, Ext.of_grown h4⟩
    unfold Own
    rw [List.length_append, List.flatMap_append]
    exact h3
end

section
variable {P : Program} {ops : Array Oper} {Q : Exit → Act → World → Prop} {md : Region.Mode} {S : World → Prop}
/-- An operation that yields a value. -/
theorem op_ran {i : Nat} {o : Oper} {d : Option Tmp} {v : Value} {K : Act → World → Prop} {a : Act} {w w' : World} (ho : ops[i]? = some o) (hd : o.dst = d) (hw : Region.wanted o (yielded ops a.tmps) = true)
    (hv : (execOp a.eval o).run P w = .ok (.value v) w') (h : K (a.put d v) w') : wpOp P ops Q i K a w := by
  subst hd
  exact wpOp_step ho fun K' hK => by
    rw [if_pos hw, Oper.wp, hv]
    exact hK _ _ h
/-- append. -/
theorem op_append {i : Nat} {o : Oper} {d : Option Tmp} {s x : Operand} {t : TypeId} {v vx v' : Value} {K : Act → World → Prop} {a : Act} {w w' : World} (ho : ops[i]? = some o)
    (hop : o.op = .call { callee := .builtin .append, args := #[s, x], argTypes := #[t, t] }) (hd : o.dst = d) (hw : Region.wanted o (yielded ops a.tmps) = true) (hs : a.eval s = v) (hx : a.eval x = vx)
    (hr : (Builtin.append_ #[t, t] o.type #[v, vx]).run P w = .ok v' w') (h : K (a.put d v') w') : wpOp P ops Q i K a w := by
  refine op_ran ho hd hw ?_ h
  unfold execOp
  simp only [hop, resolve, invoke, builtin, Sem.run_bind, Sem.run_pure, Result.andThen_ok, List.map_toArray, List.map_cons, List.map_nil, hs, hx, hr]
/-- Two may come up. -/
theorem held_two {i j fuel : Nat} {listed : Array Bool} {a : Act} {w : World} (hr : Region.ready md ops listed = [i, j])
    (h1 : wpOp P ops Q i (fun a' w' => S w' ∧ wpAnyH P md ops Q S fuel (listed.setIfInBounds i true) a' w') a w)
    (h2 : wpOp P ops Q j (fun a' w' => S w' ∧ wpAnyH P md ops Q S fuel (listed.setIfInBounds j true) a' w') a w) : wpAnyH P md ops Q S (fuel + 1) listed a w :=
  wpAnyH_all hr (by simp) (fun n hn => by
    rcases List.mem_cons.1 hn with rfl | hn
    · exact h1
    · obtain rfl := List.mem_singleton.1 hn
      exact h2)
theorem held_one {i fuel : Nat} {listed : Array Bool} {a : Act} {w : World} (hr : Region.ready md ops listed = [i])
    (h1 : wpOp P ops Q i (fun a' w' => S w' ∧ wpAnyH P md ops Q S fuel (listed.setIfInBounds i true) a' w') a w) : wpAnyH P md ops Q S (fuel + 1) listed a w :=
  wpAnyH_all hr (by simp) (fun n hn => by
    obtain rfl := List.mem_singleton.1 hn
    exact h1)
end

end Go.Proofs.Ytmlaojfhmaamcaa
