/- Slices of structs that the call itself makes: appended to, sorted. -/
import Derived.Test.YtgmdimbiipemhaaGreatDoorMaps
import Derived.Test.YtgmdimbiipemhaaGreatDoorOpen
namespace Go.Proofs.YtgmdimbiipemhaaGreatDoor
open Go.RowKit
set_option linter.unusedSimpArgs false
set_option linter.unusedVariables false

/-- The call's own slice, nil or a block of its own, that holds these structs, k cells each. -/
def Own {α : Type} (ea : α → List Value) (k : Nat) (e : TypeId) (base : Nat) (w : World) (v : Value) (l : List α) : Prop := w.ownsRow base e k v l.length (l.flatMap ea)

section
variable {α : Type} {ea : α → List Value} {k : Nat} {e : TypeId} {base : Nat} {w : World} {v : Value} {l : List α}

theorem length_flatMap_k (hk : ∀ x, (ea x).length = k) : ∀ l : List α, (l.flatMap ea).length = l.length * k
  | [] => by simp
  | x :: l => by rw [List.flatMap_cons, List.length_append, hk, length_flatMap_k hk l, List.length_cons, Nat.add_mul, Nat.one_mul, Nat.add_comm]

theorem getElem?_flatMap_k (hk : ∀ x, (ea x).length = k) : ∀ (l : List α) (i : Nat) (x : α), l[i]? = some x → ∀ j u, (ea x)[j]? = some u → (l.flatMap ea)[i * k + j]? = some u
  | [], i, x, h, _, _, _ => by simp at h
  | y :: l, 0, x, h, j, u, hj => by
    simp at h
    subst h
    have := (List.getElem?_eq_some_iff.1 hj).1
    rw [List.flatMap_cons, Nat.zero_mul, Nat.zero_add, List.getElem?_append_left this]
    exact hj
  | y :: l, i + 1, x, h, j, u, hj => by
    have ih := getElem?_flatMap_k hk l i x (by simpa using h) j u hj
    rw [List.flatMap_cons, List.getElem?_append_right (by rw [hk, Nat.add_mul]; omega), hk]
    have : (i + 1) * k + j - k = i * k + j := by rw [Nat.add_mul]; omega
    rw [this]
    exact ih

theorem Own.nil : Own ea k e base w (.slice none 0 0) ([] : List α) := ⟨by simp, .inl ⟨rfl, rfl⟩⟩
theorem Own.alloc (h : Own ea k e base w v l) (o : Obj) : Own ea k e base (w.alloc o) v l := World.ownsRow.alloc h o
theorem Own.drew (h : Own ea k e base w v l) : Own ea k e base w.drew v l := h
theorem Own.blk (h : Own ea k e base w v l) : ∀ b, v.ownBlock = some b → base ≤ b ∧ b < w.heap.size := World.ownsRow.lt h
theorem Own.ext {S : Nat → Prop} {w' : World} (h : Own ea k e base w v l) (hx : Ext S w w') (hn : ∀ b, v.ownBlock = some b → ¬ S b) : Own ea k e base w' v l := by
  obtain ⟨h1, h2⟩ := h
  refine ⟨h1, h2.imp id ?_⟩
  rintro ⟨g, cap, cur, hv, hb, hg, h3⟩
  have hlt := (Array.getElem?_eq_some_iff.1 hg).1
  exact ⟨g, cap, cur, hv, hb, (hx.block g hlt (hn g (by rw [hv]; rfl))).trans hg, h3⟩
theorem Own.mono {b' : Nat} (h : Own ea k e base w v l) (hb : b' ≤ base) : Own ea k e b' w v l := by
  obtain ⟨h1, h2⟩ := h
  refine ⟨h1, h2.imp id ?_⟩
  rintro ⟨g, cap, cur, hv, hb', h3⟩
  exact ⟨g, cap, cur, hv, by omega, h3⟩

theorem Own.slice (h : Own ea k e base w v l) (hk : ∀ x, (ea x).length = k) : SliceIs ea k w v l := by
  have h0 := h
  obtain ⟨h1, h2⟩ := h
  rcases h2 with ⟨rfl, hn⟩ | ⟨g, cap, cur, rfl, hb, hg, hnc, hcm, hcs, htake⟩
  · have : l = [] := List.eq_nil_of_length_eq_zero hn
    subst this
    exact ⟨none, 0, rfl, Nat.le_refl _, Nat.zero_le _, fun hne => absurd rfl hne⟩
  · refine ⟨some ⟨g, 0, none⟩, cap, rfl, hnc, hcm, fun _ => ⟨g, 0, rfl, fun i x hi j u hj => ?_⟩⟩
    have hil := (List.getElem?_eq_some_iff.1 hi).1
    have hjl := (List.getElem?_eq_some_iff.1 hj).1
    rw [hk] at hjl
    have hlt : i * k + j < l.length * k := by
      have := Nat.mul_le_mul_right k (show i + 1 ≤ l.length from hil)
      rw [Nat.add_mul, Nat.one_mul] at this
      omega
    have := World.ownsRow.cellAt h0 (i * k + j) hlt
    rw [getElem?_flatMap_k hk l i x hi j u hj] at this
    rw [Nat.zero_add]
    exact this

theorem Own.tag (h : Own ea k e base w v l) {b : Nat} (hb : v.ownBlock = some b) : ∃ cur, w.heap[b]? = some (.cells cur e (0, 0)) := by
  obtain ⟨_, h3⟩ := h
  rcases h3 with ⟨h3, _⟩ | ⟨g, cap, cur, h3, _, hg, _⟩
  · rw [h3] at hb; cases hb
  · rw [h3] at hb; cases hb; exact ⟨cur, hg⟩
theorem Own.eq_slice (h : Own ea k e base w v l) : (v = .slice none 0 0 ∧ l = []) ∨ ∃ g cap, v = .slice (some ⟨g, 0, none⟩) l.length cap ∧ base ≤ g ∧ g < w.heap.size := by
  obtain ⟨h1, h2⟩ := h
  rcases h2 with ⟨rfl, hn⟩ | ⟨g, cap, cur, rfl, hb, hg, h3⟩
  · exact .inl ⟨rfl, List.eq_nil_of_length_eq_zero hn⟩
  · exact .inr ⟨g, cap, rfl, hb, (Array.getElem?_eq_some_iff.1 hg).1⟩

theorem Ext.of_grown {w w' : World} {row : Option Nat} (h : w.grownBy w' row) : Ext (fun b => row = some b) w w' :=
  ⟨h.os, h.tape, h.output, h.size, fun b hb hn => h.block b hb (fun e => hn e.symm)⟩

/-- append of one struct to the call's own slice. -/
theorem wpList_append_struct {P : Program} {ops : Array Oper} {rest : List Oper} {o : Oper} {a : Act} {Q : Exit → Act → World → Prop} (hgd : o.guard = none) (s x : Operand) (t : TypeId)
    (ho : o.op = .call { callee := .builtin .append, args := #[s, x], argTypes := #[t, t] })
    (i : TypeInfo) (z : Value) (bytes : Nat) (ht : P.underlying t = some (.slice e)) (hi : P.info? e = some i) (hz : i.zero = some z)
    (hsize : i.size = k) (hby : i.bytes = bytes) (hzs : z.cells.size = k) (hk0 : 0 < k) (hk : ∀ x, (ea x).length = k) (h1 : ∀ x, ∀ u ∈ ea x, u.oneCell' = true)
    (hs : a.eval s = v) (hown : Own ea k e base w v l) (y : α) (nb c : Nat) (hx : a.eval x = .slice (some ⟨nb, 0, none⟩) 1 c) (hnews : ∀ j u, (ea y)[j]? = some u → w.cell? ⟨nb, j, none⟩ = some u)
    (h63 : l.length + 1 ≤ maxLen) (hbytes : (l.length + 1) * bytes ≤ 140737488355328) (hbase : base ≤ w.heap.size)
    (h : ∀ v' w', Own ea k e base w' v' (l ++ [y]) → Ext (fun b => v.ownBlock = some b) w w' → wpList P ops Q rest (a.put o.dst v') w') : wpList P ops Q (o :: rest) a w := by
  refine wpList_append_own w hgd s x t ho base e i z k bytes ht hi hz hsize hby hzs hk0 v l.length (l.flatMap ea) hs hown ⟨nb, 0, none⟩ 1 c (ea y) hx (by rw [hk, Nat.one_mul]) (fun j u hj => ?_) (h1 y) h63 hbytes hbase (fun v' w' h2 h3 _ => h v' w' ?_ (Ext.of_grown h3))
  · have := hnews j u hj
    rw [show (Addr.add ⟨nb, 0, none⟩ j) = ⟨nb, j, none⟩ from by unfold Addr.add; split <;> simp_all]
    exact this
  · unfold Own
    rw [List.length_append, List.flatMap_append]
    simpa using h2

/-- The same as one step of a region that draws its order. -/
theorem step_append_struct {P : Program} {ops : Array Oper} {o : Oper} {a : Act} {K : Act → World → Prop} {Q : Exit → Act → World → Prop} {E : Prop} (hgd : o.guard = none) (s x : Operand) (t : TypeId)
    (ho : o.op = .call { callee := .builtin .append, args := #[s, x], argTypes := #[t, t] })
    (i : TypeInfo) (z : Value) (bytes : Nat) (ht : P.underlying t = some (.slice e)) (hi : P.info? e = some i) (hz : i.zero = some z)
    (hsize : i.size = k) (hby : i.bytes = bytes) (hzs : z.cells.size = k) (hk0 : 0 < k) (hk : ∀ x, (ea x).length = k) (h1 : ∀ x, ∀ u ∈ ea x, u.oneCell' = true)
    (hs : a.eval s = v) (hown : Own ea k e base w v l) (y : α) (nb c : Nat) (hx : a.eval x = .slice (some ⟨nb, 0, none⟩) 1 c) (hnews : ∀ j u, (ea y)[j]? = some u → w.cell? ⟨nb, j, none⟩ = some u)
    (h63 : l.length + 1 ≤ maxLen) (hbytes : (l.length + 1) * bytes ≤ 140737488355328) (hbase : base ≤ w.heap.size)
    (h : ∀ v' w', Own ea k e base w' v' (l ++ [y]) → Ext (fun b => v.ownBlock = some b) w w' → K (a.put o.dst v') w') : if Region.wanted o (yielded ops a.tmps) = true then Oper.wp P o a w K Q else E := by
  have hw : Region.wanted o (yielded ops a.tmps) = true := by simp [Region.wanted, hgd]
  rw [if_pos hw]
  refine wp_append_own w s x t ho base e i z k bytes ht hi hz hsize hby hzs hk0 v l.length (l.flatMap ea) hs hown ⟨nb, 0, none⟩ 1 c (ea y) hx (by rw [hk, Nat.one_mul]) (fun j u hj => ?_) (h1 y) h63 hbytes hbase (fun v' w' h2 h3 _ => h v' w' ?_ (Ext.of_grown h3))
  · have := hnews j u hj
    rw [show (Addr.add ⟨nb, 0, none⟩ j) = ⟨nb, j, none⟩ from by unfold Addr.add; split <;> simp_all]
    exact this
  · unfold Own
    rw [List.length_append, List.flatMap_append]
    simpa using h2
end

end Go.Proofs.YtgmdimbiipemhaaGreatDoor
