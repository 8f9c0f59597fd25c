/- Layer 14: the plain law of MoveRings, and what its walk carries along. -/
import Derived.Test.YtilonmpcifohiaaSame14
namespace Go.Proofs.Ytilonmpcifohiaa
open Go.RowKit
set_option linter.unusedSimpArgs false
set_option linter.unusedVariables false

theorem ends_uniq {h : Hang} : ∀ (m n : Nat) (u : St), Ends h m u → Ends h n u → m = n
  | 0, 0, _, _, _ => rfl
  | 0, n + 1, u, h1, ⟨c, hc, _⟩ => by rw [show h u = none from h1] at hc; cases hc
  | m + 1, 0, u, ⟨c, hc, _⟩, h2 => by rw [show h u = none from h2] at hc; cases hc
  | m + 1, n + 1, u, ⟨c, hc, h1⟩, ⟨d, hd, h2⟩ => by
    rw [hc] at hd; cases hd
    rw [ends_uniq m n _ h1 h2]
theorem ends_path {h : Hang} (hk : Keyed h) : ∀ (m : Nat) (u : St), Ends h m u → ∃ l : List Ch, l.length = m ∧ l.Nodup ∧ ∀ c ∈ l, h c.block = some c ∧ ∃ j, j ≤ m ∧ Ends h j c.block
  | 0, u, _ => ⟨[], rfl, List.nodup_nil, fun c hc => by simp at hc⟩
  | m + 1, u, ⟨c, hc, he⟩ => by
    obtain ⟨l, h1, h2, h3⟩ := ends_path hk m c.under he
    have hb : c.block = u := hk u c hc
    refine ⟨c :: l, by simp [h1], List.nodup_cons.2 ⟨fun hcl => ?_, h2⟩, fun d hd => ?_⟩
    · obtain ⟨_, j, hj, hej⟩ := h3 c hcl
      have hu : Ends h (m + 1) c.block := by rw [hb]; exact ⟨c, hc, he⟩
      have := ends_uniq _ _ _ hej hu
      omega
    · rcases List.mem_cons.1 hd with rfl | hd
      · exact ⟨by rw [hb]; exact hc, m + 1, Nat.le_refl _, by rw [hb]; exact ⟨d, hc, he⟩⟩
      · obtain ⟨a1, j, a2, a3⟩ := h3 d hd
        exact ⟨a1, j, by omega, a3⟩
/-- The way up is no longer than there are blocks that hang. -/
theorem ends_le {h : Hang} {A : List Ch} (hk : Keyed h) (ha : Acyc h) (hA : AllOf h A) (u : St) : ∃ m, Ends h m u ∧ m ≤ A.length := by
  obtain ⟨m, hm⟩ := ha u
  obtain ⟨l, h1, h2, h3⟩ := ends_path hk m u hm
  refine ⟨m, hm, ?_⟩
  rw [← h1]
  exact h2.length_le_of_subset fun c hc => (hA.1 c).2 (h3 c hc).1
theorem ends_succ {h : Hang} {m : Nat} {b : St} {y : Ch} (he : Ends h m b) (hy : h b = some y) : ∃ k, m = k + 1 ∧ Ends h k y.under := by
  cases m with
  | zero => rw [show h b = none from he] at hy; cases hy
  | succ k => obtain ⟨c, hc, h2⟩ := he; rw [hc] at hy; cases hy; exact ⟨k, rfl, h2⟩

/-- Told among the kids of the first of its parents. -/
def toldN (A : List Ch) (u : St) (k : Nat) : Nat := if u ∈ (A.take k).map Ch.under then 1 else 0
theorem toldN_zero (A : List Ch) (u : St) : toldN A u 0 = 0 := by simp [toldN]
theorem toldN_all {A : List Ch} {x : Ch} (hx : x ∈ A) : toldN A x.under A.length = 1 := by
  unfold toldN
  rw [List.take_length, if_pos (List.mem_map.2 ⟨x, hx, rfl⟩)]
theorem toldN_succ {A : List Ch} {u : St} {k : Nat} {y : Ch} (hy : A[k]? = some y) : toldN A u (k + 1) = toldN A u k + if y.under ∉ (A.take k).map Ch.under ∧ y.under = u then 1 else 0 := by
  have e : (A.take (k + 1)).map Ch.under = (A.take k).map Ch.under ++ [y.under] := by rw [List.take_add_one, hy]; simp
  unfold toldN
  rw [e]
  by_cases h1 : u ∈ (A.take k).map Ch.under
  · rw [if_pos h1, if_pos (List.mem_append_left _ h1), if_neg (by rintro ⟨h2, h3⟩; rw [h3] at h2; exact h2 h1)]
  · rw [if_neg h1]
    by_cases h2 : y.under = u
    · rw [if_pos (by rw [h2]; simp), if_pos ⟨by rw [h2]; exact h1, h2⟩]
    · rw [if_neg (fun h => by
        rcases List.mem_append.1 h with h | h
        · exact h1 h
        · exact h2 (List.mem_singleton.1 h).symm), if_neg (fun h => h2 h.2)]
/-- How often it is met among the first kids. -/
def metN (K : List Ch) (b : St) (j : Nat) : Nat := if b ∈ (K.take j).map Ch.block then 1 else 0
theorem metN_zero (K : List Ch) (b : St) : metN K b 0 = 0 := by simp [metN]
theorem metN_succ {h : Hang} {u : St} {K : List Ch} {b : St} {j : Nat} {z : Ch} (hK : KidsOf h u K) (hz : K[j]? = some z) : metN K b (j + 1) = metN K b j + if z.block = b then 1 else 0 := by
  have e : (K.take (j + 1)).map Ch.block = (K.take j).map Ch.block ++ [z.block] := by rw [List.take_add_one, hz]; simp
  unfold metN
  rw [e]
  by_cases h2 : z.block = b
  · have h1 : b ∉ (K.take j).map Ch.block := fun hm => by
      obtain ⟨y, hy, hyb⟩ := List.mem_map.1 hm
      obtain ⟨i, hi⟩ := List.getElem?_of_mem hy
      rw [List.getElem?_take] at hi
      split at hi
      · rename_i hij
        have hkl := pair_at hK.2 hij hi hz
        have a1 := ((hK.1 y).1 (List.mem_of_getElem? hi)).1
        have a2 := ((hK.1 z).1 (List.mem_of_getElem? hz)).1
        rw [hyb, ← h2, a2] at a1
        cases a1
        exact kidLt_irrefl _ hkl
      · cases hi
    rw [if_neg h1, if_pos (by rw [h2]; simp), if_pos h2]
  · rw [if_neg h2]
    by_cases h1 : b ∈ (K.take j).map Ch.block
    · rw [if_pos h1, if_pos (List.mem_append_left _ h1)]
    · rw [if_neg h1, if_neg (fun h => by
        rcases List.mem_append.1 h with h | h
        · exact h1 h
        · exact h2 (List.mem_singleton.1 h).symm)]
theorem metN_all {h : Hang} {K : List Ch} {x y : Ch} (hK : KidsOf h y.under K) (hx : h x.block = some x) : metN K x.block K.length = if y.under = x.under then 1 else 0 := by
  unfold metN
  rw [List.take_length]
  by_cases e : y.under = x.under
  · rw [if_pos e, if_pos (List.mem_map.2 ⟨x, (hK.1 x).2 ⟨hx, e.symm⟩, rfl⟩)]
  · rw [if_neg e, if_neg (fun hm => ?_)]
    obtain ⟨z, hz, hzb⟩ := List.mem_map.1 hm
    obtain ⟨a1, a2⟩ := (hK.1 z).1 hz
    rw [hzb, hx] at a1
    cases a1
    exact e a2.symm

/-- The tree, all that hangs. -/
structure RIn (base : Nat) (w : World) (c : List (St × Ch)) (A : List Ch) (av : Value) (wx : World) : Prop where
  tree : TreeHas base wx (base + 1) base c
  own : Own Ch.cells 5 36 w.heap.size wx av A
  bel : Below w.heap.size w wx
section
variable {base : Nat} {w wx wy : World} {c : List (St × Ch)} {A : List Ch} {av : Value} {Z : Nat} {u : St}
theorem RIn.below (h : RIn base w c A av wx) (hb : Below wx.heap.size wx wy) : RIn base w c A av wy :=
  ⟨h.tree.below hb, h.own.ext (Ext.of_below (S := fun _ => False) hb) (fun _ _ => id), h.bel.trans (hb.mono h.bel.size)⟩
theorem RIn.box (h : RIn base w c A av wx) (hb : BoxS wx Z u) (hx : Ext (· = Z) wx wy) (hz : w.heap.size ≤ Z) : RIn base w c A av wy :=
  ⟨h.tree.box hb hx, h.own.ext hx (fun b hb' e => by
    obtain ⟨cur, hc⟩ := h.own.tag hb'
    have hb := show wx.heap[Z]? = _ from hb
    rw [e, hb] at hc; cases hc), Ext.new h.bel hx (fun i hi _ e => by omega) h.bel.size⟩
end

end Go.Proofs.Ytilonmpcifohiaa
