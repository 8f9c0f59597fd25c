/- batch.columns: a contract. -/
import Derived.Test.YtgmdimbiipemhaaGreatDoorInts08
import Derived.Test.YtgmdimbiipemhaaGreatDoorAppNew
import Derived.Test.YtgmdimbiipemhaaGreatDoorRowIn
namespace Go.Proofs.YtgmdimbiipemhaaGreatDoor
open Go.RowKit Go.Deep
set_option linter.unusedSimpArgs false
set_option linter.unusedVariables false

def colsL (c : Nat) : List Bool := (List.range c).map dlt
theorem colsL_len (c : Nat) : (colsL c).length = c := by simp [colsL]
theorem colsL_succ (c : Nat) : colsL c ++ [dlt c] = colsL (c + 1) := by simp [colsL, List.range_succ]
/-- What the collecting function keeps. -/
def JC (Bo base : Nat) (c : Nat) (A : Nat → Prop) (W : World) : Prop := (∃ v, W.heap[Bo]? = some (.cells #[v] 75 (0, 0)) ∧ Own btc 1 4 base W v (colsL c) ∧ ∀ k, v.ownBlock = some k → ¬ A k) ∧ ¬ A Bo ∧ Bo < base ∧ base ≤ W.heap.size ∧ ∀ k, A k → k < W.heap.size
theorem JC.jok (Bo base b : Nat) : JOK b (JC Bo base) := by
  rintro c A A' W W' ⟨⟨v, h1, h2, h3⟩, h4, h5, h6, h7⟩ hx hA hb
  have hlt := (Array.getElem?_eq_some_iff.1 h1).1
  have hs := hx.size
  refine ⟨⟨v, (hx.block _ hlt (fun e => h4 (by rw [e]; exact hb))).trans h1, h2.ext hx (fun k hk e => h3 k hk (by rw [e]; exact hb)), fun k hk ha => ?_⟩, fun ha => ?_, h5, by omega, fun k hk => ?_⟩
  · rcases hA k ha with e | ⟨e, _⟩
    · exact h3 k hk e
    · have := (h2.blk k hk).2; omega
  · rcases hA Bo ha with e | ⟨e, _⟩
    · exact h4 e
    · omega
  · rcases hA k hk with e | ⟨_, e⟩
    · have := h7 k e; omega
    · exact e

set_option maxRecDepth 20000 in
set_option maxHeartbeats 1000000 in
theorem cols_use (Bo base : Nat) (o : OpD) : UseOK Tryz.prog 145 #[.pointer (some ⟨Bo, 0, none⟩)] (fld o) (fld o) (JC Bo base) := by
  rintro c A W pb po hc ⟨⟨v, hb, ho, hnA⟩, hAB, hBb, hbs, hAl⟩ hcell hfree hA
  show Calls Tryz.prog 145 #[.pointer (some ⟨pb, po, none⟩), .bool (dlt c), .pointer (some ⟨Bo, 0, none⟩)] W _
  obtain ⟨i0, hi, hy0, hy1, hy2⟩ := info_parts info_bt
  obtain ⟨⟨sa, sn, sc⟩, e⟩ := ho.sl
  dsimp only at e
  subst e
  have b0 := cell_of_one hb
  have hlt := (Array.getElem?_eq_some_iff.1 hb).1
  have hll := colsL_len c
  have HBD : Hid ((colsL c).length + 1 ≤ maxLen ∧ ((colsL c).length + 1) * 1 ≤ 140737488355328) := Lib.hid (by rw [hll]; unfold maxLen; omega)
  have hpl := cell_lt hcell
  have HW := Lib.hid (And.intro hcell hfree)
  clear hcell hfree hll
  go_enter Tryz.func145, Tryz.ntmps145
  go_wp2_with (at_builtin; refine wpList_append_struct2 rfl _ _ _ rfl i0 _ 1 Tryz.underlying75 hi hy0 hy1 hy2 rfl (by omega) btc_len btc_one rfl (ho.alloc _) (dlt c) W.heap.size 1 rfl (bt_new _ (dlt c)) HBD.out.1 HBD.out.2 (by simp; omega) ?_)
  intro v' w3 hown3 hx3 hn3
  obtain ⟨⟨ua, un, uc⟩, e3⟩ := hown3.sl
  dsimp only at e3
  subst e3
  rw [colsL_succ] at hown3
  have hne : ¬ (Value.slice sa sn sc).ownBlock = some Bo := fun e => by have := (ho.blk _ e).1; omega
  have hb3 : w3.heap[Bo]? = some (.cells #[.slice sa sn sc] 75 (0, 0)) := (hx3.block _ (by simp; omega) hne).trans ((Below.heap_alloc _ _ _ hlt).trans hb)
  have c3 := cell_of_one hb3
  have f3 := free_of_one hb3
  have hx4 : Ext (· = Bo) w3 (w3.setCell ⟨Bo, 0, none⟩ (.slice ua un uc)) := (Ext.refl (· = Bo) w3).setCell (p := ⟨Bo, 0, none⟩) (.inr rfl) _
  have hxa : Ext (fun k => (Value.slice sa sn sc).ownBlock = some k) W w3 := (Ext.alloc (Ext.refl _ _) _).andThen hx3 (fun i hi e => e)
  have hpB : pb ≠ Bo := fun e => hAB (by rw [← e]; exact hA)
  have hpO : ¬ (Value.slice sa sn sc).ownBlock = some pb := fun e => hnA pb e hA
  have hP4 : ∀ q, (w3.setCell ⟨Bo, 0, none⟩ (.slice ua un uc)).cell? ⟨pb, q, none⟩ = W.cell? ⟨pb, q, none⟩ := fun q => (hx4.cell (p := ⟨pb, q, none⟩) (by have := hxa.size; show pb < _; omega) hpB).trans (hxa.cell (p := ⟨pb, q, none⟩) hpl hpO)
  have hF4 : ∀ q, (w3.setCell ⟨Bo, 0, none⟩ (.slice ua un uc)).frozen? ⟨pb, q, none⟩ = W.frozen? ⟨pb, q, none⟩ := fun q => (hx4.frozen (p := ⟨pb, q, none⟩) (by have := hxa.size; show pb < _; omega) hpB).trans (hxa.frozen (p := ⟨pb, q, none⟩) hpl hpO)
  have hs3 := hxa.size
  have hJ4 : JC Bo base (c + 1) A (w3.setCell ⟨Bo, 0, none⟩ (.slice ua un uc)) := ⟨⟨_, one_setCell hb3, hown3.ext hx4 (fun b hb e => by have := (hown3.blk b hb).1; omega), fun k hk ha => (hn3 k hk).elim (fun e => hnA k e ha) (fun e => by have h9 := hAl k ha; omega)⟩, hAB, hBb, by rw [World.size_setCell]; omega, fun k hk => by have := hAl k hk; rw [World.size_setCell]; omega⟩
  have hX4 : Ext (fun k => ¬ A k ∨ k = pb) W (w3.setCell ⟨Bo, 0, none⟩ (.slice ua un uc)) := (hxa.mono (T := fun k => ¬ A k ∨ k = pb) (fun k _ e => .inl (hnA k e))).andThen hx4 (fun i hi e => .inl (by rw [e]; exact hAB))
  have HFIN := Lib.hid (And.intro hJ4 (And.intro ((hP4 po).trans HW.out.1) (And.intro (fun q (_ : q ≠ po) => hP4 q) (And.intro hF4 (And.intro hX4 (Shp.same (W := W) (pb := pb) (((hx4.block pb (by have := hxa.size; omega) hpB)).trans (hxa.block pb hpl hpO))))))))
  clear hJ4 hP4 hF4 hX4 hxa hx3 hx4 hown3 hn3 hb3 ho hnA hb
  go_wp2_with fail
  go_end0
  exact ⟨⟨_, rfl⟩, HFIN.out⟩

def zeroOp : OpD := ⟨⟨0, 0⟩, 0, 0, 0, 0, 0, 0, 0, 0, 0, ⟨0, 0⟩, 0, 0, ⟨0, 0⟩, ⟨#[]⟩, ⟨#[]⟩, ⟨#[]⟩, ⟨0, 0⟩, false, ⟨0, 0⟩, false⟩
set_option maxRecDepth 20000 in
set_option maxHeartbeats 1000000 in
theorem columns_any (w : World) : Calls Tryz.prog 91 #[] w fun e w' => ∃ v, e = .returned v ∧ Own btc 1 4 w.heap.size w' v (colsL 21) ∧ Below w.heap.size w w' := by
  go_enter Tryz.func91, Tryz.ntmps91
  go_wp2_with fail
  have hb0 : Below w.heap.size w ((w.alloc (.cells #[.slice none 0 0] 75)).alloc (.cells zeroOp.cells.toArray 68)) := ((Below.refl _ _).alloc (Nat.le_refl _) _).alloc (by simp) _
  have hz0 : ((w.alloc (.cells #[.slice none 0 0] 75)).alloc (.cells zeroOp.cells.toArray 68)).heap.size = w.heap.size + 2 := by simp
  have ho0 : ((w.alloc (.cells #[.slice none 0 0] 75)).alloc (.cells zeroOp.cells.toArray 68)).heap[w.heap.size]? = some (.cells #[.slice none 0 0] 75 (0, 0)) := (Below.heap_alloc _ _ _ (by simp)).trans (heap_new8 w _)
  have hop : ((w.alloc (.cells #[.slice none 0 0] 75)).alloc (.cells zeroOp.cells.toArray 68)).heap[w.heap.size + 1]? = some (.cells zeroOp.cells.toArray 68 (0, 0)) := by
    have := heap_new8 (w.alloc (.cells #[.slice none 0 0] 75)) (.cells zeroOp.cells.toArray 68)
    rwa [World.size_alloc] at this
  have hA : At (w.heap.size + 1) 0 zeroOp (fld zeroOp) ((w.alloc (.cells #[.slice none 0 0] 75)).alloc (.cells zeroOp.cells.toArray 68)) := At.of_cells (fun j u hj => by
    rw [Nat.zero_add]
    unfold World.cell?
    rw [hop]
    simpa using hj) (fun j hj => by
    unfold World.frozen?
    rw [hop]
    simp)
  show Calls Tryz.prog 92 #[.pointer (some ⟨w.heap.size + 1, 0, none⟩), .func (.func 145) #[] #[.pointer (some ⟨w.heap.size, 0, none⟩)]] ((w.alloc (.cells #[.slice none 0 0] 75)).alloc (.cells zeroOp.cells.toArray 68)) _
  generalize (w.alloc (.cells #[.slice none 0 0] 75)).alloc (.cells zeroOp.cells.toArray 68) = W0 at hb0 hz0 ho0 hop hA ⊢
  have hJ0 : JC w.heap.size (w.heap.size + 2) 0 (fun k => k < w.heap.size ∨ k = w.heap.size + 1) W0 := ⟨⟨_, ho0, Own.nil, fun k hk => by cases hk⟩, fun h => by omega, by omega, by omega, fun k hk => by omega⟩
  have HB0 := Lib.hid hb0
  refine (ints_any (enters_of Tryz.func145 (by kernel_rfl) rfl) (w.heap.size + 1) 0 zeroOp (fld zeroOp) (JC w.heap.size (w.heap.size + 2)) (fun k => k < w.heap.size ∨ k = w.heap.size + 1) W0 (cols_use _ _ zeroOp) (JC.jok _ _ _) (.inr rfl) hA hJ0).mono ?_
  rintro e w1 ⟨⟨v1, rfl⟩, ⟨⟨v, g1, g2, g3⟩, g4, g5, g6, g7⟩, -, hx, -⟩
  have c1 := cell_of_one g1
  have HB1 : Hid (Below w.heap.size w w1) := Lib.hid (Ext.new HB0.out hx (fun i hi _ e => e.elim (fun e => e (.inl hi)) (fun e => by omega)) (by omega))
  have HG := Lib.hid (g2.mono (show w.heap.size ≤ w.heap.size + 2 by omega))
  clear g1 g2 g3 g4 g7 hx hJ0 hA hop ho0 hb0
  go_wp2_with fail
  go_ret
  exact ⟨_, rfl, HG.out, HB1.out⟩

end Go.Proofs.YtgmdimbiipemhaaGreatDoor
