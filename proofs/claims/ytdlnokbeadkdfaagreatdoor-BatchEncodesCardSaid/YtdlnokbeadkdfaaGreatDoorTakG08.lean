/- batch.taker.numbers' inner function. The taker, plain; what it has in memory. batch.taker.numbers: a contract. The taker's truths and texts, plain. Decoding, plain: what is decoded is what is encoded. batch.taker.truths: a contract. batch.taker.texts: a contract. batch.taker.all: a contract. -/
import Derived.Test.YtdlnokbeadkdfaaGreatDoorEncG08
import Derived.Test.YtdlnokbeadkdfaaGreatDoorTkP08
import Derived.Test.YtdlnokbeadkdfaaGreatDoorEncP08
import Derived.Test.YtdlnokbeadkdfaaGreatDoorCTD08
import Derived.Test.YtdlnokbeadkdfaaGreatDoorOwnSet
import Derived.Test.YtdlnokbeadkdfaaGreatDoorCTR08
import Derived.Test.YtdlnokbeadkdfaaGreatDoorCTB08
import Derived.Laws.MakeOwn
import Derived.RegionTactic
import Derived.BigRegion
namespace Go.Proofs.YtdlnokbeadkdfaaGreatDoor
open Go.RowKit Go.Deep
set_option linter.unusedSimpArgs false
set_option linter.unusedVariables false

theorem heap_cell {W W' : World} {b : Nat} (h : W'.heap[b]? = W.heap[b]?) (q : Nat) : W'.cell? ⟨b, q, none⟩ = W.cell? ⟨b, q, none⟩ := by
  unfold World.cell?
  rw [h]
/-- What the function reads, in the world at the start. -/
structure NR (W1 : World) (lo hi Br Bi rb rcap ii : Nat) (f : Nat → Int) (Bc : Nat) : Prop where
  br : W1.cell? ⟨Br, 0, none⟩ = some (.slice (some ⟨rb, 0, none⟩) 21 rcap)
  bi : W1.cell? ⟨Bi, 0, none⟩ = some (.int .i64 ii)
  row : ∀ c, c < 21 → ∃ sb sn sc, W1.cell? ⟨rb, c, none⟩ = some (.slice (some ⟨sb, 0, none⟩) sn sc) ∧ (lo ≤ sb ∧ sb < hi ∧ sb ≠ Bc) ∧ ii < sn ∧ W1.cell? ⟨sb, ii, none⟩ = some (.int .i64 (f c))
  dis : (lo ≤ Br ∧ Br < hi ∧ Br ≠ Bc) ∧ (lo ≤ Bi ∧ Bi < hi ∧ Bi ≠ Bc) ∧ (lo ≤ rb ∧ rb < hi ∧ rb ≠ Bc) ∧ lo ≤ Bc ∧ Bc < hi
/-- What it keeps. -/
def JN (W1 : World) (lo hi Bc : Nat) (c : Nat) (A : Nat → Prop) (W : World) : Prop :=
  (∀ k, A k → k < lo ∨ hi ≤ k) ∧ (∀ k, lo ≤ k → k < hi → k ≠ Bc → W.heap[k]? = W1.heap[k]?) ∧ W.heap[Bc]? = some (.cells #[.int .i64 c] 3 (0, 0)) ∧ hi ≤ W.heap.size ∧ lo ≤ Bc ∧ Bc < hi
theorem JN.jok (W1 : World) (lo hi Bc b : Nat) : JOK b (JN W1 lo hi Bc) := by
  rintro c A A' W W' ⟨h1, h2, h3, h4, h5, h6⟩ hx hA hb
  have hbn := h1 b hb
  have hs := hx.size
  refine ⟨fun k hk => (hA k hk).elim (h1 k) (fun e => .inr (by omega)), fun k k1 k2 k3 => (hx.block _ (by omega) (by omega)).trans (h2 k k1 k2 k3), (hx.block _ (by omega) (by omega)).trans h3, by omega, h5, h6⟩

set_option maxRecDepth 20000 in
set_option maxHeartbeats 1000000 in
theorem nums_use {W1 : World} {lo hi Br Bi rb rcap ii Bc : Nat} {f : Nat → Int} (hN : NR W1 lo hi Br Bi rb rcap ii f Bc) (fl : Nat → Int) : UseOK Tryz.prog 81 #[.pointer (some ⟨Br, 0, none⟩), .pointer (some ⟨Bc, 0, none⟩), .pointer (some ⟨Bi, 0, none⟩)] f fl (JN W1 lo hi Bc) := by
  rintro c A W pb po hc ⟨hA, hkeep, hBc, hhi, hlo1, hlo2⟩ hcell hfree hAp
  show Calls Tryz.prog 81 #[.pointer (some ⟨pb, po, none⟩), .bool (dlt c), .pointer (some ⟨Br, 0, none⟩), .pointer (some ⟨Bc, 0, none⟩), .pointer (some ⟨Bi, 0, none⟩)] W _
  obtain ⟨sb, sn, sc, hrow, ⟨s1, s2, s3⟩, hin, hval⟩ := hN.row c hc
  obtain ⟨⟨r1, r2, r3⟩, ⟨i1, i2, i3⟩, ⟨q1, q2, q3⟩, -, -⟩ := hN.dis
  have hp := hA pb hAp
  have hSW : (fun W : World => W.cell? ⟨Br, 0, none⟩ = some (.slice (some ⟨rb, 0, none⟩) 21 rcap) ∧ W.cell? ⟨Bc, 0, none⟩ = some (.int .i64 c) ∧ W.cell? ⟨rb, c, none⟩ = some (.slice (some ⟨sb, 0, none⟩) sn sc) ∧ W.cell? ⟨Bi, 0, none⟩ = some (.int .i64 ii) ∧ W.cell? ⟨sb, ii, none⟩ = some (.int .i64 (f c))) W.drew := ⟨(heap_cell (hkeep Br r1 r2 r3) 0).trans hN.br, cell_of_one hBc, (heap_cell (hkeep rb q1 q2 q3) c).trans hrow, (heap_cell (hkeep Bi i1 i2 i3) 0).trans hN.bi, (heap_cell (hkeep sb s1 s2 s3) ii).trans hval⟩
  have hpc : pb ≠ Bc := by omega
  have hpl := cell_lt hcell
  have hc1 : W.drew.cell? ⟨pb, po, none⟩ = some (.int .i64 (fl c)) := hcell
  have hf1 : W.drew.frozen? ⟨pb, po, none⟩ = false := hfree
  have hB1 : W.drew.heap[Bc]? = some (.cells #[.int .i64 c] 3 (0, 0)) := hBc
  have hW0 : Ext (fun _ => False) W W.drew := (Ext.refl _ _).drew
  have HK := Lib.hid hkeep
  have HA := Lib.hid hA
  clear hkeep hA hcell hfree hBc hrow hval
  go_enter Tryz.func81, Tryz.ntmps81
  go_upto_region 0 with fail
  refine wp_region_s (fun W : World => W.cell? ⟨Br, 0, none⟩ = some (.slice (some ⟨rb, 0, none⟩) 21 rcap) ∧ W.cell? ⟨Bc, 0, none⟩ = some (.int .i64 c) ∧ W.cell? ⟨rb, c, none⟩ = some (.slice (some ⟨sb, 0, none⟩) sn sc) ∧ W.cell? ⟨Bi, 0, none⟩ = some (.int .i64 ii) ∧ W.cell? ⟨sb, ii, none⟩ = some (.int .i64 (f c))) (fun i => i == 9) (by kernel_rfl) ?_
  generalize W.drew = W2 at hSW hc1 hf1 hB1 hW0 ⊢
  have hc21 : (c : Int) < 21 := by omega
  have hc0 : (0 : Int) ≤ (c : Int) := by omega
  have hi0 : (0 : Int) ≤ (ii : Int) := by omega
  have hi1 : (ii : Int) < (sn : Int) := by omega
  refine wpAnyS_take (i := 0) (d := some 7) rfl rfl rfl (by kernel_rfl) (by kernel_rfl) (by kernel_rfl) (by kernel_rfl) (fun _ _ _ h => h) (.inl ⟨by rfl, fun W hW => by obtain ⟨q0, q1, q2, q3, q4⟩ := hW; go_simp; try rfl⟩) hSW ?_
  try simp only [Act.put, List.setIfInBounds_toArray, List.set_cons_zero, List.set_cons_succ]
  refine wpAnyS_take (i := 1) (d := some 8) (v := .slice (some ⟨rb, 0, none⟩) 21 rcap) rfl rfl rfl (by kernel_rfl) (by kernel_rfl) (by kernel_rfl) (by kernel_rfl) (fun _ _ _ h => h) (.inl ⟨by rfl, fun W hW => by obtain ⟨q0, q1, q2, q3, q4⟩ := hW; go_simp; try rfl⟩) hSW ?_
  try simp only [Act.put, List.setIfInBounds_toArray, List.set_cons_zero, List.set_cons_succ]
  refine wpAnyS_take (i := 2) (d := some 9) (v := .int .i64 c) rfl rfl rfl (by kernel_rfl) (by kernel_rfl) (by kernel_rfl) (by kernel_rfl) (fun _ _ _ h => h) (.inl ⟨by rfl, fun W hW => by obtain ⟨q0, q1, q2, q3, q4⟩ := hW; go_simp; try rfl⟩) hSW ?_
  try simp only [Act.put, List.setIfInBounds_toArray, List.set_cons_zero, List.set_cons_succ]
  refine wpAnyS_take (i := 3) (d := some 10) (v := .pointer (some ⟨rb, c, none⟩)) rfl rfl rfl (by kernel_rfl) (by kernel_rfl) (by kernel_rfl) (by kernel_rfl) (fun _ _ _ h => h) (.inl ⟨by rfl, fun W hW => by obtain ⟨q0, q1, q2, q3, q4⟩ := hW; go_simp; try rfl⟩) hSW ?_
  try simp only [Act.put, List.setIfInBounds_toArray, List.set_cons_zero, List.set_cons_succ]
  refine wpAnyS_take (i := 4) (d := some 11) (v := .slice (some ⟨sb, 0, none⟩) sn sc) rfl rfl rfl (by kernel_rfl) (by kernel_rfl) (by kernel_rfl) (by kernel_rfl) (fun _ _ _ h => h) (.inl ⟨by rfl, fun W hW => by obtain ⟨q0, q1, q2, q3, q4⟩ := hW; go_simp; try rfl⟩) hSW ?_
  try simp only [Act.put, List.setIfInBounds_toArray, List.set_cons_zero, List.set_cons_succ]
  refine wpAnyS_take (i := 5) (d := some 12) (v := .int .i64 ii) rfl rfl rfl (by kernel_rfl) (by kernel_rfl) (by kernel_rfl) (by kernel_rfl) (fun _ _ _ h => h) (.inl ⟨by rfl, fun W hW => by obtain ⟨q0, q1, q2, q3, q4⟩ := hW; go_simp; try rfl⟩) hSW ?_
  try simp only [Act.put, List.setIfInBounds_toArray, List.set_cons_zero, List.set_cons_succ]
  refine wpAnyS_take (i := 6) (d := some 13) (v := .pointer (some ⟨sb, ii, none⟩)) rfl rfl rfl (by kernel_rfl) (by kernel_rfl) (by kernel_rfl) (by kernel_rfl) (fun _ _ _ h => h) (.inl ⟨by rfl, fun W hW => by obtain ⟨q0, q1, q2, q3, q4⟩ := hW; go_simp; try rfl⟩) hSW ?_
  try simp only [Act.put, List.setIfInBounds_toArray, List.set_cons_zero, List.set_cons_succ]
  refine wpAnyS_take (i := 7) (d := some 14) (v := .int .i64 (f c)) rfl rfl rfl (by kernel_rfl) (by kernel_rfl) (by kernel_rfl) (by kernel_rfl) (fun _ _ _ h => h) (.inl ⟨by rfl, fun W hW => by obtain ⟨q0, q1, q2, q3, q4⟩ := hW; go_simp; try rfl⟩) hSW ?_
  try simp only [Act.put, List.setIfInBounds_toArray, List.set_cons_zero, List.set_cons_succ]
  refine wpAnyS_take (i := 8) (d := some 15) (v := .pointer (some ⟨pb, po, none⟩)) rfl rfl rfl (by kernel_rfl) (by kernel_rfl) (by kernel_rfl) (by kernel_rfl) (fun _ _ _ h => h) (.inl ⟨by rfl, fun W hW => by obtain ⟨q0, q1, q2, q3, q4⟩ := hW; go_simp; try rfl⟩) hSW ?_
  try simp only [Act.put, List.setIfInBounds_toArray, List.set_cons_zero, List.set_cons_succ]
  refine wpAnyS_mute (i := 9) (d := none) (w' := W2.setCell ⟨pb, po, none⟩ (.int .i64 (f c))) (by kernel_rfl) rfl rfl (by rfl) (by go_simp; try rfl) (fun h => by cases h) ?_
  try simp only [Act.put, List.setIfInBounds_toArray, List.set_cons_zero, List.set_cons_succ]
  refine wpAnyS_done (by kernel_rfl) ?_ _
  have hx3 : Ext (· = pb) W2 (W2.setCell ⟨pb, po, none⟩ (.int .i64 (f c))) := (Ext.refl (· = pb) W2).setCell (p := ⟨pb, po, none⟩) (.inr rfl) _
  have hz2 : W.heap.size ≤ W2.heap.size := hW0.size
  have hB3 : (W2.setCell ⟨pb, po, none⟩ (.int .i64 (f c))).heap[Bc]? = some (.cells #[.int .i64 c] 3 (0, 0)) := (hx3.block _ (by omega) (fun e => hpc e.symm)).trans hB1
  have hc3 := cell_setCell_same8 (v := .int .i64 (f c)) hc1
  have hP3 : ∀ q, q ≠ po → (W2.setCell ⟨pb, po, none⟩ (.int .i64 (f c))).cell? ⟨pb, q, none⟩ = W.cell? ⟨pb, q, none⟩ := fun q hq => (cell_setCell_ne8 hq).trans (hW0.cell (p := ⟨pb, q, none⟩) hpl id)
  have hF3 : ∀ q, (W2.setCell ⟨pb, po, none⟩ (.int .i64 (f c))).frozen? ⟨pb, q, none⟩ = W.frozen? ⟨pb, q, none⟩ := fun q => (World.frozen?_setCell _ _ _ _).trans (hW0.frozen (p := ⟨pb, q, none⟩) hpl id)
  have hxa : Ext (· = pb) W (W2.setCell ⟨pb, po, none⟩ (.int .i64 (f c))) := (hW0.mono (fun _ _ f => f.elim)).andThen hx3 (fun i hi e => e)
  have hsh3 : Shp pb W (W2.setCell ⟨pb, po, none⟩ (.int .i64 (f c))) := (Shp.same (hW0.block pb hpl id)).trans (Shp.set _ _ _ _)
  generalize W2.setCell ⟨pb, po, none⟩ (.int .i64 (f c)) = W3 at hB3 hc3 hP3 hF3 hxa hsh3 ⊢
  have b3 := cell_of_one hB3
  have f3 := free_of_one hB3
  have hx4 : Ext (· = Bc) W3 (W3.setCell ⟨Bc, 0, none⟩ (.int .i64 ((c + 1 : Nat) : Int))) := (Ext.refl (· = Bc) W3).setCell (p := ⟨Bc, 0, none⟩) (.inr rfl) _
  have hz3 := hxa.size
  have hall : (∃ v, (Ending.returned (.tuple #[]) = .returned v)) ∧ JN W1 lo hi Bc (c + 1) A (W3.setCell ⟨Bc, 0, none⟩ (.int .i64 ((c + 1 : Nat) : Int))) ∧ (W3.setCell ⟨Bc, 0, none⟩ (.int .i64 ((c + 1 : Nat) : Int))).cell? ⟨pb, po, none⟩ = some (.int .i64 (f c)) ∧
      (∀ q, q ≠ po → (W3.setCell ⟨Bc, 0, none⟩ (.int .i64 ((c + 1 : Nat) : Int))).cell? ⟨pb, q, none⟩ = W.cell? ⟨pb, q, none⟩) ∧ (∀ q, (W3.setCell ⟨Bc, 0, none⟩ (.int .i64 ((c + 1 : Nat) : Int))).frozen? ⟨pb, q, none⟩ = W.frozen? ⟨pb, q, none⟩) ∧ Ext (fun k => ¬ A k ∨ k = pb) W (W3.setCell ⟨Bc, 0, none⟩ (.int .i64 ((c + 1 : Nat) : Int))) ∧ Shp pb W (W3.setCell ⟨Bc, 0, none⟩ (.int .i64 ((c + 1 : Nat) : Int))) :=
    ⟨⟨_, rfl⟩, ⟨HA.out, fun k k1 k2 k3 => (hx4.block _ (by omega) k3).trans ((hxa.block _ (by omega) (by omega)).trans (HK.out k k1 k2 k3)), one_setCell hB3, by rw [World.size_setCell]; omega, hlo1, hlo2⟩,
     (hx4.cell (p := ⟨pb, po, none⟩) (by show pb < _; omega) hpc).trans hc3, fun q hq => (hx4.cell (p := ⟨pb, q, none⟩) (by show pb < _; omega) hpc).trans (hP3 q hq), fun q => (hx4.frozen (p := ⟨pb, q, none⟩) (by show pb < _; omega) hpc).trans (hF3 q),
     ((hxa.mono (T := fun k => ¬ A k ∨ k = pb) (fun k _ e => .inr e))).andThen hx4 (fun i hi e => .inl (fun ha => by have := HA.out i ha; omega)), hsh3.trans (Shp.same (hx4.block pb (by omega) hpc))⟩
  have HFIN := Lib.hid hall.2
  clear hall hsh3 hx4 hxa hP3 hF3 hx3 hB3 hSW
  go_wp2_with fail
  go_end0
  exact ⟨⟨_, rfl⟩, HFIN.out⟩

end Go.Proofs.YtdlnokbeadkdfaaGreatDoor

namespace Go.Proofs.YtdlnokbeadkdfaaGreatDoor
open Go.RowKit Go.Deep
set_option linter.unusedSimpArgs false
set_option linter.unusedVariables false

/-- One column of numbers. -/
noncomputable def colD (n : Nat) (d : Bool) (b : List UInt8) : Option (List Int × Nat) := if d then decD n b else decR n none b
/-- The first c columns of numbers, and what is left. -/
noncomputable def decCols (n : Nat) : Nat → List UInt8 → Option (List (List Int) × List UInt8)
  | 0, b => some ([], b)
  | c + 1, b => (decCols n c b).bind fun p => (colD n (dlt c) p.2).map fun q => (p.1 ++ [q.1], p.2.drop q.2)
theorem decCols_step {n c : Nat} {b r : List UInt8} {L : List (List Int)} {l : List Int} {u : Nat} (h : decCols n c b = some (L, r)) (k : colD n (dlt c) r = some (l, u)) : decCols n (c + 1) b = some (L ++ [l], r.drop u) := by
  simp [decCols, h, k]
theorem decCols_none {n c : Nat} {b : List UInt8} (h : decCols n c b = none) : ∀ d, decCols n (c + d) b = none
  | 0 => h
  | d + 1 => by
    show (decCols n (c + d) b).bind _ = none
    rw [decCols_none h d]
    rfl
theorem decCols_bad {n c : Nat} {b r : List UInt8} {L : List (List Int)} (h : decCols n c b = some (L, r)) (k : colD n (dlt c) r = none) {d : Nat} (hd : c < d) : decCols n d b = none := by
  have h1 : decCols n (c + 1) b = none := by simp [decCols, h, k]
  have := decCols_none h1 (d - (c + 1))
  rwa [show c + 1 + (d - (c + 1)) = d by omega] at this
theorem decR_facts {n : Nat} (hn : n ≤ 65536) {b : List UInt8} {l : List Int} {u : Nat} (h : decR n none b = some (l, u)) : l.length = n ∧ u ≤ b.length := by
  rcases (decR_iff n (by omega) none b l u).1 h with ⟨h1, _, _, h2, h3⟩ | ⟨h1, h2, h3⟩
  · exact ⟨h1, by rw [h3]; exact h2.length_le⟩
  · subst h2
    exact ⟨by rw [h1]; rfl, by omega⟩
theorem colD_facts {n : Nat} (hn : n ≤ 65536) {d : Bool} {b : List UInt8} {l : List Int} {u : Nat} (h : colD n d b = some (l, u)) : l.length = n ∧ u ≤ b.length := by
  unfold colD at h
  cases d with
  | false => exact decR_facts hn h
  | true =>
    simp only [if_true] at h
    unfold decD at h
    rw [Option.map_eq_some_iff] at h
    obtain ⟨⟨l0, u0⟩, h1, h2⟩ := h
    cases h2
    have := decR_facts hn h1
    exact ⟨by rw [sumsB_len]; exact this.1, this.2⟩
theorem decCols_len {n : Nat} (hn : n ≤ 65536) : ∀ {c : Nat} {b r : List UInt8} {L : List (List Int)}, decCols n c b = some (L, r) → L.length = c ∧ ∀ x ∈ L, x.length = n
  | 0, b, r, L, h => by
    cases h
    exact ⟨rfl, fun x hx => by simp at hx⟩
  | c + 1, b, r, L, h => by
    unfold decCols at h
    rw [Option.bind_eq_some_iff] at h
    obtain ⟨⟨L0, r0⟩, h1, h2⟩ := h
    rw [Option.map_eq_some_iff] at h2
    obtain ⟨⟨l, u⟩, h3, h4⟩ := h2
    cases h4
    have h5 := decCols_len hn h1
    have h6 := colD_facts hn h3
    refine ⟨by rw [List.length_append, h5.1]; rfl, fun x hx => ?_⟩
    rcases List.mem_append.1 hx with hx | hx
    · exact h5.2 x hx
    · rw [List.mem_singleton.1 hx]; exact h6.1
/-- The numbers of operation j. -/
def colF (L : List (List Int)) (j c : Nat) : Int := (L.getD c []).getD j 0
/-- The first i operations have their numbers. -/
def mixN (L : List (List Int)) (i : Nat) (ls : List OpD) : List OpD := ls.mapIdx fun j o => if j < i then o.withF (colF L j) else o
theorem mixN_len (L : List (List Int)) (i : Nat) (ls : List OpD) : (mixN L i ls).length = ls.length := by simp [mixN]
theorem mixN_zero (L : List (List Int)) (ls : List OpD) : mixN L 0 ls = ls := by
  apply List.ext_getElem?
  intro j
  simp [mixN]
theorem mixN_at (L : List (List Int)) (i : Nat) {ls : List OpD} {x : OpD} (h : ls[i]? = some x) : (mixN L i ls)[i]? = some x := by simp [mixN, h]
theorem mixN_succ (L : List (List Int)) (i : Nat) {ls : List OpD} {x : OpD} (h : ls[i]? = some x) : mixN L (i + 1) ls = (mixN L i ls).set i (x.withF (colF L i)) := by
  apply List.ext_getElem?
  intro j
  have hi := (List.getElem?_eq_some_iff.1 h).1
  by_cases e : j = i
  · subst e
    rw [List.getElem?_set_self (by rw [mixN_len]; exact hi)]
    simp [mixN, h]
  · rw [List.getElem?_set_ne (Ne.symm e)]
    simp only [mixN, List.getElem?_mapIdx]
    congr 1
    funext o
    by_cases h1 : j < i
    · rw [if_pos h1, if_pos (by omega)]
    · rw [if_neg h1, if_neg (by omega)]
/-- One of its own operations has other numbers now. -/
theorem Own.putOp {base g n cap i : Nat} {W W' : World} {l : List OpD} {x : OpD} {f : Nat → Int} (h : Own OpD.cells 26 33 base W (.slice (some ⟨g, 0, none⟩) n cap) l) (hx : l[i]? = some x) (hA : At g (i * 26) x f W') (hR : Rst g (i * 26) W W') :
    Own OpD.cells 26 33 base W' (.slice (some ⟨g, 0, none⟩) n cap) (l.set i (x.withF f)) := by
  obtain ⟨h1, h2⟩ := h
  have hi := (List.getElem?_eq_some_iff.1 hx).1
  rcases h2 with ⟨e1, _⟩ | ⟨g', cap', cur, e1, hb, hg, hn, hm, hs, ht⟩
  · cases e1
  · cases e1
    obtain ⟨cs', k1, k2, k3⟩ := hR cur _ hg
    refine ⟨by rw [length_flatMap_k OpD.len], .inr ⟨g, cap, cs', by rw [List.length_set], hb, k1, by rw [List.length_set]; exact hn, hm, by rw [k2]; exact hs, ?_⟩⟩
    apply List.ext_getElem?
    intro q
    rw [List.length_set]
    by_cases hq : q < l.length * 26
    · rw [List.getElem?_take_of_lt hq, Array.getElem?_toList]
      have hdm : q / 26 * 26 + q % 26 = q := by omega
      by_cases e : q / 26 = i
      · have hset : (l.set i (x.withF f))[i]? = some (x.withF f) := List.getElem?_set_self hi
        obtain ⟨u, hu⟩ : ∃ u, (x.withF f).cells[q % 26]? = some u := ⟨_, List.getElem?_eq_getElem (by rw [OpD.len]; omega)⟩
        have h5 := getElem?_flatMap_k OpD.len _ i _ hset _ _ hu
        have h6 := hA.cells _ _ hu
        unfold World.cell? at h6
        rw [k1] at h6
        rw [← e, hdm] at h5 h6
        rw [← e] 
        rw [h5]
        exact h6
      · obtain ⟨y, hy⟩ : ∃ y, l[q / 26]? = some y := ⟨_, List.getElem?_eq_getElem (by omega)⟩
        have hset : (l.set i (x.withF f))[q / 26]? = some y := by rw [List.getElem?_set_ne (Ne.symm e)]; exact hy
        obtain ⟨u, hu⟩ : ∃ u, y.cells[q % 26]? = some u := ⟨_, List.getElem?_eq_getElem (by rw [OpD.len]; omega)⟩
        have h5 := getElem?_flatMap_k OpD.len _ _ _ hset _ _ hu
        have h6 := getElem?_flatMap_k OpD.len _ _ _ hy _ _ hu
        rw [hdm] at h5 h6
        rw [h5, k3 q (by omega), ← Array.getElem?_toList, ← List.getElem?_take_of_lt hq, ht, h6]
    · rw [List.getElem?_eq_none (by rw [List.length_take]; omega), List.getElem?_eq_none (by rw [length_flatMap_k OpD.len, List.length_set]; omega)]
/-- The taker in memory. -/
structure TKS (w0 : World) (T : Nat) (W : World) (tb : Value) (r : List UInt8) (tl : Value) (ls : List OpD) : Prop where
  cell : W.heap[T]? = some (.cells #[tb, tl] 66 (0, 0))
  byt : SliceIs u8c 1 w0 tb r
  own : Own OpD.cells 26 33 w0.heap.size W tl ls
  bel : Below w0.heap.size w0 W
  new : w0.heap.size ≤ T
  flt : W.heap[T + 1]? = some (.cells #[.int .i64 0] 67 (0, 0))
/-- What an error keeps. -/
def Kp (w0 : World) (T : Nat) (W : World) : Prop := Below w0.heap.size w0 W ∧ W.heap[T + 1]? = some (.cells #[.int .i64 0] 67 (0, 0))
theorem TKS.kp {w0 : World} {T : Nat} {W : World} {tb tl : Value} {r : List UInt8} {ls : List OpD} (h : TKS w0 T W tb r tl ls) : Kp w0 T W := ⟨h.bel, h.flt⟩
theorem TKS.fltKeep {w0 : World} {T : Nat} {W W' : World} {tb tl : Value} {r : List UInt8} {ls : List OpD} {S : Nat → Prop} (h : TKS w0 T W tb r tl ls) (hx : Ext S W W') (hS : ¬ S (T + 1)) : W'.heap[T + 1]? = some (.cells #[.int .i64 0] 67 (0, 0)) := (hx.block _ (Array.getElem?_eq_some_iff.1 h.flt).1 hS).trans h.flt
theorem TKS.ext {w0 : World} {T : Nat} {W W' : World} {tb tl : Value} {r : List UInt8} {ls : List OpD} {S : Nat → Prop} (h : TKS w0 T W tb r tl ls) (hx : Ext S W W') (hT : ¬ S T) (hl : ∀ k, tl.ownBlock = some k → ¬ S k) (hS : ∀ k, k < w0.heap.size → ¬ S k) (hF : ¬ S (T + 1)) : TKS w0 T W' tb r tl ls :=
  ⟨(hx.block _ (Array.getElem?_eq_some_iff.1 h.cell).1 hT).trans h.cell, h.byt, h.own.ext hx hl, Ext.new h.bel hx (fun i hi _ e => hS i hi e) h.bel.size, h.new, h.fltKeep hx hF⟩
theorem TKS.below {w0 : World} {T : Nat} {W W' : World} {tb tl : Value} {r : List UInt8} {ls : List OpD} (h : TKS w0 T W tb r tl ls) (hb : Below W.heap.size W W') : TKS w0 T W' tb r tl ls :=
  h.ext (Ext.of_below (S := fun _ => False) hb) id (fun _ _ => id) (fun _ _ => id) id
theorem TKS.bytes {w0 : World} {T : Nat} {W : World} {tb tl : Value} {r : List UInt8} {ls : List OpD} (h : TKS w0 T W tb r tl ls) : SliceIs u8c 1 W tb r := h.byt.below h.bel

end Go.Proofs.YtdlnokbeadkdfaaGreatDoor

namespace Go.Proofs.YtdlnokbeadkdfaaGreatDoor
open Go.RowKit Go.Deep
set_option linter.unusedSimpArgs false
set_option linter.unusedVariables false

def slc (s : Sl) : List Value := [.slice s.a s.n s.cap]
theorem slc_len (s : Sl) : (slc s).length = 1 := rfl
theorem slc_one (s : Sl) : ∀ u ∈ slc s, u.oneCell' = true := fun u hu => by rw [slc, List.mem_singleton] at hu; subst hu; rfl
theorem slc_new (W : World) (s : Sl) : ∀ j u, (slc s)[j]? = some u → (W.alloc (.cells #[.slice s.a s.n s.cap] 53)).cell? ⟨W.heap.size, j, none⟩ = some u := by
  intro j u hj
  rw [World.cell?_alloc_at _ _ _ _ rfl, ← hj, slc]
  simp
theorem info_rows2 : (Tryz.prog.info? 53).map (fun i => (i.zero, i.size, i.bytes)) = some (some (.slice none 0 0), 1, 24) := by kernel_rfl
/-- What the first loop of numbers knows. -/
structure NS (w0 : World) (T : Nat) (w : World) (tl : Value) (ls : List OpD) (r : List UInt8) (ca : Option Addr) (cc k : Nat) (W : World) (lo : Nat) (tb rv : Value) (L : List (List Int)) (r' : List UInt8) (rs : List Sl) : Prop where
  dec : decCols ls.length k r = some (L, r')
  tks : TKS w0 T W tb r' tl ls
  row : W.heap[lo]? = some (.cells #[rv] 49 (0, 0))
  own : Own slc 1 53 (lo + 1) W rv rs
  num : ∀ i s, rs[i]? = some s → Own intc 1 3 (lo + 1) W (.slice s.a s.n s.cap) (L.getD i [])
  len : rs.length = k
  col : Own btc 1 4 (lo + 1) W (.slice ca 21 cc) (colsL 21)
  siz : lo + 1 ≤ W.heap.size
  apt : T < lo ∧ ∀ b, tl.ownBlock = some b → b < lo
theorem NS.below {w0 : World} {T : Nat} {w : World} {tl : Value} {ls : List OpD} {r : List UInt8} {ca : Option Addr} {cc k : Nat} {W W' : World} {lo : Nat} {tb rv : Value} {L : List (List Int)} {r' : List UInt8} {rs : List Sl} (h : NS w0 T w tl ls r ca cc k W lo tb rv L r' rs) (hb : Below W.heap.size W W') : NS w0 T w tl ls r ca cc k W' lo tb rv L r' rs :=
  ⟨h.dec, h.tks.below hb, (hb.block _ (by have := h.siz; omega)).trans h.row, h.own.below1 hb, fun i s hs => (h.num i s hs).below1 hb, h.len, h.col.below1 hb, Nat.le_trans h.siz hb.size, h.apt⟩
theorem NS.push {w0 : World} {T : Nat} {w : World} {tl : Value} {ls : List OpD} {r : List UInt8} {ca : Option Addr} {cc k : Nat} {w3 w4 : World} {lo : Nat} {tb tb' rv rv' : Value} {L : List (List Int)} {r' : List UInt8} {rs : List Sl} {l : List Int} {u : Nat} {s : Sl} {x : Obj} (h : NS w0 T w tl ls r ca cc k w3 lo tb rv L r' rs) (hn : ls.length ≤ 65536)
    (hcd : colD ls.length (dlt k) r' = some (l, u)) (hl : Own intc 1 3 (lo + 1) w3 (.slice s.a s.n s.cap) l) (h4 : Own slc 1 53 (lo + 1) w4 rv' (rs ++ [s])) (hx : Ext (fun b => rv.ownBlock = some b) (w3.alloc x) w4) (hbyt : SliceIs u8c 1 w0 tb' (r'.drop u)) :
    NS w0 T w tl ls r ca cc (k + 1) ((w4.setCell ⟨lo, 0, none⟩ rv').setCell ⟨T, 0, none⟩ tb') lo tb' rv' (L ++ [l]) (r'.drop u) (rs ++ [s]) := by
  have hL := (decCols_len hn h.dec).1
  have hxa : Ext (fun b => rv.ownBlock = some b) w3 w4 := ((Ext.refl _ _).alloc _).andThen hx (fun i hi e => e)
  have hx5 : Ext (· = lo) w4 (w4.setCell ⟨lo, 0, none⟩ rv') := (Ext.refl (· = lo) w4).setCell (p := ⟨lo, 0, none⟩) (.inr rfl) _
  have hx6 : Ext (· = T) (w4.setCell ⟨lo, 0, none⟩ rv') ((w4.setCell ⟨lo, 0, none⟩ rv').setCell ⟨T, 0, none⟩ tb') := (Ext.refl (· = T) _).setCell (p := ⟨T, 0, none⟩) (.inr rfl) _
  have hTl := h.apt.1
  have hno : ∀ b, rv.ownBlock = some b → lo + 1 ≤ b := fun b hb => (h.own.blk b hb).1
  have hz := hxa.size
  have hsz := h.siz
  have hz5 : (w4.setCell ⟨lo, 0, none⟩ rv').heap.size = w4.heap.size := World.size_setCell _ _ _
  have hall : Ext (fun b => rv.ownBlock = some b ∨ b = lo ∨ b = T) w3 ((w4.setCell ⟨lo, 0, none⟩ rv').setCell ⟨T, 0, none⟩ tb') := ((hxa.mono (fun _ _ e => .inl e)).andThen hx5 (fun i hi e => .inr (.inl e))).andThen hx6 (fun i hi e => .inr (.inr e))
  have hrow4 : w4.heap[lo]? = some (.cells #[rv] 49 (0, 0)) := (hxa.block _ (by omega) (fun e => by have := hno _ e; omega)).trans h.row
  have hT5 : (w4.setCell ⟨lo, 0, none⟩ rv').heap[T]? = some (.cells #[tb, tl] 66 (0, 0)) := (hx5.block _ (by omega) (by omega)).trans ((hxa.block _ (by omega) (fun e => by have := hno _ e; omega)).trans h.tks.cell)
  have hnew : w0.heap.size ≤ T := h.tks.new
  have keep : ∀ {α : Type} {ea : α → List Value} {q : Nat} {t : TypeId} {v : Value} {m : List α}, t ≠ 53 → Own ea q t (lo + 1) w3 v m → Own ea q t (lo + 1) ((w4.setCell ⟨lo, 0, none⟩ rv').setCell ⟨T, 0, none⟩ tb') v m := fun ht hm => hm.ext hall (fun b hb e => by
    rcases e with e | e | e
    · obtain ⟨c1, g1⟩ := hm.tag hb
      obtain ⟨c2, g2⟩ := h.own.tag e
      rw [g1] at g2
      cases g2
      exact ht rfl
    · have := (hm.blk b hb).1; omega
    · have := (hm.blk b hb).1; omega)
  refine ⟨decCols_step h.dec hcd, ⟨?_, hbyt, h.tks.own.ext hall (fun b hb e => ?_), Ext.new h.tks.bel hall (fun i hi _ e => ?_) h.tks.bel.size, hnew, h.tks.fltKeep hall (fun e => by
    have hf := h.tks.flt
    rcases e with e | e | e
    · obtain ⟨c2, g2⟩ := h.own.tag e
      rw [hf] at g2
      cases g2
    · have g2 := h.row
      rw [← e, hf] at g2
      cases g2
    · omega)⟩, ?_, (h4.ext hx5 (fun b hb e => by have := (h4.blk b hb).1; omega)).ext hx6 (fun b hb e => by have := (h4.blk b hb).1; omega), fun i s2 hs => ?_, by rw [List.length_append, h.len]; rfl, keep (by decide) h.col, by have := hall.size; omega, h.apt⟩
  · rw [heap_setCell_same _ T 0 _ _ _ hT5]
    rfl
  · have := h.apt.2 b hb
    rcases e with e | e | e
    · have := hno b e; omega
    · omega
    · have hc := h.tks.cell
      obtain ⟨c1, g1⟩ := h.tks.own.tag hb
      rw [e, hc] at g1
      cases g1
  · rcases e with e | e | e
    · have := hno i e; omega
    · omega
    · omega
  · exact (hx6.block _ (by omega) (by omega)).trans (one_setCell hrow4)
  · by_cases hi : i < rs.length
    · rw [List.getElem?_append_left hi] at hs
      have := keep (by decide) (h.num i s2 hs)
      rwa [show (L ++ [l]).getD i [] = L.getD i [] by rw [List.getD_eq_getElem?_getD, List.getD_eq_getElem?_getD, List.getElem?_append_left (by rw [hL, ← h.len]; exact hi)]]
    · rw [List.getElem?_append_right (by omega)] at hs
      have hi2 : i - rs.length = 0 := by
        have := (List.getElem?_eq_some_iff.1 hs).1
        simp at this
        omega
      rw [hi2] at hs
      cases hs
      rw [show (L ++ [l]).getD i [] = l by rw [List.getD_eq_getElem?_getD, List.getElem?_append_right (by rw [hL, ← h.len]; omega), hL, ← h.len, hi2]; rfl]
      exact keep (by decide) hl
/-- What the second loop of numbers knows. -/
structure N2 (w0 : World) (T : Nat) (tl : Value) (ls : List OpD) (lo : Nat) (tb rv : Value) (L : List (List Int)) (r' : List UInt8) (rs : List Sl) (i : Nat) (W : World) : Prop where
  tks : TKS w0 T W tb r' tl (mixN L i ls)
  row : W.heap[lo]? = some (.cells #[rv] 49 (0, 0))
  own : Own slc 1 53 (lo + 1) W rv rs
  num : ∀ i s, rs[i]? = some s → Own intc 1 3 (lo + 1) W (.slice s.a s.n s.cap) (L.getD i [])
  siz : lo + 1 ≤ W.heap.size
/-- What the inner function reads. -/
theorem N2.reads {w0 : World} {T : Nat} {tl : Value} {ls : List OpD} {lo : Nat} {tb rv : Value} {L : List (List Int)} {r' : List UInt8} {rs : List Sl} {i : Nat} {W : World} (h : N2 w0 T tl ls lo tb rv L r' rs i W) (hr : rs.length = 21) (hL : L.length = 21 ∧ ∀ x ∈ L, x.length = ls.length) (hi : i < ls.length) :
    ∃ rb rcap, rv = .slice (some ⟨rb, 0, none⟩) 21 rcap ∧ lo + 1 ≤ rb ∧ rb < W.heap.size ∧ ∀ c, c < 21 → ∃ sb sn sc, W.cell? ⟨rb, c, none⟩ = some (.slice (some ⟨sb, 0, none⟩) sn sc) ∧ (lo + 1 ≤ sb ∧ sb < W.heap.size) ∧ i < sn ∧ W.cell? ⟨sb, i, none⟩ = some (.int .i64 (colF L i c)) := by
  rcases h.own.eq_slice with ⟨_, e⟩ | ⟨rb, rcap, e, h1, h2⟩
  · rw [e] at hr; simp at hr
  · rw [hr] at e
    refine ⟨rb, rcap, e, h1, h2, fun c hc => ?_⟩
    obtain ⟨s, hs⟩ : ∃ s, rs[c]? = some s := ⟨_, List.getElem?_eq_getElem (by omega)⟩
    have hown := h.own
    rw [e, ← hr] at hown
    have h3 := hown.cellAt slc_len (i := c) (j := 0) hs rfl
    rw [Nat.mul_one, Nat.add_zero] at h3
    have h4 := h.num c s hs
    have hLc : (L.getD c []).length = ls.length := by
      obtain ⟨y, hy⟩ : ∃ y, L[c]? = some y := ⟨_, List.getElem?_eq_getElem (by omega)⟩
      rw [List.getD_eq_getElem?_getD, hy]
      exact hL.2 y (List.mem_of_getElem? hy)
    rcases h4.eq_slice with ⟨_, e4⟩ | ⟨sb, sc, e4, h5, h6⟩
    · rw [e4] at hLc; simp at hLc; omega
    · obtain ⟨x, hx⟩ : ∃ x, (L.getD c [])[i]? = some x := ⟨_, List.getElem?_eq_getElem (by omega)⟩
      have h7 := h4
      rw [e4] at h7
      have h8 := h7.cellAt intc_len (i := i) (j := 0) hx rfl
      rw [Nat.mul_one, Nat.add_zero] at h8
      refine ⟨sb, _, sc, by rw [h3, e4], ⟨h5, h6⟩, by omega, ?_⟩
      rw [h8]
      unfold colF
      rw [List.getD_eq_getElem?_getD (l := L.getD c []), hx]
      rfl
theorem N2.ext {w0 : World} {T : Nat} {tl : Value} {ls : List OpD} {lo : Nat} {tb rv : Value} {L : List (List Int)} {r' : List UInt8} {rs : List Sl} {i : Nat} {W W' : World} {S : Nat → Prop} (h : N2 w0 T tl ls lo tb rv L r' rs i W) (hx : Ext S W W') (hS : ∀ k, S k → k < W.heap.size → False) (ha : T < lo ∧ ∀ b, tl.ownBlock = some b → b < lo) : N2 w0 T tl ls lo tb rv L r' rs i W' :=
  ⟨h.tks.ext hx (fun e => hS _ e (by have := h.siz; omega)) (fun k hk e => hS k e (by have := ha.2 k hk; have := h.siz; omega)) (fun k hk e => hS k e (by have := h.tks.bel.size; omega)) (fun e => hS _ e (Array.getElem?_eq_some_iff.1 h.tks.flt).1), (hx.block _ (by have := h.siz; omega) (fun e => hS _ e (by have := h.siz; omega))).trans h.row, h.own.ext hx (fun b hb e => hS b e (h.own.blk b hb).2), fun j s hs => (h.num j s hs).ext hx (fun b hb e => hS b e ((h.num j s hs).blk b hb).2), Nat.le_trans h.siz hx.size⟩
theorem N2.put {w0 : World} {T g lc Bc : Nat} {ls : List OpD} {lo : Nat} {tb rv : Value} {L : List (List Int)} {r' : List UInt8} {rs : List Sl} {i : Nat} {W0 W W' : World} {x : OpD} (h : N2 w0 T (.slice (some ⟨g, 0, none⟩) ls.length lc) ls lo tb rv L r' rs i W) (h0 : N2 w0 T (.slice (some ⟨g, 0, none⟩) ls.length lc) ls lo tb rv L r' rs i W0) (hx : Ext (fun k => k = g ∨ k = Bc) W W') (hBc : W0.heap.size ≤ Bc) (hxi : ls[i]? = some x) (hA : At g (i * 26) x (colF L i) W') (hR : Rst g (i * 26) W W') (ha : T < lo ∧ ∀ b, (Value.slice (some ⟨g, 0, none⟩) ls.length lc).ownBlock = some b → b < lo) :
    N2 w0 T (.slice (some ⟨g, 0, none⟩) ls.length lc) ls lo tb rv L r' rs (i + 1) W' := by
  have hg := ha.2 g rfl
  have h1 := h0.siz
  have hTg : T ≠ g := fun e => by
    have h1 := h.tks.cell
    obtain ⟨c2, h2⟩ := h.tks.own.tag (b := g) rfl
    rw [e, h2] at h1
    cases h1
  have hgn := (h.tks.own.blk g rfl).1
  have hb0 := h.tks.bel.size
  have hb1 := h0.tks.bel.size
  refine ⟨⟨(hx.block T (Array.getElem?_eq_some_iff.1 h.tks.cell).1 (fun e => e.elim hTg (fun e => by omega))).trans h.tks.cell, h.tks.byt, ?_, Ext.new h.tks.bel hx (fun k hk _ e => e.elim (fun e => by omega) (fun e => by omega)) h.tks.bel.size, h.tks.new, h.tks.fltKeep hx (fun e => e.elim (fun e => by
    obtain ⟨c2, h2⟩ := h.tks.own.tag (b := g) rfl
    have h1 := h.tks.flt
    rw [e, h2] at h1
    cases h1) (fun e => by have := (Array.getElem?_eq_some_iff.1 h0.tks.flt).1; omega))⟩, (hx.block lo (Array.getElem?_eq_some_iff.1 h.row).1 (fun e => e.elim (fun e => by omega) (fun e => by omega))).trans h.row, h.own.ext hx (fun b hb e => by have h5 := h0.own.blk b hb; rcases e with e | e <;> omega), fun j s hs => (h.num j s hs).ext hx (fun b hb e => by have h5 := (h0.num j s hs).blk b hb; rcases e with e | e <;> omega), Nat.le_trans h.siz hx.size⟩
  rw [mixN_succ L i hxi]
  exact h.tks.own.putOp (mixN_at L i hxi) hA hR
/-- An error at what it came. -/
def atErr (what : ByteArray) (n : Int) : Value := .iface 112 (.agg #[.string what, .iface 67 (.int .i64 n)])
set_option maxRecDepth 20000 in
set_option maxHeartbeats 4000000 in
theorem numbers_any (w0 : World) (T : Nat) (w : World) (tb tl : Value) (r : List UInt8) (ls : List OpD) (h : TKS w0 T w tb r tl ls) (hn : ls.length ≤ 200) : Calls Tryz.prog 63 #[.pointer (some ⟨T, 0, none⟩)] w fun e w' =>
    (∃ L r' tb', decCols ls.length 21 r = some (L, r') ∧ e = .returned .nilIface ∧ TKS w0 T w' tb' r' tl (mixN L ls.length ls)) ∨ (decCols ls.length 21 r = none ∧ (∃ s m, e = .returned (atErr s m)) ∧ Kp w0 T w') := by
  obtain ⟨⟨la, ln, lc⟩, el⟩ := h.own.sl
  dsimp only at el
  subst el
  obtain rfl : ln = ls.length := (h.own.nlen OpD.len).1
  have HT := Lib.hid h
  have hTl := (Array.getElem?_eq_some_iff.1 h.cell).1
  have hLl := fun b hb => (h.own.blk b hb).2
  clear h
  go_enter Tryz.func63, Tryz.ntmps63
  go_wp2_with fail
  obtain ⟨lo, hlo⟩ : ∃ lo, lo = w.heap.size := ⟨_, rfl⟩
  rw [← hlo]
  have HLO := Lib.hid hlo
  refine (columns_any _).mono ?_
  rintro e w5 ⟨v5, rfl, hown5, b5⟩
  obtain ⟨⟨ca, cn, cc⟩, e5⟩ := hown5.sl
  dsimp only at e5
  subst e5
  obtain rfl : cn = 21 := by have := (hown5.nlen btc_len).1; rw [colsL_len] at this; exact this
  have HS0 : Hid (NS w0 T w (.slice la ls.length lc) ls r ca cc 0 w5 lo tb (.slice none 0 0) [] r []) := Lib.hid (by
    have hz : lo + 1 ≤ (w.alloc (.cells #[.slice none 0 0] 49)).heap.size := by rw [World.size_alloc]; omega
    refine ⟨rfl, ?_, ?_, Own.nil, fun i s hs => by simp at hs, rfl, hown5.mono hz, Nat.le_trans hz b5.size, by omega, fun b hb => by have := hLl b hb; omega⟩
    · exact TKS.below (HT.out.ext ((Ext.refl (fun _ => False) w).alloc _) id (fun _ _ => id) (fun _ _ => id) id) b5
    · exact (b5.block _ (by omega)).trans (by rw [hlo]; exact heap_new8 w _))
  clear hown5 b5 hlo hTl hLl
  go_wp2_with fail
  go_loopg [14] 21 (fun g kv wx => ∃ (k : Nat) (tb rv : Value) (L : List (List Int)) (r2 : List UInt8) (rs : List Sl), g = 21 - k ∧ kv = .int .i64 k ∧ k ≤ 21 ∧ Hid (NS w0 T w (.slice la ls.length lc) ls r ca cc k wx lo tb rv L r2 rs))
  case atStart => exact ⟨0, _, _, _, _, _, rfl, rfl, by omega, HS0⟩
  case round =>
    clear HS0
    obtain ⟨k, tb1, rv, L, r2, rs, hg, rfl, hk, HR⟩ := hrel
    have HG := Lib.hid hg
    clear hg
    by_cases hlt : k < 21
    · have hk1 : (k : Int) < 21 := by omega
      obtain ⟨b9, o9, e9, c9⟩ := (HR.out.col.slice btc_len).at1 (k := k) (x := dlt k) (by simp [colsL, hlt]) rfl
      cases e9
      obtain ⟨ta, tcap, rfl, htc, htm, -⟩ := id HR.out.tks.byt
      unfold maxLen at htm
      have hc0 := HR.out.tks.cell
      have HB := Lib.hid HR.out.tks.bytes
      have hSW : (fun W : World => W.cell? ⟨T, 0, none⟩ = some (.slice ta r2.length tcap) ∧ W.cell? ⟨T, 1, none⟩ = some (.slice la ls.length lc)) wr.drew := ⟨by show World.cell? wr _ = _; simp [World.cell?, hc0], by show World.cell? wr _ = _; simp [World.cell?, hc0]⟩
      clear hc0
      cases hd : dlt k with
      | false =>
        have hcd : colD ls.length (dlt k) r2 = decR ls.length none r2 := by unfold colD; rw [hd]; rfl
        have HCD := Lib.hid hcd
        rw [hd] at c9
        clear hd hcd
        go_upto_region 8 with fail
        clear c9
        refine wp_region_s (fun W : World => W.cell? ⟨T, 0, none⟩ = some (.slice ta r2.length tcap) ∧ W.cell? ⟨T, 1, none⟩ = some (.slice la ls.length lc)) (fun i => i == 17) (by kernel_rfl) ?_
        have HR1 : Hid (NS w0 T w (.slice la ls.length lc) ls r _ cc k wr.drew lo (.slice ta r2.length tcap) rv L r2 rs) := Lib.hid (HR.out.below (Below.refl _ _).drew)
        have HB1 : Hid (SliceIs u8c 1 wr.drew (.slice ta r2.length tcap) r2) := Lib.hid (HR1.out.tks.bytes)
        generalize wr.drew = W1 at hSW HR1 HB1 ⊢
        refine wpAnyS_take (i := 0) (d := some 20) rfl rfl rfl (by kernel_rfl) (by kernel_rfl) (by kernel_rfl) (by kernel_rfl) (fun _ _ _ h => h) (.inl ⟨by rfl, fun W hW => by obtain ⟨q0, q1⟩ := hW; go_simp; try rfl⟩) hSW ?_
        try simp only [Act.put, List.setIfInBounds_toArray, List.set_cons_zero, List.set_cons_succ]
        refine wpAnyS_take (i := 1) (d := some 21) rfl rfl rfl (by kernel_rfl) (by kernel_rfl) (by kernel_rfl) (by kernel_rfl) (fun _ _ _ h => h) (.inl ⟨by rfl, fun W hW => by obtain ⟨q0, q1⟩ := hW; go_simp; try rfl⟩) hSW ?_
        try simp only [Act.put, List.setIfInBounds_toArray, List.set_cons_zero, List.set_cons_succ]
        refine wpAnyS_take (i := 2) (d := some 22) (v := .pointer (some ⟨T, 0, none⟩)) rfl rfl rfl (by kernel_rfl) (by kernel_rfl) (by kernel_rfl) (by kernel_rfl) (fun _ _ _ h => h) (.inl ⟨by rfl, fun W hW => by obtain ⟨q0, q1⟩ := hW; go_simp; try rfl⟩) hSW ?_
        try simp only [Act.put, List.setIfInBounds_toArray, List.set_cons_zero, List.set_cons_succ]
        refine wpAnyS_take (i := 3) (d := some 23) (v := .pointer (some ⟨T, 0, none⟩)) rfl rfl rfl (by kernel_rfl) (by kernel_rfl) (by kernel_rfl) (by kernel_rfl) (fun _ _ _ h => h) (.inl ⟨by rfl, fun W hW => by obtain ⟨q0, q1⟩ := hW; go_simp; try rfl⟩) hSW ?_
        try simp only [Act.put, List.setIfInBounds_toArray, List.set_cons_zero, List.set_cons_succ]
        refine wpAnyS_take (i := 4) (d := some 24) (v := .slice ta r2.length tcap) rfl rfl rfl (by kernel_rfl) (by kernel_rfl) (by kernel_rfl) (by kernel_rfl) (fun _ _ _ h => h) (.inl ⟨by rfl, fun W hW => by obtain ⟨q0, q1⟩ := hW; go_simp; try rfl⟩) hSW ?_
        try simp only [Act.put, List.setIfInBounds_toArray, List.set_cons_zero, List.set_cons_succ]
        refine wpAnyS_take (i := 5) (d := some 25) rfl rfl rfl (by kernel_rfl) (by kernel_rfl) (by kernel_rfl) (by kernel_rfl) (fun _ _ _ h => h) (.inl ⟨by rfl, fun W hW => by obtain ⟨q0, q1⟩ := hW; go_simp; try rfl⟩) hSW ?_
        try simp only [Act.put, List.setIfInBounds_toArray, List.set_cons_zero, List.set_cons_succ]
        refine wpAnyS_take (i := 6) (d := some 26) (v := .pointer (some ⟨T, 0, none⟩)) rfl rfl rfl (by kernel_rfl) (by kernel_rfl) (by kernel_rfl) (by kernel_rfl) (fun _ _ _ h => h) (.inl ⟨by rfl, fun W hW => by obtain ⟨q0, q1⟩ := hW; go_simp; try rfl⟩) hSW ?_
        try simp only [Act.put, List.setIfInBounds_toArray, List.set_cons_zero, List.set_cons_succ]
        refine wpAnyS_take (i := 7) (d := some 27) (v := .pointer (some ⟨T, 1, none⟩)) rfl rfl rfl (by kernel_rfl) (by kernel_rfl) (by kernel_rfl) (by kernel_rfl) (fun _ _ _ h => h) (.inl ⟨by rfl, fun W hW => by obtain ⟨q0, q1⟩ := hW; go_simp; try rfl⟩) hSW ?_
        try simp only [Act.put, List.setIfInBounds_toArray, List.set_cons_zero, List.set_cons_succ]
        refine wpAnyS_take (i := 8) (d := some 28) (v := .slice la ls.length lc) rfl rfl rfl (by kernel_rfl) (by kernel_rfl) (by kernel_rfl) (by kernel_rfl) (fun _ _ _ h => h) (.inl ⟨by rfl, fun W hW => by obtain ⟨q0, q1⟩ := hW; go_simp; try rfl⟩) hSW ?_
        try simp only [Act.put, List.setIfInBounds_toArray, List.set_cons_zero, List.set_cons_succ]
        refine wpAnyS_take (i := 9) (d := some 29) (v := .int .i64 ls.length) rfl rfl rfl (by kernel_rfl) (by kernel_rfl) (by kernel_rfl) (by kernel_rfl) (fun _ _ _ h => h) (.inl ⟨by rfl, fun W hW => by obtain ⟨q0, q1⟩ := hW; go_simp; try rfl⟩) hSW ?_
        try simp only [Act.put, List.setIfInBounds_toArray, List.set_cons_zero, List.set_cons_succ]
        refine wpAnyS_call (i := 10) (d := some 30) (f := 79) (args := #[.slice ta r2.length tcap, .int .i64 ls.length]) (w' := W1) (by kernel_rfl) rfl rfl (by rfl) (by go_simp; try rfl) ?_
        refine (takeruns_any _ r2 ls.length _ HB1.out (by omega)).mono ?_
        rintro e w3 (⟨l, u, v, hdec, rfl, hown, hb⟩ | ⟨hdec, rfl, hb⟩)
        · have hS3 : (fun W : World => W.cell? ⟨T, 0, none⟩ = some (.slice ta r2.length tcap) ∧ W.cell? ⟨T, 1, none⟩ = some (.slice la ls.length lc)) w3 := ⟨(hb.cell (p := ⟨T, 0, none⟩) (cell_lt hSW.1)).trans hSW.1, (hb.cell (p := ⟨T, 1, none⟩) (cell_lt hSW.2)).trans hSW.2⟩
          have HR3 := Lib.hid (HR1.out.below hb)
          refine ⟨_, rfl, fun _ => hS3, ?_⟩
          try simp only [Act.put, List.setIfInBounds_toArray, List.set_cons_zero, List.set_cons_succ]
          refine wpAnyS_take (i := 11) (d := some 19) (v := .tuple #[v, .int .i64 (u : Nat), .int .i64 0]) rfl rfl rfl (by kernel_rfl) (by kernel_rfl) (by kernel_rfl) (by kernel_rfl) (fun _ _ _ h => h) (.inl ⟨by rfl, fun W hW => by obtain ⟨q0, q1⟩ := hW; go_simp; try rfl⟩) hS3 ?_
          try simp only [Act.put, List.setIfInBounds_toArray, List.set_cons_zero, List.set_cons_succ]
          refine wpAnyS_take (i := 12) (d := some 31) (v := v) rfl rfl rfl (by kernel_rfl) (by kernel_rfl) (by kernel_rfl) (by kernel_rfl) (fun _ _ _ h => h) (.inl ⟨by rfl, fun W hW => by obtain ⟨q0, q1⟩ := hW; go_simp; try rfl⟩) hS3 ?_
          try simp only [Act.put, List.setIfInBounds_toArray, List.set_cons_zero, List.set_cons_succ]
          refine wpAnyS_take (i := 13) (d := some 32) (v := .int .i64 (u : Nat)) rfl rfl rfl (by kernel_rfl) (by kernel_rfl) (by kernel_rfl) (by kernel_rfl) (fun _ _ _ h => h) (.inl ⟨by rfl, fun W hW => by obtain ⟨q0, q1⟩ := hW; go_simp; try rfl⟩) hS3 ?_
          try simp only [Act.put, List.setIfInBounds_toArray, List.set_cons_zero, List.set_cons_succ]
          refine wpAnyS_take (i := 14) (d := some 33) (v := .int .i64 0) rfl rfl rfl (by kernel_rfl) (by kernel_rfl) (by kernel_rfl) (by kernel_rfl) (fun _ _ _ h => h) (.inl ⟨by rfl, fun W hW => by obtain ⟨q0, q1⟩ := hW; go_simp; try rfl⟩) hS3 ?_
          try simp only [Act.put, List.setIfInBounds_toArray, List.set_cons_zero, List.set_cons_succ]
          refine wpAnyS_take (i := 15) (d := some 7) (v := v) rfl rfl rfl (by kernel_rfl) (by kernel_rfl) (by kernel_rfl) (by kernel_rfl) (fun _ _ _ h => h) (.inl ⟨by rfl, fun W hW => by obtain ⟨q0, q1⟩ := hW; go_simp; try rfl⟩) hS3 ?_
          try simp only [Act.put, List.setIfInBounds_toArray, List.set_cons_zero, List.set_cons_succ]
          refine wpAnyS_take (i := 16) (d := some 8) (v := .int .i64 (u : Nat)) rfl rfl rfl (by kernel_rfl) (by kernel_rfl) (by kernel_rfl) (by kernel_rfl) (fun _ _ _ h => h) (.inl ⟨by rfl, fun W hW => by obtain ⟨q0, q1⟩ := hW; go_simp; try rfl⟩) hS3 ?_
          try simp only [Act.put, List.setIfInBounds_toArray, List.set_cons_zero, List.set_cons_succ]
          refine wpAnyS_ran (i := 17) (d := some 9) (v := .int .i64 0) (w' := w3) (by kernel_rfl) rfl rfl (by rfl) (by go_simp; try rfl) (fun h => by cases h) ?_
          try simp only [Act.put, List.setIfInBounds_toArray, List.set_cons_zero, List.set_cons_succ]
          refine wpAnyS_done (by kernel_rfl) ?_ _
          clear hS3 hSW
          have HDEC := Lib.hid (HCD.out.trans hdec)
          clear hdec
          have hcf := colD_facts (by omega) HDEC.out
          have hul := hcf.2
          obtain ⟨⟨pa, pn, pc⟩, ep⟩ := hown.sl
          dsimp only at ep
          subst ep
          obtain ⟨⟨va, vn, vc⟩, ev⟩ := HR3.out.own.sl
          dsimp only at ev
          subst ev
          have HOWN : Hid (Own intc 1 3 (lo + 1) w3 (.slice pa pn pc) l) := Lib.hid (hown.mono HR1.out.siz)
          obtain ⟨a1, c1, hsl, hS1, -⟩ := slice_from (P := Tryz.prog) (ea := u8c) Tryz.underlying34 size_u8 ta r2.length tcap u htc hul
          have HBY := Lib.hid (hS1 w0 r2 rfl HR3.out.tks.byt)
          obtain ⟨i0, hi, hy0, hy1, hy2⟩ := info_parts info_rows2
          have HBD : Hid (rs.length + 1 ≤ maxLen ∧ (rs.length + 1) * 24 ≤ 140737488355328) := Lib.hid (by rw [HR3.out.len]; unfold maxLen; omega)
          have c0 := cell_of_one HR3.out.row
          have hne : ¬ T = lo := by have := HR3.out.apt.1; omega
          clear hown hcf hS1
          go_wp2_with (at_builtin; refine wpList_append_struct2 rfl _ _ _ rfl i0 _ 24 Tryz.underlying49 hi hy0 hy1 hy2 rfl (by omega) slc_len slc_one rfl (HR3.out.own.alloc _) (⟨pa, pn, pc⟩ : Sl) w3.heap.size 1 rfl (slc_new _ ⟨pa, pn, pc⟩) HBD.out.1 HBD.out.2 (by have := HR3.out.siz; simp; omega) ?_)
          intro v' w4 hown4 hx4 hn4
          obtain ⟨⟨ua, un, uc⟩, e4⟩ := hown4.sl
          dsimp only at e4
          subst e4
          have hxa : Ext (fun b => (Value.slice va vn vc).ownBlock = some b) w3 w4 := ((Ext.refl _ _).alloc _).andThen hx4 (fun i hi e => e)
          have g4 : w4.heap[lo]? = some (.cells #[.slice va vn vc] 49 (0, 0)) := (hxa.block _ (by have := HR3.out.siz; omega) (fun e => by have := (HR3.out.own.blk _ e).1; omega)).trans HR3.out.row
          have gT : w4.heap[T]? = some (.cells #[.slice ta r2.length tcap, .slice la ls.length lc] 66 (0, 0)) := (hxa.block _ (by have := HR3.out.siz; have := HR3.out.apt.1; omega) (fun e => by have := (HR3.out.own.blk _ e).1; have := HR3.out.apt.1; omega)).trans HR3.out.tks.cell
          have c4 := cell_of_one g4
          have f4 := free_of_one g4
          have cT : w4.cell? ⟨T, 0, none⟩ = some (.slice ta r2.length tcap) := by simp [World.cell?, gT]
          have fT : w4.frozen? ⟨T, 0, none⟩ = false := by simp [World.frozen?, gT]
          have HN := Lib.hid (HR3.out.push (by omega) HDEC.out HOWN.out hown4 hx4 HBY.out)
          clear hown4 hx4 hn4 hxa g4 gT HOWN HBY c0
          go_wp2_with fail
          go_roundg (21 - (k + 1))
          case measure => rw [HG.out]; omega
          case rel => exact ⟨k + 1, _, _, _, _, _, rfl, by simp, by omega, HN⟩
        · have hS3 : (fun W : World => W.cell? ⟨T, 0, none⟩ = some (.slice ta r2.length tcap) ∧ W.cell? ⟨T, 1, none⟩ = some (.slice la ls.length lc)) w3 := ⟨(hb.cell (p := ⟨T, 0, none⟩) (cell_lt hSW.1)).trans hSW.1, (hb.cell (p := ⟨T, 1, none⟩) (cell_lt hSW.2)).trans hSW.2⟩
          have HR3 := Lib.hid (HR1.out.below hb)
          refine ⟨_, rfl, fun _ => hS3, ?_⟩
          try simp only [Act.put, List.setIfInBounds_toArray, List.set_cons_zero, List.set_cons_succ]
          refine wpAnyS_take (i := 11) (d := some 19) (v := .tuple #[.slice none 0 0, .int .i64 0, .int .i64 41]) rfl rfl rfl (by kernel_rfl) (by kernel_rfl) (by kernel_rfl) (by kernel_rfl) (fun _ _ _ h => h) (.inl ⟨by rfl, fun W hW => by obtain ⟨q0, q1⟩ := hW; go_simp; try rfl⟩) hS3 ?_
          try simp only [Act.put, List.setIfInBounds_toArray, List.set_cons_zero, List.set_cons_succ]
          refine wpAnyS_take (i := 12) (d := some 31) (v := .slice none 0 0) rfl rfl rfl (by kernel_rfl) (by kernel_rfl) (by kernel_rfl) (by kernel_rfl) (fun _ _ _ h => h) (.inl ⟨by rfl, fun W hW => by obtain ⟨q0, q1⟩ := hW; go_simp; try rfl⟩) hS3 ?_
          try simp only [Act.put, List.setIfInBounds_toArray, List.set_cons_zero, List.set_cons_succ]
          refine wpAnyS_take (i := 13) (d := some 32) (v := .int .i64 0) rfl rfl rfl (by kernel_rfl) (by kernel_rfl) (by kernel_rfl) (by kernel_rfl) (fun _ _ _ h => h) (.inl ⟨by rfl, fun W hW => by obtain ⟨q0, q1⟩ := hW; go_simp; try rfl⟩) hS3 ?_
          try simp only [Act.put, List.setIfInBounds_toArray, List.set_cons_zero, List.set_cons_succ]
          refine wpAnyS_take (i := 14) (d := some 33) (v := .int .i64 41) rfl rfl rfl (by kernel_rfl) (by kernel_rfl) (by kernel_rfl) (by kernel_rfl) (fun _ _ _ h => h) (.inl ⟨by rfl, fun W hW => by obtain ⟨q0, q1⟩ := hW; go_simp; try rfl⟩) hS3 ?_
          try simp only [Act.put, List.setIfInBounds_toArray, List.set_cons_zero, List.set_cons_succ]
          refine wpAnyS_take (i := 15) (d := some 7) (v := .slice none 0 0) rfl rfl rfl (by kernel_rfl) (by kernel_rfl) (by kernel_rfl) (by kernel_rfl) (fun _ _ _ h => h) (.inl ⟨by rfl, fun W hW => by obtain ⟨q0, q1⟩ := hW; go_simp; try rfl⟩) hS3 ?_
          try simp only [Act.put, List.setIfInBounds_toArray, List.set_cons_zero, List.set_cons_succ]
          refine wpAnyS_take (i := 16) (d := some 8) (v := .int .i64 0) rfl rfl rfl (by kernel_rfl) (by kernel_rfl) (by kernel_rfl) (by kernel_rfl) (fun _ _ _ h => h) (.inl ⟨by rfl, fun W hW => by obtain ⟨q0, q1⟩ := hW; go_simp; try rfl⟩) hS3 ?_
          try simp only [Act.put, List.setIfInBounds_toArray, List.set_cons_zero, List.set_cons_succ]
          refine wpAnyS_ran (i := 17) (d := some 9) (v := .int .i64 41) (w' := w3) (by kernel_rfl) rfl rfl (by rfl) (by go_simp; try rfl) (fun h => by cases h) ?_
          try simp only [Act.put, List.setIfInBounds_toArray, List.set_cons_zero, List.set_cons_succ]
          refine wpAnyS_done (by kernel_rfl) ?_ _
          clear hS3 hSW
          have HBAD : Hid (decCols ls.length 21 r = none) := Lib.hid (decCols_bad HR3.out.dec (HCD.out.trans hdec) hlt)
          clear hdec
          go_wp2_with fail
          go_ret
          exact .inr ⟨HBAD.out, ⟨_, _, rfl⟩, HR3.out.tks.kp⟩
      | true =>
        have hcd : colD ls.length (dlt k) r2 = decD ls.length r2 := by unfold colD; rw [hd]; rfl
        have HCD := Lib.hid hcd
        rw [hd] at c9
        clear hd hcd
        go_upto_region 8 with fail
        clear c9
        refine wp_region_s (fun W : World => W.cell? ⟨T, 0, none⟩ = some (.slice ta r2.length tcap) ∧ W.cell? ⟨T, 1, none⟩ = some (.slice la ls.length lc)) (fun i => i == 17) (by kernel_rfl) ?_
        have HR1 : Hid (NS w0 T w (.slice la ls.length lc) ls r _ cc k wr.drew lo (.slice ta r2.length tcap) rv L r2 rs) := Lib.hid (HR.out.below (Below.refl _ _).drew)
        have HB1 : Hid (SliceIs u8c 1 wr.drew (.slice ta r2.length tcap) r2) := Lib.hid (HR1.out.tks.bytes)
        generalize wr.drew = W1 at hSW HR1 HB1 ⊢
        refine wpAnyS_take (i := 0) (d := some 20) rfl rfl rfl (by kernel_rfl) (by kernel_rfl) (by kernel_rfl) (by kernel_rfl) (fun _ _ _ h => h) (.inl ⟨by rfl, fun W hW => by obtain ⟨q0, q1⟩ := hW; go_simp; try rfl⟩) hSW ?_
        try simp only [Act.put, List.setIfInBounds_toArray, List.set_cons_zero, List.set_cons_succ]
        refine wpAnyS_take (i := 1) (d := some 21) rfl rfl rfl (by kernel_rfl) (by kernel_rfl) (by kernel_rfl) (by kernel_rfl) (fun _ _ _ h => h) (.inl ⟨by rfl, fun W hW => by obtain ⟨q0, q1⟩ := hW; go_simp; try rfl⟩) hSW ?_
        try simp only [Act.put, List.setIfInBounds_toArray, List.set_cons_zero, List.set_cons_succ]
        refine wpAnyS_take (i := 2) (d := some 22) (v := .pointer (some ⟨T, 0, none⟩)) rfl rfl rfl (by kernel_rfl) (by kernel_rfl) (by kernel_rfl) (by kernel_rfl) (fun _ _ _ h => h) (.inl ⟨by rfl, fun W hW => by obtain ⟨q0, q1⟩ := hW; go_simp; try rfl⟩) hSW ?_
        try simp only [Act.put, List.setIfInBounds_toArray, List.set_cons_zero, List.set_cons_succ]
        refine wpAnyS_take (i := 3) (d := some 23) (v := .pointer (some ⟨T, 0, none⟩)) rfl rfl rfl (by kernel_rfl) (by kernel_rfl) (by kernel_rfl) (by kernel_rfl) (fun _ _ _ h => h) (.inl ⟨by rfl, fun W hW => by obtain ⟨q0, q1⟩ := hW; go_simp; try rfl⟩) hSW ?_
        try simp only [Act.put, List.setIfInBounds_toArray, List.set_cons_zero, List.set_cons_succ]
        refine wpAnyS_take (i := 4) (d := some 24) (v := .slice ta r2.length tcap) rfl rfl rfl (by kernel_rfl) (by kernel_rfl) (by kernel_rfl) (by kernel_rfl) (fun _ _ _ h => h) (.inl ⟨by rfl, fun W hW => by obtain ⟨q0, q1⟩ := hW; go_simp; try rfl⟩) hSW ?_
        try simp only [Act.put, List.setIfInBounds_toArray, List.set_cons_zero, List.set_cons_succ]
        refine wpAnyS_take (i := 5) (d := some 25) rfl rfl rfl (by kernel_rfl) (by kernel_rfl) (by kernel_rfl) (by kernel_rfl) (fun _ _ _ h => h) (.inl ⟨by rfl, fun W hW => by obtain ⟨q0, q1⟩ := hW; go_simp; try rfl⟩) hSW ?_
        try simp only [Act.put, List.setIfInBounds_toArray, List.set_cons_zero, List.set_cons_succ]
        refine wpAnyS_take (i := 6) (d := some 26) (v := .pointer (some ⟨T, 0, none⟩)) rfl rfl rfl (by kernel_rfl) (by kernel_rfl) (by kernel_rfl) (by kernel_rfl) (fun _ _ _ h => h) (.inl ⟨by rfl, fun W hW => by obtain ⟨q0, q1⟩ := hW; go_simp; try rfl⟩) hSW ?_
        try simp only [Act.put, List.setIfInBounds_toArray, List.set_cons_zero, List.set_cons_succ]
        refine wpAnyS_take (i := 7) (d := some 27) (v := .pointer (some ⟨T, 1, none⟩)) rfl rfl rfl (by kernel_rfl) (by kernel_rfl) (by kernel_rfl) (by kernel_rfl) (fun _ _ _ h => h) (.inl ⟨by rfl, fun W hW => by obtain ⟨q0, q1⟩ := hW; go_simp; try rfl⟩) hSW ?_
        try simp only [Act.put, List.setIfInBounds_toArray, List.set_cons_zero, List.set_cons_succ]
        refine wpAnyS_take (i := 8) (d := some 28) (v := .slice la ls.length lc) rfl rfl rfl (by kernel_rfl) (by kernel_rfl) (by kernel_rfl) (by kernel_rfl) (fun _ _ _ h => h) (.inl ⟨by rfl, fun W hW => by obtain ⟨q0, q1⟩ := hW; go_simp; try rfl⟩) hSW ?_
        try simp only [Act.put, List.setIfInBounds_toArray, List.set_cons_zero, List.set_cons_succ]
        refine wpAnyS_take (i := 9) (d := some 29) (v := .int .i64 ls.length) rfl rfl rfl (by kernel_rfl) (by kernel_rfl) (by kernel_rfl) (by kernel_rfl) (fun _ _ _ h => h) (.inl ⟨by rfl, fun W hW => by obtain ⟨q0, q1⟩ := hW; go_simp; try rfl⟩) hSW ?_
        try simp only [Act.put, List.setIfInBounds_toArray, List.set_cons_zero, List.set_cons_succ]
        refine wpAnyS_call (i := 10) (d := some 30) (f := 80) (args := #[.slice ta r2.length tcap, .int .i64 ls.length]) (w' := W1) (by kernel_rfl) rfl rfl (by rfl) (by go_simp; try rfl) ?_
        refine (takedeltas_any _ r2 ls.length _ HB1.out (by omega)).mono ?_
        rintro e w3 (⟨l, u, v, hdec, rfl, hown, hb⟩ | ⟨hdec, rfl, hb⟩)
        · have hS3 : (fun W : World => W.cell? ⟨T, 0, none⟩ = some (.slice ta r2.length tcap) ∧ W.cell? ⟨T, 1, none⟩ = some (.slice la ls.length lc)) w3 := ⟨(hb.cell (p := ⟨T, 0, none⟩) (cell_lt hSW.1)).trans hSW.1, (hb.cell (p := ⟨T, 1, none⟩) (cell_lt hSW.2)).trans hSW.2⟩
          have HR3 := Lib.hid (HR1.out.below hb)
          refine ⟨_, rfl, fun _ => hS3, ?_⟩
          try simp only [Act.put, List.setIfInBounds_toArray, List.set_cons_zero, List.set_cons_succ]
          refine wpAnyS_take (i := 11) (d := some 19) (v := .tuple #[v, .int .i64 (u : Nat), .int .i64 0]) rfl rfl rfl (by kernel_rfl) (by kernel_rfl) (by kernel_rfl) (by kernel_rfl) (fun _ _ _ h => h) (.inl ⟨by rfl, fun W hW => by obtain ⟨q0, q1⟩ := hW; go_simp; try rfl⟩) hS3 ?_
          try simp only [Act.put, List.setIfInBounds_toArray, List.set_cons_zero, List.set_cons_succ]
          refine wpAnyS_take (i := 12) (d := some 31) (v := v) rfl rfl rfl (by kernel_rfl) (by kernel_rfl) (by kernel_rfl) (by kernel_rfl) (fun _ _ _ h => h) (.inl ⟨by rfl, fun W hW => by obtain ⟨q0, q1⟩ := hW; go_simp; try rfl⟩) hS3 ?_
          try simp only [Act.put, List.setIfInBounds_toArray, List.set_cons_zero, List.set_cons_succ]
          refine wpAnyS_take (i := 13) (d := some 32) (v := .int .i64 (u : Nat)) rfl rfl rfl (by kernel_rfl) (by kernel_rfl) (by kernel_rfl) (by kernel_rfl) (fun _ _ _ h => h) (.inl ⟨by rfl, fun W hW => by obtain ⟨q0, q1⟩ := hW; go_simp; try rfl⟩) hS3 ?_
          try simp only [Act.put, List.setIfInBounds_toArray, List.set_cons_zero, List.set_cons_succ]
          refine wpAnyS_take (i := 14) (d := some 33) (v := .int .i64 0) rfl rfl rfl (by kernel_rfl) (by kernel_rfl) (by kernel_rfl) (by kernel_rfl) (fun _ _ _ h => h) (.inl ⟨by rfl, fun W hW => by obtain ⟨q0, q1⟩ := hW; go_simp; try rfl⟩) hS3 ?_
          try simp only [Act.put, List.setIfInBounds_toArray, List.set_cons_zero, List.set_cons_succ]
          refine wpAnyS_take (i := 15) (d := some 7) (v := v) rfl rfl rfl (by kernel_rfl) (by kernel_rfl) (by kernel_rfl) (by kernel_rfl) (fun _ _ _ h => h) (.inl ⟨by rfl, fun W hW => by obtain ⟨q0, q1⟩ := hW; go_simp; try rfl⟩) hS3 ?_
          try simp only [Act.put, List.setIfInBounds_toArray, List.set_cons_zero, List.set_cons_succ]
          refine wpAnyS_take (i := 16) (d := some 8) (v := .int .i64 (u : Nat)) rfl rfl rfl (by kernel_rfl) (by kernel_rfl) (by kernel_rfl) (by kernel_rfl) (fun _ _ _ h => h) (.inl ⟨by rfl, fun W hW => by obtain ⟨q0, q1⟩ := hW; go_simp; try rfl⟩) hS3 ?_
          try simp only [Act.put, List.setIfInBounds_toArray, List.set_cons_zero, List.set_cons_succ]
          refine wpAnyS_ran (i := 17) (d := some 9) (v := .int .i64 0) (w' := w3) (by kernel_rfl) rfl rfl (by rfl) (by go_simp; try rfl) (fun h => by cases h) ?_
          try simp only [Act.put, List.setIfInBounds_toArray, List.set_cons_zero, List.set_cons_succ]
          refine wpAnyS_done (by kernel_rfl) ?_ _
          clear hS3 hSW
          have HDEC := Lib.hid (HCD.out.trans hdec)
          clear hdec
          have hcf := colD_facts (by omega) HDEC.out
          have hul := hcf.2
          obtain ⟨⟨pa, pn, pc⟩, ep⟩ := hown.sl
          dsimp only at ep
          subst ep
          obtain ⟨⟨va, vn, vc⟩, ev⟩ := HR3.out.own.sl
          dsimp only at ev
          subst ev
          have HOWN : Hid (Own intc 1 3 (lo + 1) w3 (.slice pa pn pc) l) := Lib.hid (hown.mono HR1.out.siz)
          obtain ⟨a1, c1, hsl, hS1, -⟩ := slice_from (P := Tryz.prog) (ea := u8c) Tryz.underlying34 size_u8 ta r2.length tcap u htc hul
          have HBY := Lib.hid (hS1 w0 r2 rfl HR3.out.tks.byt)
          obtain ⟨i0, hi, hy0, hy1, hy2⟩ := info_parts info_rows2
          have HBD : Hid (rs.length + 1 ≤ maxLen ∧ (rs.length + 1) * 24 ≤ 140737488355328) := Lib.hid (by rw [HR3.out.len]; unfold maxLen; omega)
          have c0 := cell_of_one HR3.out.row
          have hne : ¬ T = lo := by have := HR3.out.apt.1; omega
          clear hown hcf hS1
          go_wp2_with (at_builtin; refine wpList_append_struct2 rfl _ _ _ rfl i0 _ 24 Tryz.underlying49 hi hy0 hy1 hy2 rfl (by omega) slc_len slc_one rfl (HR3.out.own.alloc _) (⟨pa, pn, pc⟩ : Sl) w3.heap.size 1 rfl (slc_new _ ⟨pa, pn, pc⟩) HBD.out.1 HBD.out.2 (by have := HR3.out.siz; simp; omega) ?_)
          intro v' w4 hown4 hx4 hn4
          obtain ⟨⟨ua, un, uc⟩, e4⟩ := hown4.sl
          dsimp only at e4
          subst e4
          have hxa : Ext (fun b => (Value.slice va vn vc).ownBlock = some b) w3 w4 := ((Ext.refl _ _).alloc _).andThen hx4 (fun i hi e => e)
          have g4 : w4.heap[lo]? = some (.cells #[.slice va vn vc] 49 (0, 0)) := (hxa.block _ (by have := HR3.out.siz; omega) (fun e => by have := (HR3.out.own.blk _ e).1; omega)).trans HR3.out.row
          have gT : w4.heap[T]? = some (.cells #[.slice ta r2.length tcap, .slice la ls.length lc] 66 (0, 0)) := (hxa.block _ (by have := HR3.out.siz; have := HR3.out.apt.1; omega) (fun e => by have := (HR3.out.own.blk _ e).1; have := HR3.out.apt.1; omega)).trans HR3.out.tks.cell
          have c4 := cell_of_one g4
          have f4 := free_of_one g4
          have cT : w4.cell? ⟨T, 0, none⟩ = some (.slice ta r2.length tcap) := by simp [World.cell?, gT]
          have fT : w4.frozen? ⟨T, 0, none⟩ = false := by simp [World.frozen?, gT]
          have HN := Lib.hid (HR3.out.push (by omega) HDEC.out HOWN.out hown4 hx4 HBY.out)
          clear hown4 hx4 hn4 hxa g4 gT HOWN HBY c0
          go_wp2_with fail
          go_roundg (21 - (k + 1))
          case measure => rw [HG.out]; omega
          case rel => exact ⟨k + 1, _, _, _, _, _, rfl, by simp, by omega, HN⟩
        · have hS3 : (fun W : World => W.cell? ⟨T, 0, none⟩ = some (.slice ta r2.length tcap) ∧ W.cell? ⟨T, 1, none⟩ = some (.slice la ls.length lc)) w3 := ⟨(hb.cell (p := ⟨T, 0, none⟩) (cell_lt hSW.1)).trans hSW.1, (hb.cell (p := ⟨T, 1, none⟩) (cell_lt hSW.2)).trans hSW.2⟩
          have HR3 := Lib.hid (HR1.out.below hb)
          refine ⟨_, rfl, fun _ => hS3, ?_⟩
          try simp only [Act.put, List.setIfInBounds_toArray, List.set_cons_zero, List.set_cons_succ]
          refine wpAnyS_take (i := 11) (d := some 19) (v := .tuple #[.slice none 0 0, .int .i64 0, .int .i64 41]) rfl rfl rfl (by kernel_rfl) (by kernel_rfl) (by kernel_rfl) (by kernel_rfl) (fun _ _ _ h => h) (.inl ⟨by rfl, fun W hW => by obtain ⟨q0, q1⟩ := hW; go_simp; try rfl⟩) hS3 ?_
          try simp only [Act.put, List.setIfInBounds_toArray, List.set_cons_zero, List.set_cons_succ]
          refine wpAnyS_take (i := 12) (d := some 31) (v := .slice none 0 0) rfl rfl rfl (by kernel_rfl) (by kernel_rfl) (by kernel_rfl) (by kernel_rfl) (fun _ _ _ h => h) (.inl ⟨by rfl, fun W hW => by obtain ⟨q0, q1⟩ := hW; go_simp; try rfl⟩) hS3 ?_
          try simp only [Act.put, List.setIfInBounds_toArray, List.set_cons_zero, List.set_cons_succ]
          refine wpAnyS_take (i := 13) (d := some 32) (v := .int .i64 0) rfl rfl rfl (by kernel_rfl) (by kernel_rfl) (by kernel_rfl) (by kernel_rfl) (fun _ _ _ h => h) (.inl ⟨by rfl, fun W hW => by obtain ⟨q0, q1⟩ := hW; go_simp; try rfl⟩) hS3 ?_
          try simp only [Act.put, List.setIfInBounds_toArray, List.set_cons_zero, List.set_cons_succ]
          refine wpAnyS_take (i := 14) (d := some 33) (v := .int .i64 41) rfl rfl rfl (by kernel_rfl) (by kernel_rfl) (by kernel_rfl) (by kernel_rfl) (fun _ _ _ h => h) (.inl ⟨by rfl, fun W hW => by obtain ⟨q0, q1⟩ := hW; go_simp; try rfl⟩) hS3 ?_
          try simp only [Act.put, List.setIfInBounds_toArray, List.set_cons_zero, List.set_cons_succ]
          refine wpAnyS_take (i := 15) (d := some 7) (v := .slice none 0 0) rfl rfl rfl (by kernel_rfl) (by kernel_rfl) (by kernel_rfl) (by kernel_rfl) (fun _ _ _ h => h) (.inl ⟨by rfl, fun W hW => by obtain ⟨q0, q1⟩ := hW; go_simp; try rfl⟩) hS3 ?_
          try simp only [Act.put, List.setIfInBounds_toArray, List.set_cons_zero, List.set_cons_succ]
          refine wpAnyS_take (i := 16) (d := some 8) (v := .int .i64 0) rfl rfl rfl (by kernel_rfl) (by kernel_rfl) (by kernel_rfl) (by kernel_rfl) (fun _ _ _ h => h) (.inl ⟨by rfl, fun W hW => by obtain ⟨q0, q1⟩ := hW; go_simp; try rfl⟩) hS3 ?_
          try simp only [Act.put, List.setIfInBounds_toArray, List.set_cons_zero, List.set_cons_succ]
          refine wpAnyS_ran (i := 17) (d := some 9) (v := .int .i64 41) (w' := w3) (by kernel_rfl) rfl rfl (by rfl) (by go_simp; try rfl) (fun h => by cases h) ?_
          try simp only [Act.put, List.setIfInBounds_toArray, List.set_cons_zero, List.set_cons_succ]
          refine wpAnyS_done (by kernel_rfl) ?_ _
          clear hS3 hSW
          have HBAD : Hid (decCols ls.length 21 r = none) := Lib.hid (decCols_bad HR3.out.dec (HCD.out.trans hdec) hlt)
          clear hdec
          go_wp2_with fail
          go_ret
          exact .inr ⟨HBAD.out, ⟨_, _, rfl⟩, HR3.out.tks.kp⟩
    · obtain rfl : k = 21 := by omega
      have hk1 : ¬ (21 : Int) < 21 := by omega
      have hc0 := HR.out.tks.cell
      have c1 : wr.cell? ⟨T, 1, none⟩ = some (.slice la ls.length lc) := by simp [World.cell?, hc0]
      have HN0 : Hid (N2 w0 T (.slice la ls.length lc) ls lo tb1 rv L r2 rs 0 wr) := Lib.hid ⟨by rw [mixN_zero]; exact HR.out.tks, HR.out.row, HR.out.own, HR.out.num, HR.out.siz⟩
      have HF : Hid (decCols ls.length 21 r = some (L, r2) ∧ rs.length = 21 ∧ T < lo ∧ (∀ b, (Value.slice la ls.length lc).ownBlock = some b → b < lo)) := Lib.hid ⟨HR.out.dec, HR.out.len, HR.out.apt⟩
      clear hc0 hk hlt HR
      go_wp2_with fail
      clear c1
      go_loopg [59] ls.length (fun g kv wx => ∃ i : Nat, g = ls.length - i ∧ kv = .int .i64 i ∧ i ≤ ls.length ∧ Hid (N2 w0 T (.slice la ls.length lc) ls lo tb1 rv L r2 rs i wx))
      case atStart => exact ⟨0, rfl, rfl, by omega, HN0⟩
      case round =>
        clear HN0
        obtain ⟨i, hg, rfl, hk, HR⟩ := hrel
        have HG := Lib.hid hg
        clear hg
        by_cases hlt : i < ls.length
        · have hk1 : (i : Int) < (ls.length : Int) := by omega
          go_upto_region 18 with fail
          obtain ⟨x, hx⟩ : ∃ x, ls[i]? = some x := ⟨_, List.getElem?_eq_getElem hlt⟩
          have HX := Lib.hid hx
          obtain ⟨g, cap, e, hg1, hg2⟩ := HR.out.tks.own.eq_slice.resolve_left (fun e => by have h2 := e.2; have h3 := mixN_len L i ls; rw [h2] at h3; simp at h3; omega)
          injection e with e1 e2 e3
          subst e1 e3
          clear e2
          have hgl : g < lo := HF.out.2.2.2 g rfl
          have hc0 := HR.out.tks.cell
          have hsz := HR.out.siz
          have hTl := HF.out.2.2.1
          have hi0 : (0 : Int) ≤ (i : Int) := by omega
          have HNR := Lib.hid (HR.out.reads HF.out.2.1 (decCols_len (by omega) HF.out.1) hlt)
          obtain ⟨W1, hW1⟩ : ∃ W1, (wr.alloc (.cells #[.int .i64 i] 3)).alloc (.cells #[.int .i64 0] 3) = W1 := ⟨_, rfl⟩
          have hz1 : W1.heap.size = wr.heap.size + 2 := by rw [← hW1]; simp
          have hx1 : Ext (fun _ => False) wr W1 := by rw [← hW1]; exact ((Ext.refl _ _).alloc _).alloc _
          have hBi : W1.heap[wr.heap.size]? = some (.cells #[.int .i64 i] 3 (0, 0)) := by rw [← hW1]; exact (Below.heap_alloc _ _ _ (by simp)).trans (heap_new8 wr _)
          have hBc : W1.heap[wr.heap.size + 1]? = some (.cells #[.int .i64 0] 3 (0, 0)) := by
            rw [← hW1]
            have := heap_new8 (wr.alloc (.cells #[.int .i64 i] 3)) (.cells #[.int .i64 0] 3)
            rwa [World.size_alloc] at this
          rw [hW1]
          clear hW1
          have hSW : (fun W : World => W.cell? ⟨T, 1, none⟩ = some (.slice (some ⟨g, 0, none⟩) ls.length lc) ∧ W.cell? ⟨wr.heap.size, 0, none⟩ = some (.int .i64 i)) W1.drew := ⟨by show World.cell? W1 _ = _; simp [World.cell?, (hx1.block T (by omega) id).trans hc0], cell_of_one hBi⟩
          refine wp_region_s (fun W : World => W.cell? ⟨T, 1, none⟩ = some (.slice (some ⟨g, 0, none⟩) ls.length lc) ∧ W.cell? ⟨wr.heap.size, 0, none⟩ = some (.int .i64 i)) (fun _ => false) (by kernel_rfl) ?_
          have hxd : Ext (fun _ => False) W1 W1.drew := (Ext.refl _ _).drew
          have HW := Lib.hid (And.intro hz1 (And.intro hx1 (And.intro hBi (And.intro hBc hxd))))
          clear hz1 hx1 hBi hBc hxd hc0
          have hz : W1.drew.heap.size = W1.heap.size := rfl
          generalize hWd : W1.drew = W2 at hSW HW hz ⊢
          have HX1 : Hid (Ext (fun _ => False) wr W2 ∧ W2.heap.size = wr.heap.size + 2 ∧ W2.heap[wr.heap.size]? = some (.cells #[.int .i64 i] 3 (0, 0)) ∧ W2.heap[wr.heap.size + 1]? = some (.cells #[.int .i64 0] 3 (0, 0))) := Lib.hid (by
            have h := HW.out
            refine ⟨h.2.1.andThen h.2.2.2.2 (fun _ _ f => f), hz.trans h.1, (h.2.2.2.2.block _ (by omega) id).trans h.2.2.1, (h.2.2.2.2.block _ (by omega) id).trans h.2.2.2.1⟩)
          clear hWd HW hz
  
          refine wpAnyS_take (i := 0) (d := some 62) rfl rfl rfl (by kernel_rfl) (by kernel_rfl) (by kernel_rfl) (by kernel_rfl) (fun _ _ _ h => h) (.inl ⟨by rfl, fun W hW => by obtain ⟨q0, q1⟩ := hW; go_simp; try rfl⟩) hSW ?_
          try simp only [Act.put, List.setIfInBounds_toArray, List.set_cons_zero, List.set_cons_succ]
          refine wpAnyS_take (i := 1) (d := some 63) (v := .pointer (some ⟨T, 0, none⟩)) rfl rfl rfl (by kernel_rfl) (by kernel_rfl) (by kernel_rfl) (by kernel_rfl) (fun _ _ _ h => h) (.inl ⟨by rfl, fun W hW => by obtain ⟨q0, q1⟩ := hW; go_simp; try rfl⟩) hSW ?_
          try simp only [Act.put, List.setIfInBounds_toArray, List.set_cons_zero, List.set_cons_succ]
          refine wpAnyS_take (i := 2) (d := some 64) (v := .pointer (some ⟨T, 1, none⟩)) rfl rfl rfl (by kernel_rfl) (by kernel_rfl) (by kernel_rfl) (by kernel_rfl) (fun _ _ _ h => h) (.inl ⟨by rfl, fun W hW => by obtain ⟨q0, q1⟩ := hW; go_simp; try rfl⟩) hSW ?_
          try simp only [Act.put, List.setIfInBounds_toArray, List.set_cons_zero, List.set_cons_succ]
          refine wpAnyS_take (i := 3) (d := some 65) (v := .slice (some ⟨g, 0, none⟩) ls.length lc) rfl rfl rfl (by kernel_rfl) (by kernel_rfl) (by kernel_rfl) (by kernel_rfl) (fun _ _ _ h => h) (.inl ⟨by rfl, fun W hW => by obtain ⟨q0, q1⟩ := hW; go_simp; try rfl⟩) hSW ?_
          try simp only [Act.put, List.setIfInBounds_toArray, List.set_cons_zero, List.set_cons_succ]
          refine wpAnyS_take (i := 4) (d := some 66) (v := .int .i64 i) rfl rfl rfl (by kernel_rfl) (by kernel_rfl) (by kernel_rfl) (by kernel_rfl) (fun _ _ _ h => h) (.inl ⟨by rfl, fun W hW => by obtain ⟨q0, q1⟩ := hW; go_simp; try rfl⟩) hSW ?_
          try simp only [Act.put, List.setIfInBounds_toArray, List.set_cons_zero, List.set_cons_succ]
          refine wpAnyS_take (i := 5) (d := some 67) (v := .pointer (some ⟨g, i * 26, none⟩)) rfl rfl rfl (by kernel_rfl) (by kernel_rfl) (by kernel_rfl) (by kernel_rfl) (fun _ _ _ h => h) (.inl ⟨by rfl, fun W hW => by obtain ⟨q0, q1⟩ := hW; go_simp; try rfl⟩) hSW ?_
          try simp only [Act.put, List.setIfInBounds_toArray, List.set_cons_zero, List.set_cons_succ]
          refine wpAnyS_take (i := 6) (d := some 68) (v := .func (.func 81) #[] #[.pointer (some ⟨lo, 0, none⟩), .pointer (some ⟨wr.heap.size + 1, 0, none⟩), .pointer (some ⟨wr.heap.size, 0, none⟩)]) rfl rfl rfl (by kernel_rfl) (by kernel_rfl) (by kernel_rfl) (by kernel_rfl) (fun _ _ _ h => h) (.inl ⟨by rfl, fun W hW => by obtain ⟨q0, q1⟩ := hW; go_simp; try rfl⟩) hSW ?_
          try simp only [Act.put, List.setIfInBounds_toArray, List.set_cons_zero, List.set_cons_succ]
          obtain ⟨rb, rcap, erv, rb1, rb2, hrow⟩ := HNR.out
          have hbe : Ext (fun _ => False) wr W2 := HX1.out.1
          have hz2 := HX1.out.2.1
          have hN : NR W2 lo (wr.heap.size + 2) lo wr.heap.size rb rcap i (colF L i) (wr.heap.size + 1) :=
            ⟨by rw [← erv]; exact cell_of_one ((hbe.block _ (by omega) id).trans HR.out.row), cell_of_one HX1.out.2.2.1, fun c hc => by
              obtain ⟨sb, sn, sc, q1, q2, q3, q4⟩ := hrow c hc
              exact ⟨sb, sn, sc, hbe.keep q1 id, ⟨by omega, by omega, by omega⟩, q3, hbe.keep q4 id⟩, ⟨⟨Nat.le_refl _, by omega, by omega⟩, ⟨by omega, by omega, by omega⟩, ⟨by omega, by omega, by omega⟩, by omega, by omega⟩⟩
          have hJ0 : JN W2 lo (wr.heap.size + 2) (wr.heap.size + 1) 0 (fun k => k < lo) W2 := ⟨fun k hk => .inl hk, fun _ _ _ _ => rfl, HX1.out.2.2.2, by omega, by omega, by omega⟩
          have hN2 := HR.out.ext hbe (fun _ f => f.elim) HF.out.2.2
          have hown3 := hN2.tks.own
          rw [show ls.length = (mixN L i ls).length from (mixN_len L i ls).symm] at hown3
          have hAt : At g (i * 26) x (fld x) W2 := At.of_cells (fun j u hj => hown3.cellAt OpD.len (mixN_at L i HX.out) hj) (fun j _ => hown3.free _)
          refine wpAnyS_call (i := 7) (d := some 69) (f := 17) (args := #[.pointer (some ⟨g, i * 26, none⟩), .func (.func 81) #[] #[.pointer (some ⟨lo, 0, none⟩), .pointer (some ⟨wr.heap.size + 1, 0, none⟩), .pointer (some ⟨wr.heap.size, 0, none⟩)]]) (w' := W2) (by kernel_rfl) rfl rfl (by rfl) (by go_simp; try rfl) ?_
          refine (ints_any (enters_of Tryz.func81 (by kernel_rfl) rfl) g (i * 26) x (colF L i) (JN W2 lo (wr.heap.size + 2) (wr.heap.size + 1)) (fun k => k < lo) W2 (nums_use hN (fld x)) (JN.jok _ _ _ _ _) hgl hAt hJ0).mono ?_
          rintro e w3 ⟨⟨v3, rfl⟩, hJ, hA3, hx3, hR3⟩
          have hxx : Ext (fun k => k = g ∨ k = wr.heap.size + 1) W2 w3 := ⟨hx3.os, hx3.tape, hx3.output, hx3.size, fun k hk hn => by
            by_cases h : k < lo
            · exact hx3.block k hk (fun e => e.elim (fun e => e h) (fun e => hn (.inl e)))
            · exact hJ.2.1 k (by omega) (by omega) (fun e => hn (.inr e))⟩
          have HN : Hid (N2 w0 T (.slice (some ⟨g, 0, none⟩) ls.length lc) ls lo tb1 rv L r2 rs (i + 1) w3) := Lib.hid (hN2.put HR.out hxx (by omega) HX.out hA3 hR3 HF.out.2.2)
          refine ⟨_, rfl, fun _ => ⟨hxx.keep hSW.1 (fun e => e.elim (fun e => ?_) (fun e => by omega)), hxx.keep hSW.2 (fun e => by omega)⟩, ?_⟩
          · have h1 := hN2.tks.cell
            obtain ⟨c2, h2⟩ := hN2.tks.own.tag (b := g) rfl
            rw [e, h2] at h1
            cases h1
          try simp only [Act.put, List.setIfInBounds_toArray, List.set_cons_zero, List.set_cons_succ]
          refine wpAnyS_done (by kernel_rfl) ?_ _
          clear hxx hx3 hJ hA3 hR3 hAt hown3 hN2 hJ0 hN hbe hrow hSW HX1 HNR HR
          go_wp2_with fail
          go_roundg (ls.length - (i + 1))
          case measure => rw [HG.out]; omega
          case rel => exact ⟨i + 1, rfl, by simp, by omega, HN⟩
        · obtain rfl : i = ls.length := by omega
          have hk1 : ¬ (ls.length : Int) < (ls.length : Int) := by omega
          go_wp2_with fail
          go_ret
          exact .inl ⟨_, _, HF.out.1, rfl, _, HR.out.tks⟩

end Go.Proofs.YtdlnokbeadkdfaaGreatDoor

namespace Go.Proofs.YtdlnokbeadkdfaaGreatDoor
open Go.RowKit Go.Deep
set_option linter.unusedSimpArgs false
set_option linter.unusedVariables false

/-- The first i operations are changed so. -/
def mixG (f : Nat → OpD → OpD) (i : Nat) (ls : List OpD) : List OpD := ls.mapIdx fun j o => if j < i then f j o else o
theorem mixG_len (f : Nat → OpD → OpD) (i : Nat) (ls : List OpD) : (mixG f i ls).length = ls.length := by simp [mixG]
theorem mixG_zero (f : Nat → OpD → OpD) (ls : List OpD) : mixG f 0 ls = ls := by
  apply List.ext_getElem?
  intro j
  simp [mixG]
theorem mixG_at (f : Nat → OpD → OpD) (i : Nat) {ls : List OpD} {x : OpD} (h : ls[i]? = some x) : (mixG f i ls)[i]? = some x := by simp [mixG, h]
theorem mixG_succ (f g : Nat → OpD → OpD) (i : Nat) {ls : List OpD} {x : OpD} (h : ls[i]? = some x) (hfg : ∀ j, j < i → f j = g j) : mixG g (i + 1) ls = (mixG f i ls).set i (g i x) := by
  apply List.ext_getElem?
  intro j
  have hi := (List.getElem?_eq_some_iff.1 h).1
  by_cases e : j = i
  · subst e
    rw [List.getElem?_set_self (by rw [mixG_len]; exact hi)]
    simp [mixG, h]
  · rw [List.getElem?_set_ne (Ne.symm e)]
    simp only [mixG, List.getElem?_mapIdx]
    congr 1
    funext o
    by_cases h1 : j < i
    · rw [if_pos h1, if_pos (by omega), hfg j h1]
    · rw [if_neg h1, if_neg (by omega)]
theorem mixN_G (L : List (List Int)) (i : Nat) (ls : List OpD) : mixN L i ls = mixG (fun j o => o.withF (colF L j)) i ls := rfl
def OpD.setT (o : OpD) (c : Nat) (v : Bool) : OpD := if c = 0 then { o with fa := v } else { o with ta := v }
def OpD.setX (o : OpD) (c : Nat) (s : ByteArray) : OpD := if c = 0 then { o with key := s } else if c = 1 then { o with name := s } else { o with value := s }
def offT (c : Nat) : Nat := if c = 0 then 22 else 25
def offX (c : Nat) : Nat := if c = 0 then 17 else if c = 1 then 18 else 19
theorem offT_lt (c : Nat) : offT c < 26 := by unfold offT; split <;> omega
theorem offX_lt (c : Nat) : offX c < 26 := by unfold offX; split <;> (try split) <;> omega
theorem setT_cells (o : OpD) (c : Nat) (v : Bool) : (o.setT c v).cells = o.cells.set (offT c) (.bool v) := by
  unfold OpD.setT offT
  split <;> rfl
theorem setX_cells (o : OpD) (c : Nat) (s : ByteArray) : (o.setX c s).cells = o.cells.set (offX c) (.string s) := by
  unfold OpD.setX offX
  split
  · rfl
  · split <;> rfl
/-- Truths of a column. -/
def mixT (c : Nat) (V : List Bool) (i : Nat) (ls : List OpD) : List OpD := mixG (fun j o => o.setT c (V.getD j false)) i ls
/-- The first c columns of truths. -/
noncomputable def tkT (n : Nat) : Nat → List OpD × List UInt8 → Option (List OpD × List UInt8)
  | 0, p => some p
  | c + 1, p => (tkT n c p).bind fun q => (decT n false true q.2).map fun t => (mixT c t.1 n q.1, q.2.drop t.2)
theorem tkT_step {n c : Nat} {p q : List OpD × List UInt8} {V : List Bool} {u : Nat} (h : tkT n c p = some q) (k : decT n false true q.2 = some (V, u)) : tkT n (c + 1) p = some (mixT c V n q.1, q.2.drop u) := by
  simp [tkT, h, k]
theorem tkT_none {n c : Nat} {p : List OpD × List UInt8} (h : tkT n c p = none) : ∀ d, tkT n (c + d) p = none
  | 0 => h
  | d + 1 => by
    show (tkT n (c + d) p).bind _ = none
    rw [tkT_none h d]
    rfl
theorem tkT_bad {n c : Nat} {p q : List OpD × List UInt8} (h : tkT n c p = some q) (k : decT n false true q.2 = none) {d : Nat} (hd : c < d) : tkT n d p = none := by
  have h1 : tkT n (c + 1) p = none := by simp [tkT, h, k]
  have := tkT_none h1 (d - (c + 1))
  rwa [show c + 1 + (d - (c + 1)) = d by omega] at this
theorem tkT_len {n : Nat} : ∀ {c : Nat} {p q : List OpD × List UInt8}, tkT n c p = some q → q.1.length = p.1.length
  | 0, p, q, h => by cases h; rfl
  | c + 1, p, q, h => by
    unfold tkT at h
    rw [Option.bind_eq_some_iff] at h
    obtain ⟨q0, h1, h2⟩ := h
    rw [Option.map_eq_some_iff] at h2
    obtain ⟨t, _, h4⟩ := h2
    rw [← h4]
    show (mixT c t.1 n q0.1).length = _
    unfold mixT
    rw [mixG_len]
    exact tkT_len h1
theorem decT_facts {n : Nat} (hn : n ≤ 65536) {b : List UInt8} {l : List Bool} {u : Nat} (h : decT n false true b = some (l, u)) : l.length = n ∧ u ≤ b.length := by
  obtain ⟨h1, _, h2, h3⟩ := (decT_iff n (by omega) false true b l u).1 h
  exact ⟨h1, by rw [h3]; exact h2.length_le⟩
/-- i texts of these lengths. -/
def cutX (v : List Int) : Nat → List UInt8 → Option (List ByteArray × List UInt8)
  | 0, b => some ([], b)
  | i + 1, b => (cutX v i b).bind fun p => if 0 ≤ v.getD i 0 ∧ v.getD i 0 ≤ (p.2.length : Int) then some (p.1 ++ [⟨(p.2.take (v.getD i 0).toNat).toArray⟩], p.2.drop (v.getD i 0).toNat) else none
theorem cutX_step {v : List Int} {i : Nat} {b r : List UInt8} {X : List ByteArray} {m : Nat} (h : cutX v i b = some (X, r)) (hv : v[i]? = some (m : Int)) (hm : m ≤ r.length) : cutX v (i + 1) b = some (X ++ [⟨(r.take m).toArray⟩], r.drop m) := by
  have hg : v.getD i 0 = (m : Int) := by rw [List.getD_eq_getElem?_getD, hv]; rfl
  simp only [cutX, h, Option.bind_some, hg]
  rw [if_pos ⟨by omega, by omega⟩]
  rfl
theorem cutX_none {v : List Int} {i : Nat} {b : List UInt8} (h : cutX v i b = none) : ∀ d, cutX v (i + d) b = none
  | 0 => h
  | d + 1 => by
    show (cutX v (i + d) b).bind _ = none
    rw [cutX_none h d]
    rfl
theorem cutX_bad {v : List Int} {i : Nat} {b r : List UInt8} {X : List ByteArray} {m : Int} (h : cutX v i b = some (X, r)) (hv : v[i]? = some m) (hm : m < 0 ∨ (r.length : Int) < m) {d : Nat} (hd : i < d) : cutX v d b = none := by
  have hg : v.getD i 0 = m := by rw [List.getD_eq_getElem?_getD, hv]; rfl
  have h1 : cutX v (i + 1) b = none := by
    simp only [cutX, h, Option.bind_some, hg]
    rw [if_neg (by omega)]
  have := cutX_none h1 (d - (i + 1))
  rwa [show i + 1 + (d - (i + 1)) = d by omega] at this
theorem cutX_len {v : List Int} : ∀ {i : Nat} {b r : List UInt8} {X : List ByteArray}, cutX v i b = some (X, r) → X.length = i ∧ r.length ≤ b.length
  | 0, b, r, X, h => by cases h; exact ⟨rfl, Nat.le_refl _⟩
  | i + 1, b, r, X, h => by
    unfold cutX at h
    rw [Option.bind_eq_some_iff] at h
    obtain ⟨⟨X0, r0⟩, h1, h2⟩ := h
    split at h2
    · cases h2
      have h3 := cutX_len h1
      refine ⟨by rw [List.length_append, h3.1]; rfl, ?_⟩
      have h4 := h3.2
      simp only [List.length_drop]
      omega
    · cases h2
/-- Texts of a column. -/
def mixX (c : Nat) (X : List ByteArray) (i : Nat) (ls : List OpD) : List OpD := mixG (fun j o => o.setX c (X.getD j noText)) i ls
/-- A column of texts. -/
noncomputable def tkX1 (n c : Nat) (p : List OpD × List UInt8) : Option (List OpD × List UInt8) := (decR n none p.2).bind fun t => (cutX t.1 n (p.2.drop t.2)).map fun x => (mixX c x.1 n p.1, x.2)
theorem TKS.setOp {w0 : World} {T g lc i j : Nat} {W : World} {tb : Value} {r : List UInt8} {ls : List OpD} {x y : OpD} {u : Value} (h : TKS w0 T W tb r (.slice (some ⟨g, 0, none⟩) ls.length lc) ls) (hx : ls[i]? = some x) (hj : j < 26) (hy : y.cells = x.cells.set j u) : TKS w0 T (W.setCell ⟨g, i * 26 + j, none⟩ u) tb r (.slice (some ⟨g, 0, none⟩) ls.length lc) (ls.set i y) := by
  have hTg : T ≠ g := fun e => by
    have h1 := h.cell
    obtain ⟨c2, h2⟩ := h.own.tag (b := g) rfl
    rw [e, h2] at h1
    cases h1
  have hgn := (h.own.blk g rfl).1
  have hx1 : Ext (· = g) W (W.setCell ⟨g, i * 26 + j, none⟩ u) := (Ext.refl (· = g) W).setCell (p := ⟨g, i * 26 + j, none⟩) (.inr rfl) _
  exact ⟨(hx1.block T (Array.getElem?_eq_some_iff.1 h.cell).1 hTg).trans h.cell, h.byt, h.own.setAt OpD.len hx hj hy, Ext.new h.bel hx1 (fun k hk _ e => by omega) h.bel.size, h.new, h.fltKeep hx1 (fun e => by
    obtain ⟨c2, h2⟩ := h.own.tag (b := g) rfl
    have h1 := h.flt
    rw [e, h2] at h1
    cases h1)⟩
theorem TKS.setB {w0 : World} {T : Nat} {W : World} {tb tb' tl : Value} {r r' : List UInt8} {ls : List OpD} (h : TKS w0 T W tb r tl ls) (hb : SliceIs u8c 1 w0 tb' r') : TKS w0 T (W.setCell ⟨T, 0, none⟩ tb') tb' r' tl ls := by
  have hx1 : Ext (· = T) W (W.setCell ⟨T, 0, none⟩ tb') := (Ext.refl (· = T) W).setCell (p := ⟨T, 0, none⟩) (.inr rfl) _
  refine ⟨?_, hb, h.own.ext hx1 (fun b hb e => ?_), Ext.new h.bel hx1 (fun k hk _ e => by have := h.new; omega) h.bel.size, h.new, h.fltKeep hx1 (fun e => by omega)⟩
  · rw [heap_setCell_same _ T 0 _ _ _ h.cell]
    rfl
  · have hc := h.cell
    obtain ⟨c1, g1⟩ := h.own.tag hb
    rw [e, hc] at g1
    cases g1

end Go.Proofs.YtdlnokbeadkdfaaGreatDoor

namespace Go.Proofs.YtdlnokbeadkdfaaGreatDoor
open Go.RowKit Go.Deep
set_option linter.unusedSimpArgs false
set_option linter.unusedVariables false

def inI (x : Int) : Prop := -9223372036854775808 ≤ x ∧ x ≤ 9223372036854775807
theorem zigN_in {x : Int} : zigN x < 18446744073709551616 ↔ inI x := by
  unfold inI zigN
  split <;> omega
theorem sumsF_in : ∀ (l : List Int) (p : Int), ∀ x ∈ sumsF p l, inI x
  | [], p, x, h => by simp [sumsF] at h
  | y :: l, p, x, h => by
    rw [sumsF] at h
    rcases List.mem_cons.1 h with rfl | h
    · exact wrapI_in _
    · exact sumsF_in l _ x h
theorem sumsB_in {l : List Int} (h : ∀ x ∈ l, inI x) : ∀ x ∈ sumsB l, inI x := by
  intro x hx
  cases l with
  | nil => simp [sumsB] at hx
  | cons y l =>
    rw [sumsB] at hx
    rcases List.mem_cons.1 hx with rfl | hx
    · exact h _ (by simp)
    · exact sumsF_in l _ x hx
/-- A column's bytes. -/
def colBy (d : Bool) (l : List Int) : List UInt8 := if d then runsB (diffsB l) else runsB l
theorem runsB_nil : runsB [] = [] := by rw [runsB]
theorem decR_all {n : Nat} (hn : n ≤ 65536) {b : List UInt8} {l : List Int} {u : Nat} : decR n none b = some (l, u) ↔ l.length = n ∧ (∀ x ∈ l, inI x) ∧ runsB l <+: b ∧ u = (runsB l).length := by
  rw [decR_iff n (by omega) none b l u]
  constructor
  · rintro (⟨h1, _, h2, h3, h4⟩ | ⟨h1, rfl, rfl⟩)
    · exact ⟨h1, fun x hx => zigN_in.1 (h2 x hx), h3, h4⟩
    · rw [runsB_nil]
      exact ⟨h1.symm, fun x hx => by simp at hx, List.nil_prefix, rfl⟩
  · rintro ⟨h1, h2, h3, h4⟩
    exact .inl ⟨h1, fun h => absurd rfl h, fun x hx => zigN_in.2 (h2 x hx), h3, h4⟩
theorem colD_all {n : Nat} (hn : n ≤ 65536) {d : Bool} {b : List UInt8} {l : List Int} {u : Nat} : colD n d b = some (l, u) ↔ l.length = n ∧ (∀ x ∈ l, inI x) ∧ colBy d l <+: b ∧ u = (colBy d l).length := by
  unfold colD colBy
  cases d with
  | false => exact decR_all hn
  | true =>
    simp only [if_true]
    unfold decD
    rw [Option.map_eq_some_iff]
    constructor
    · rintro ⟨⟨l0, u0⟩, h1, h2⟩
      cases h2
      obtain ⟨h3, h4, h5, h6⟩ := (decR_all hn).1 h1
      dsimp only
      rw [diffs_sums h4, sumsB_len]
      exact ⟨h3, sumsB_in h4, h5, h6⟩
    · rintro ⟨h1, h2, h3, h4⟩
      refine ⟨(diffsB l, u), (decR_all hn).2 ⟨by rw [diffsB_length]; exact h1, diffsB_in h2, h3, h4⟩, ?_⟩
      dsimp only
      rw [sums_diffs h2]
/-- The bytes of columns. -/
def colsOf (L : List (List Int)) : List UInt8 := (List.range L.length).flatMap fun c => colBy (dlt c) (L.getD c [])
theorem getD_snoc {α : Type} (L : List α) (x d : α) {c : Nat} (hc : c < L.length) : (L ++ [x]).getD c d = L.getD c d := by
  rw [List.getD_eq_getElem?_getD, List.getD_eq_getElem?_getD, List.getElem?_append_left hc]
theorem getD_last {α : Type} (L : List α) (x d : α) : (L ++ [x]).getD L.length d = x := by
  rw [List.getD_eq_getElem?_getD, List.getElem?_append_right (Nat.le_refl _), Nat.sub_self]
  rfl
theorem flatMap_congr8 {α β : Type} {f g : α → List β} : ∀ {l : List α}, (∀ x ∈ l, f x = g x) → l.flatMap f = l.flatMap g
  | [], _ => rfl
  | x :: l, h => by rw [List.flatMap_cons, List.flatMap_cons, h x (by simp), flatMap_congr8 (fun y hy => h y (by simp [hy]))]
theorem colsOf_snoc (L : List (List Int)) (l : List Int) : colsOf (L ++ [l]) = colsOf L ++ colBy (dlt L.length) l := by
  unfold colsOf
  rw [List.length_append, List.length_singleton, List.range_succ, List.flatMap_append, List.flatMap_cons, List.flatMap_nil, List.append_nil, getD_last]
  congr 1
  exact flatMap_congr8 fun c hc => by rw [getD_snoc _ _ _ (List.mem_range.1 hc)]
theorem prefix_drop {a b : List UInt8} (h : a <+: b) : b = a ++ b.drop a.length := by
  obtain ⟨t, rfl⟩ := h
  rw [List.drop_left]
theorem decCols_spec {n : Nat} (hn : n ≤ 65536) : ∀ {c : Nat} {b r : List UInt8} {L : List (List Int)}, decCols n c b = some (L, r) ↔ L.length = c ∧ (∀ l ∈ L, l.length = n ∧ ∀ x ∈ l, inI x) ∧ b = colsOf L ++ r
  | 0, b, r, L => by
    constructor
    · intro h
      cases h
      exact ⟨rfl, fun l hl => by simp at hl, rfl⟩
    · rintro ⟨h1, _, h2⟩
      rw [List.length_eq_zero_iff.1 h1] at h2 ⊢
      subst h2
      rfl
  | c + 1, b, r, L => by
    unfold decCols
    rw [Option.bind_eq_some_iff]
    constructor
    · rintro ⟨⟨L0, r0⟩, h1, h2⟩
      rw [Option.map_eq_some_iff] at h2
      obtain ⟨⟨l, u⟩, h3, h4⟩ := h2
      cases h4
      obtain ⟨a1, a2, a3⟩ := (decCols_spec hn).1 h1
      obtain ⟨b1, b2, b3, b4⟩ := (colD_all hn).1 h3
      subst a1
      refine ⟨by rw [List.length_append]; rfl, fun x hx => ?_, ?_⟩
      · rcases List.mem_append.1 hx with hx | hx
        · exact a2 x hx
        · rw [List.mem_singleton.1 hx]; exact ⟨b1, b2⟩
      · rw [colsOf_snoc, List.append_assoc, a3]
        congr 1
        dsimp only at b3 b4 ⊢
        rw [b4]
        exact prefix_drop b3
    · rintro ⟨h1, h2, h3⟩
      obtain ⟨L0, l, rfl⟩ : ∃ L0 l, L = L0 ++ [l] := by
        rcases List.eq_nil_or_concat L with rfl | ⟨L0, l, h⟩
        · simp at h1
        · exact ⟨L0, l, by rw [h, List.concat_eq_append]⟩
      rw [List.length_append, List.length_singleton] at h1
      have h1 : L0.length = c := by omega
      subst h1
      rw [colsOf_snoc, List.append_assoc] at h3
      refine ⟨(L0, colBy (dlt L0.length) l ++ r), (decCols_spec hn).2 ⟨rfl, fun x hx => h2 x (List.mem_append_left _ hx), h3⟩, ?_⟩
      have h4 := h2 l (by simp)
      rw [Option.map_eq_some_iff]
      refine ⟨(l, (colBy (dlt L0.length) l).length), (colD_all hn).2 ⟨h4.1, h4.2, List.prefix_append _ _, rfl⟩, ?_⟩
      dsimp only
      rw [List.drop_left]
theorem decT_all {n : Nat} (hn : n ≤ 65536) {b : List UInt8} {l : List Bool} {u : Nat} : decT n false true b = some (l, u) ↔ l.length = n ∧ boolsF false l <+: b ∧ u = (boolsF false l).length := by
  rw [decT_iff n (by omega) false true b l u]
  constructor
  · rintro ⟨h1, _, h2, h3⟩; exact ⟨h1, h2, h3⟩
  · rintro ⟨h1, h2, h3⟩; exact ⟨h1, fun h => absurd h (by decide), h2, h3⟩
theorem tkT_spec {n : Nat} (hn : n ≤ 65536) {p q : List OpD × List UInt8} : tkT n 2 p = some q ↔ ∃ V0 V1, V0.length = n ∧ V1.length = n ∧ q.1 = mixT 1 V1 n (mixT 0 V0 n p.1) ∧ p.2 = boolsF false V0 ++ (boolsF false V1 ++ q.2) := by
  have e : tkT n 2 p = (decT n false true p.2).bind fun t => (decT n false true (p.2.drop t.2)).map fun s => (mixT 1 s.1 n (mixT 0 t.1 n p.1), (p.2.drop t.2).drop s.2) := by
    unfold tkT tkT tkT
    rw [Option.bind_some]
    cases decT n false true p.2 with
    | none => rfl
    | some t => rfl
  rw [e, Option.bind_eq_some_iff]
  constructor
  · rintro ⟨⟨V0, u⟩, h1, h2⟩
    rw [Option.map_eq_some_iff] at h2
    obtain ⟨⟨V1, s⟩, h3, h4⟩ := h2
    subst h4
    obtain ⟨a1, a2, a3⟩ := (decT_all hn).1 h1
    obtain ⟨b1, b2, b3⟩ := (decT_all hn).1 h3
    refine ⟨V0, V1, a1, b1, rfl, ?_⟩
    dsimp only at a3 b2 b3 ⊢
    rw [b3, ← prefix_drop b2, a3]
    exact prefix_drop a2
  · rintro ⟨V0, V1, h1, h2, h3, h4⟩
    refine ⟨(V0, (boolsF false V0).length), (decT_all hn).2 ⟨h1, by rw [h4]; exact List.prefix_append _ _, rfl⟩, ?_⟩
    rw [Option.map_eq_some_iff]
    refine ⟨(V1, (boolsF false V1).length), (decT_all hn).2 ⟨h2, ?_, rfl⟩, ?_⟩
    · dsimp only
      rw [h4, List.drop_left]
      exact List.prefix_append _ _
    · dsimp only
      rw [h4, List.drop_left, List.drop_left, ← h3]
def sizX (X : List ByteArray) : List Int := X.map fun s => (s.size : Int)
def catX (X : List ByteArray) : List UInt8 := X.flatMap fun s => s.data.toList
theorem cutX_spec {v : List Int} : ∀ {i : Nat} {b r : List UInt8} {X : List ByteArray}, i ≤ v.length → (cutX v i b = some (X, r) ↔ v.take i = sizX X ∧ b = catX X ++ r)
  | 0, b, r, X, _ => by
    constructor
    · intro h
      cases h
      exact ⟨rfl, rfl⟩
    · rintro ⟨h1, h2⟩
      have : X = [] := by
        cases X with
        | nil => rfl
        | cons x X => simp [sizX] at h1
      subst this
      subst h2
      rfl
  | i + 1, b, r, X, hi => by
    unfold cutX
    rw [Option.bind_eq_some_iff]
    have hvi : v[i]? = some (v.getD i 0) := by rw [List.getD_eq_getElem?_getD, List.getElem?_eq_getElem (by omega)]; rfl
    have htk : v.take (i + 1) = v.take i ++ [v.getD i 0] := by rw [List.take_add_one, hvi]; rfl
    rw [htk]
    constructor
    · rintro ⟨⟨X0, r0⟩, h1, h2⟩
      split at h2
      · rename_i hc
        cases h2
        obtain ⟨a1, a2⟩ := (cutX_spec (by omega)).1 h1
        dsimp only at hc
        refine ⟨?_, ?_⟩
        · rw [a1, sizX, sizX, List.map_append]
          congr 1
          rw [List.map_cons, List.map_nil]
          congr 1
          show _ = (((r0.take (v.getD i 0).toNat).toArray.size : Nat) : Int)
          rw [List.size_toArray, List.length_take]
          omega
        · rw [a2, catX, catX, List.flatMap_append, List.append_assoc]
          congr 1
          simp
      · cases h2
    · rintro ⟨h1, h2⟩
      obtain ⟨X0, x, rfl⟩ : ∃ X0 x, X = X0 ++ [x] := by
        rcases List.eq_nil_or_concat X with rfl | ⟨X0, x, h⟩
        · simp [sizX] at h1
        · exact ⟨X0, x, by rw [h, List.concat_eq_append]⟩
      rw [sizX, List.map_append, List.map_cons, List.map_nil] at h1
      have h3 := List.append_inj' h1 rfl
      rw [catX, List.flatMap_append, List.append_assoc] at h2
      have hv : v.getD i 0 = (x.size : Int) := by
        have := h3.2
        simpa using this
      refine ⟨(X0, x.data.toList ++ r), (cutX_spec (by omega)).2 ⟨h3.1, by rw [h2]; simp [catX]⟩, ?_⟩
      have hs : x.data.toList.length = x.size := by rw [Array.length_toList]; rfl
      rw [hv]
      dsimp only
      rw [if_pos ⟨by omega, by rw [List.length_append]; omega⟩, Int.toNat_natCast, ← hs, List.take_left, List.drop_left]
theorem tkX1_spec {n c : Nat} (hn : n ≤ 65536) {p q : List OpD × List UInt8} : tkX1 n c p = some q ↔ ∃ X, X.length = n ∧ (∀ x ∈ sizX X, inI x) ∧ q.1 = mixX c X n p.1 ∧ p.2 = runsB (sizX X) ++ (catX X ++ q.2) := by
  unfold tkX1
  rw [Option.bind_eq_some_iff]
  constructor
  · rintro ⟨⟨v, u⟩, h1, h2⟩
    rw [Option.map_eq_some_iff] at h2
    obtain ⟨⟨X, r⟩, h3, h4⟩ := h2
    subst h4
    obtain ⟨a1, a2, a3, a4⟩ := (decR_all hn).1 h1
    obtain ⟨b1, b2⟩ := (cutX_spec (by dsimp only; omega)).1 h3
    dsimp only at b1 b2 a4 ⊢
    rw [← a1, List.take_length] at b1
    subst b1
    refine ⟨X, by rw [← a1, sizX, List.length_map], a2, rfl, ?_⟩
    rw [← b2, a4]
    exact prefix_drop a3
  · rintro ⟨X, h1, h2, h3, h4⟩
    have h5 : (sizX X).length = n := by rw [sizX, List.length_map]; exact h1
    refine ⟨(sizX X, (runsB (sizX X)).length), (decR_all hn).2 ⟨h5, h2, by rw [h4]; exact List.prefix_append _ _, rfl⟩, ?_⟩
    rw [Option.map_eq_some_iff]
    refine ⟨(X, q.2), (cutX_spec (by dsimp only; omega)).2 ⟨by dsimp only; rw [← h5, List.take_length], ?_⟩, by rw [← h3]⟩
    dsimp only
    rw [h4, List.drop_left]
def zOp : OpD := ⟨⟨0, 0⟩, 0, 0, 0, 0, 0, 0, 0, 0, 0, ⟨0, 0⟩, 0, 0, ⟨0, 0⟩, noText, noText, noText, ⟨0, 0⟩, false, ⟨0, 0⟩, false⟩
/-- Operation j of what was taken. -/
def fullO (L : List (List Int)) (V0 V1 : List Bool) (X0 X1 X2 : List ByteArray) (j : Nat) : OpD := (((((zOp.withF (colF L j)).setT 0 (V0.getD j false)).setT 1 (V1.getD j false)).setX 0 (X0.getD j noText)).setX 1 (X1.getD j noText)).setX 2 (X2.getD j noText)
theorem mixG_get (f : Nat → OpD → OpD) {n j : Nat} (hj : j < n) (ls : List OpD) : (mixG f n ls)[j]? = ls[j]?.map (f j) := by
  simp [mixG, hj]
theorem full_list (n : Nat) (L : List (List Int)) (V0 V1 : List Bool) (X0 X1 X2 : List ByteArray) : mixX 2 X2 n (mixX 1 X1 n (mixX 0 X0 n (mixT 1 V1 n (mixT 0 V0 n (mixN L n (List.replicate n zOp)))))) = (List.range n).map (fullO L V0 V1 X0 X1 X2) := by
  apply List.ext_getElem?
  intro j
  by_cases hj : j < n
  · unfold mixX mixT
    rw [mixN_G, mixG_get _ hj, mixG_get _ hj, mixG_get _ hj, mixG_get _ hj, mixG_get _ hj, mixG_get _ hj, List.getElem?_replicate_of_lt hj, List.getElem?_map, List.getElem?_range hj]
    rfl
  · rw [List.getElem?_eq_none, List.getElem?_eq_none]
    · simp; omega
    · unfold mixX mixT
      rw [mixG_len, mixG_len, mixG_len, mixG_len, mixG_len, mixN_len, List.length_replicate]
      omega
theorem fld_setX (o : OpD) (c k : Nat) (s : ByteArray) : fld (o.setX c s) k = fld o k := by
  unfold OpD.setX
  split
  · unfold fld; split <;> rfl
  · split <;> (unfold fld; split <;> rfl)
theorem fld_setT (o : OpD) (c k : Nat) (v : Bool) : fld (o.setT c v) k = fld o k := by
  unfold OpD.setT
  split <;> (unfold fld; split <;> rfl)
theorem fld_full (L : List (List Int)) (V0 V1 : List Bool) (X0 X1 X2 : List ByteArray) (j : Nat) {c : Nat} (hc : c < 21) : fld (fullO L V0 V1 X0 X1 X2 j) c = colF L j c := by
  unfold fullO
  rw [fld_setX, fld_setX, fld_setX, fld_setT, fld_setT, fld_withF _ _ hc]
theorem map_getD {α : Type} {l : List α} {n : Nat} (d : α) (h : l.length = n) : ((List.range n).map fun j => l.getD j d) = l := by
  apply List.ext_getElem?
  intro j
  by_cases hj : j < n
  · rw [List.getElem?_map, List.getElem?_range hj, Option.map_some, List.getD_eq_getElem?_getD, List.getElem?_eq_getElem (by omega)]
    rfl
  · rw [List.getElem?_eq_none (by simp; omega), List.getElem?_eq_none (by omega)]
theorem numC_full {n : Nat} {L : List (List Int)} (V0 V1 : List Bool) (X0 X1 X2 : List ByteArray) {c : Nat} (hc : c < 21) (hl : (L.getD c []).length = n) : numC ((List.range n).map (fullO L V0 V1 X0 X1 X2)) c = L.getD c [] := by
  unfold numC
  rw [List.map_map]
  refine Eq.trans (List.map_congr_left fun j _ => ?_) (map_getD 0 hl)
  show fld (fullO L V0 V1 X0 X1 X2 j) c = _
  rw [fld_full _ _ _ _ _ _ _ hc]
  rfl
theorem truC_full {n : Nat} (L : List (List Int)) {V0 V1 : List Bool} (X0 X1 X2 : List ByteArray) (h0 : V0.length = n) (h1 : V1.length = n) : truC ((List.range n).map (fullO L V0 V1 X0 X1 X2)) 0 = V0 ∧ truC ((List.range n).map (fullO L V0 V1 X0 X1 X2)) 1 = V1 := by
  unfold truC
  rw [List.map_map, List.map_map]
  exact ⟨map_getD false h0, map_getD false h1⟩
theorem txt_full {n : Nat} (L : List (List Int)) (V0 V1 : List Bool) {X0 X1 X2 : List ByteArray} (h0 : X0.length = n) (h1 : X1.length = n) (h2 : X2.length = n) :
    ((List.range n).map (fullO L V0 V1 X0 X1 X2)).map (fun o => txt o 0) = X0 ∧ ((List.range n).map (fullO L V0 V1 X0 X1 X2)).map (fun o => txt o 1) = X1 ∧ ((List.range n).map (fullO L V0 V1 X0 X1 X2)).map (fun o => txt o 2) = X2 := by
  rw [List.map_map, List.map_map, List.map_map]
  exact ⟨map_getD noText h0, map_getD noText h1, map_getD noText h2⟩
theorem lenC_X (l : List OpD) (c : Nat) : lenC l c = sizX (l.map fun o => txt o c) := by unfold lenC sizX; rw [List.map_map]; rfl
theorem catC_X (l : List OpD) (c : Nat) : catC l c = catX (l.map fun o => txt o c) := by unfold catC catX; rw [List.flatMap_map]
theorem numsB_cols {l : List OpD} {L : List (List Int)} (hL : L.length = 21) (h : ∀ c, c < 21 → numC l c = L.getD c []) : numsB l 21 = colsOf L := by
  unfold numsB colsOf
  rw [hL]
  exact flatMap_congr8 fun c hc => by unfold colB colBy; rw [h c (List.mem_range.1 hc)]
theorem encB_eq (l : List OpD) : encB l = putB l.length ++ (numsB l 21 ++ (boolsF false (truC l 0) ++ (boolsF false (truC l 1) ++ (runsB (lenC l 0) ++ (catC l 0 ++ (runsB (lenC l 1) ++ (catC l 1 ++ (runsB (lenC l 2) ++ catC l 2)))))))) := by
  unfold encB
  have h1 : trusB l 2 = boolsF false (truC l 0) ++ boolsF false (truC l 1) := by
    rw [trusB_succ, trusB_succ]; rfl
  have h2 : txtsB l 3 = runsB (lenC l 0) ++ (catC l 0 ++ (runsB (lenC l 1) ++ (catC l 1 ++ (runsB (lenC l 2) ++ catC l 2)))) := by
    rw [txtsB_succ, txtsB_succ, txtsB_succ]
    simp [txtsB]
  rw [h1, h2]
  simp only [List.append_assoc]
/-- All but the checks. -/
noncomputable def decChain (b : List UInt8) : Option (List OpD × List UInt8) :=
  (takeV b).bind fun n => if 200 < n then none else (decCols n 21 (b.drop (putB n).length)).bind fun p => (tkT n 2 (mixN p.1 n (List.replicate n zOp), p.2)).bind fun q => (tkX1 n 0 q).bind fun q => (tkX1 n 1 q).bind fun q => tkX1 n 2 q
theorem decChain_enc {b r : List UInt8} {l : List OpD} (h : decChain b = some (l, r)) : l.length ≤ 200 ∧ b = encB l ++ r ∧ ∀ x ∈ l, x.wf := by
  unfold decChain at h
  rw [Option.bind_eq_some_iff] at h
  obtain ⟨n, h0, h⟩ := h
  split at h
  · cases h
  rename_i hn
  rw [Option.bind_eq_some_iff] at h
  obtain ⟨⟨L, r1⟩, h1, h⟩ := h
  rw [Option.bind_eq_some_iff] at h
  obtain ⟨⟨l2, r2⟩, h2, h⟩ := h
  rw [Option.bind_eq_some_iff] at h
  obtain ⟨⟨l3, r3⟩, h3, h⟩ := h
  rw [Option.bind_eq_some_iff] at h
  obtain ⟨⟨l4, r4⟩, h4, h5⟩ := h
  have hn6 : n ≤ 65536 := by omega
  obtain ⟨a1, a2, a3⟩ := (decCols_spec hn6).1 h1
  obtain ⟨V0, V1, v0, v1, v2, v3⟩ := (tkT_spec hn6).1 h2
  obtain ⟨X0, x0, x1, x2, x3⟩ := (tkX1_spec hn6).1 h3
  obtain ⟨X1, y0, y1, y2, y3⟩ := (tkX1_spec hn6).1 h4
  obtain ⟨X2, z0, z1, z2, z3⟩ := (tkX1_spec hn6).1 h5
  dsimp only at v2 v3 x2 x3 y2 y3 z2 z3
  rw [v2] at x2
  rw [x2] at y2
  rw [y2] at z2
  rw [full_list] at z2
  have hln : l.length = n := by rw [z2]; simp
  have hnum : ∀ c, c < 21 → numC l c = L.getD c [] := fun c hc => by
    rw [z2]
    refine numC_full _ _ _ _ _ hc ?_
    obtain ⟨y, hy⟩ : ∃ y, L[c]? = some y := ⟨_, List.getElem?_eq_getElem (by omega)⟩
    rw [List.getD_eq_getElem?_getD, hy]
    exact (a2 y (List.mem_of_getElem? hy)).1
  obtain ⟨t0, t1⟩ := truC_full L X0 X1 X2 v0 v1
  obtain ⟨s0, s1, s2⟩ := txt_full L V0 V1 x0 y0 z0
  rw [← z2] at t0 t1 s0 s1 s2
  refine ⟨by omega, ?_, fun x hx => ⟨?_, fun c hc => ?_⟩⟩
  · rw [encB_eq, hln, numsB_cols a1 hnum, t0, t1, lenC_X, lenC_X, lenC_X, catC_X, catC_X, catC_X, s0, s1, s2]
    rw [prefix_drop (takeV_some.1 h0).2, a3, v3, x3, y3, z3]
    simp only [List.append_assoc]
  · have k0 := x1 (x.key.size : Int) (by rw [← s0]; exact List.mem_map.2 ⟨_, List.mem_map.2 ⟨x, hx, rfl⟩, rfl⟩)
    have k1 := y1 (x.name.size : Int) (by rw [← s1]; exact List.mem_map.2 ⟨_, List.mem_map.2 ⟨x, hx, rfl⟩, rfl⟩)
    have k2 := z1 (x.value.size : Int) (by rw [← s2]; exact List.mem_map.2 ⟨_, List.mem_map.2 ⟨x, hx, rfl⟩, rfl⟩)
    unfold inI at k0 k1 k2
    omega
  · have h6 := hnum c hc
    have h7 : fld x c ∈ L.getD c [] := by rw [← h6]; exact List.mem_map.2 ⟨x, hx, rfl⟩
    obtain ⟨y, hy⟩ : ∃ y, L[c]? = some y := ⟨_, List.getElem?_eq_getElem (by omega)⟩
    rw [List.getD_eq_getElem?_getD, hy] at h7
    exact (a2 y (List.mem_of_getElem? hy)).2 _ h7
theorem op_ext {o p : OpD} (h : ∀ c, c < 21 → fld o c = fld p c) (h1 : tru o 0 = tru p 0) (h2 : tru o 1 = tru p 1) (h3 : txt o 0 = txt p 0) (h4 : txt o 1 = txt p 1) (h5 : txt o 2 = txt p 2) : o = p := by
  have e0 := h 0 (by omega)
  have e1 := h 1 (by omega)
  have e2 := h 2 (by omega)
  have e3 := h 3 (by omega)
  have e4 := h 4 (by omega)
  have e5 := h 5 (by omega)
  have e6 := h 6 (by omega)
  have e7 := h 7 (by omega)
  have e8 := h 8 (by omega)
  have e9 := h 9 (by omega)
  have e10 := h 10 (by omega)
  have e11 := h 11 (by omega)
  have e12 := h 12 (by omega)
  have e13 := h 13 (by omega)
  have e14 := h 14 (by omega)
  have e15 := h 15 (by omega)
  have e16 := h 16 (by omega)
  have e17 := h 17 (by omega)
  have e18 := h 18 (by omega)
  have e19 := h 19 (by omega)
  have e20 := h 20 (by omega)
  obtain ⟨⟨a0, a1⟩, a2, a3, a4, a5, a6, a7, a8, a9, a10, ⟨a11, a12⟩, a13, a14, ⟨a15, a16⟩, s0, s1, s2, ⟨a17, a18⟩, t0, ⟨a19, a20⟩, t1⟩ := o
  obtain ⟨⟨b0, b1⟩, b2, b3, b4, b5, b6, b7, b8, b9, b10, ⟨b11, b12⟩, b13, b14, ⟨b15, b16⟩, u0, u1, u2, ⟨b17, b18⟩, v0, ⟨b19, b20⟩, v1⟩ := p
  simp only [fld, tru, txt] at *
  subst e0 e1 e2 e3 e4 e5 e6 e7 e8 e9 e10 e11 e12 e13 e14 e15 e16 e17 e18 e19 e20 h1 h2 h3 h4 h5
  rfl
theorem getD_map {α β : Type} (f : α → β) {l : List α} {j : Nat} {x : α} (d : β) (h : l[j]? = some x) : (l.map f).getD j d = f x := by
  rw [List.getD_eq_getElem?_getD, List.getElem?_map, h]
  rfl
theorem enc_decChain {b r : List UInt8} {l : List OpD} (hn : l.length ≤ 200) (hb : b = encB l ++ r) (hw : ∀ x ∈ l, x.wf) : decChain b = some (l, r) := by
  have hn6 : l.length ≤ 65536 := by omega
  have h0 : takeV b = some l.length := takeV_some.2 ⟨by omega, by rw [hb, encB_eq, List.append_assoc]; exact List.prefix_append _ _⟩
  have hd : b.drop (putB l.length).length = numsB l 21 ++ (boolsF false (truC l 0) ++ (boolsF false (truC l 1) ++ (runsB (lenC l 0) ++ (catC l 0 ++ (runsB (lenC l 1) ++ (catC l 1 ++ (runsB (lenC l 2) ++ (catC l 2 ++ r)))))))) := by
    rw [hb, encB_eq, List.append_assoc, List.drop_left]
    simp only [List.append_assoc]
  obtain ⟨L, hL⟩ : ∃ L, L = (List.range 21).map (numC l) := ⟨_, rfl⟩
  have hLl : L.length = 21 := by rw [hL]; simp
  have hLc : ∀ c, c < 21 → numC l c = L.getD c [] := fun c hc => by
    rw [hL, List.getD_eq_getElem?_getD, List.getElem?_map, List.getElem?_range hc]
    rfl
  have h1 : decCols l.length 21 (b.drop (putB l.length).length) = some (L, boolsF false (truC l 0) ++ (boolsF false (truC l 1) ++ (runsB (lenC l 0) ++ (catC l 0 ++ (runsB (lenC l 1) ++ (catC l 1 ++ (runsB (lenC l 2) ++ (catC l 2 ++ r)))))))) := by
    refine (decCols_spec hn6).2 ⟨hLl, fun y hy => ?_, by rw [hd, numsB_cols hLl hLc]⟩
    rw [hL] at hy
    obtain ⟨c, hc, rfl⟩ := List.mem_map.1 hy
    refine ⟨by unfold numC; rw [List.length_map], fun x hx => ?_⟩
    obtain ⟨o, ho, rfl⟩ := List.mem_map.1 hx
    exact (hw o ho).2 c (List.mem_range.1 hc)
  have h2 : tkT l.length 2 (mixN L l.length (List.replicate l.length zOp), boolsF false (truC l 0) ++ (boolsF false (truC l 1) ++ (runsB (lenC l 0) ++ (catC l 0 ++ (runsB (lenC l 1) ++ (catC l 1 ++ (runsB (lenC l 2) ++ (catC l 2 ++ r)))))))) = some (mixT 1 (truC l 1) l.length (mixT 0 (truC l 0) l.length (mixN L l.length (List.replicate l.length zOp))), runsB (lenC l 0) ++ (catC l 0 ++ (runsB (lenC l 1) ++ (catC l 1 ++ (runsB (lenC l 2) ++ (catC l 2 ++ r)))))) :=
    (tkT_spec hn6).2 ⟨truC l 0, truC l 1, by unfold truC; rw [List.length_map], by unfold truC; rw [List.length_map], rfl, rfl⟩
  have hsz : ∀ c, ∀ x ∈ sizX (l.map fun o => txt o c), inI x := fun c x hx => by
    rw [← lenC_X] at hx
    obtain ⟨o, ho, rfl⟩ := List.mem_map.1 hx
    have := (hw o ho).1
    unfold inI txt
    split <;> omega
  have hl3 : ∀ c, (l.map fun o => txt o c).length = l.length := fun c => List.length_map _
  have h3 := (tkX1_spec (n := l.length) (c := 0) (p := (mixT 1 (truC l 1) l.length (mixT 0 (truC l 0) l.length (mixN L l.length (List.replicate l.length zOp))), runsB (lenC l 0) ++ (catC l 0 ++ (runsB (lenC l 1) ++ (catC l 1 ++ (runsB (lenC l 2) ++ (catC l 2 ++ r))))))) (q := (mixX 0 (l.map fun o => txt o 0) l.length (mixT 1 (truC l 1) l.length (mixT 0 (truC l 0) l.length (mixN L l.length (List.replicate l.length zOp)))), runsB (lenC l 1) ++ (catC l 1 ++ (runsB (lenC l 2) ++ (catC l 2 ++ r))))) hn6).2 ⟨l.map fun o => txt o 0, hl3 0, hsz 0, rfl, by rw [← lenC_X, ← catC_X]⟩
  have h4 := (tkX1_spec (n := l.length) (c := 1) (p := (mixX 0 (l.map fun o => txt o 0) l.length (mixT 1 (truC l 1) l.length (mixT 0 (truC l 0) l.length (mixN L l.length (List.replicate l.length zOp)))), runsB (lenC l 1) ++ (catC l 1 ++ (runsB (lenC l 2) ++ (catC l 2 ++ r))))) (q := (mixX 1 (l.map fun o => txt o 1) l.length (mixX 0 (l.map fun o => txt o 0) l.length (mixT 1 (truC l 1) l.length (mixT 0 (truC l 0) l.length (mixN L l.length (List.replicate l.length zOp))))), runsB (lenC l 2) ++ (catC l 2 ++ r))) hn6).2 ⟨l.map fun o => txt o 1, hl3 1, hsz 1, rfl, by rw [← lenC_X, ← catC_X]⟩
  have h5 := (tkX1_spec (n := l.length) (c := 2) (p := (mixX 1 (l.map fun o => txt o 1) l.length (mixX 0 (l.map fun o => txt o 0) l.length (mixT 1 (truC l 1) l.length (mixT 0 (truC l 0) l.length (mixN L l.length (List.replicate l.length zOp))))), runsB (lenC l 2) ++ (catC l 2 ++ r))) (q := (mixX 2 (l.map fun o => txt o 2) l.length (mixX 1 (l.map fun o => txt o 1) l.length (mixX 0 (l.map fun o => txt o 0) l.length (mixT 1 (truC l 1) l.length (mixT 0 (truC l 0) l.length (mixN L l.length (List.replicate l.length zOp)))))), r)) hn6).2 ⟨l.map fun o => txt o 2, hl3 2, hsz 2, rfl, by rw [← lenC_X, ← catC_X]⟩
  unfold decChain
  rw [h0, Option.bind_some, if_neg (by omega), h1, Option.bind_some]
  dsimp only
  rw [h2, Option.bind_some]
  rw [h3, Option.bind_some]
  rw [h4, Option.bind_some]
  rw [h5, full_list]
  congr 2
  apply List.ext_getElem?
  intro j
  by_cases hj : j < l.length
  · rw [List.getElem?_map, List.getElem?_range hj, Option.map_some]
    obtain ⟨x, hx⟩ : ∃ x, l[j]? = some x := ⟨_, List.getElem?_eq_getElem hj⟩
    rw [hx]
    congr 1
    refine op_ext (fun c hc => ?_) ?_ ?_ ?_ ?_ ?_
    · rw [fld_full _ _ _ _ _ _ _ hc]
      unfold colF
      rw [← hLc c hc]
      exact getD_map _ _ hx
    · exact getD_map (fun o => tru o 0) false hx
    · exact getD_map (fun o => tru o 1) false hx
    · exact getD_map (fun o => txt o 0) noText hx
    · exact getD_map (fun o => txt o 1) noText hx
    · exact getD_map (fun o => txt o 2) noText hx
  · rw [List.getElem?_eq_none (by simp; omega), List.getElem?_eq_none (by omega)]
/-- No operations' bytes begin other ones'. -/
theorem encB_uniq {b r s : List UInt8} {l m : List OpD} (hl : l.length ≤ 200) (hm : m.length ≤ 200) (wl : ∀ x ∈ l, x.wf) (wm : ∀ x ∈ m, x.wf) (h1 : b = encB l ++ r) (h2 : b = encB m ++ s) : l = m ∧ r = s := by
  have := (enc_decChain hl h1 wl).symm.trans (enc_decChain hm h2 wm)
  cases this
  exact ⟨rfl, rfl⟩
open Classical in
/-- Decoding. -/
noncomputable def decB (b : List UInt8) : Option (List OpD) := (decChain b).bind fun q => if q.2 = [] ∧ ∀ x ∈ q.1, x.right = true then some q.1 else none
theorem decB_iff {b : List UInt8} {l : List OpD} : decB b = some l ↔ l.length ≤ 200 ∧ (∀ x ∈ l, x.right = true ∧ x.wf) ∧ encB l = b := by
  unfold decB
  rw [Option.bind_eq_some_iff]
  constructor
  · rintro ⟨⟨l0, r⟩, h1, h2⟩
    split at h2
    · rename_i hc
      cases h2
      obtain ⟨a1, a2, a3⟩ := decChain_enc h1
      refine ⟨a1, fun x hx => ⟨hc.2 x hx, a3 x hx⟩, ?_⟩
      have := hc.1
      dsimp only at this
      rw [a2, this, List.append_nil]
    · cases h2
  · rintro ⟨h1, h2, h3⟩
    exact ⟨(l, []), enc_decChain h1 (by rw [List.append_nil]; exact h3.symm) (fun x hx => (h2 x hx).2), by rw [if_pos ⟨rfl, fun x hx => (h2 x hx).1⟩]⟩
/-- All three columns of texts. -/
noncomputable def tkX (n : Nat) : Nat → List OpD × List UInt8 → Option (List OpD × List UInt8)
  | 0, p => some p
  | c + 1, p => (tkX n c p).bind (tkX1 n c)
theorem tkX_none {n c : Nat} {p : List OpD × List UInt8} (h : tkX n c p = none) : ∀ d, tkX n (c + d) p = none
  | 0 => h
  | d + 1 => by
    show (tkX n (c + d) p).bind _ = none
    rw [tkX_none h d]
    rfl
theorem tkX_step {n c : Nat} {p q : List OpD × List UInt8} (h : tkX n c p = some q) : tkX n (c + 1) p = tkX1 n c q := by
  show (tkX n c p).bind _ = _
  rw [h]
  rfl
theorem tkX_bad {n c : Nat} {p q : List OpD × List UInt8} (h : tkX n c p = some q) (k : tkX1 n c q = none) {d : Nat} (hd : c < d) : tkX n d p = none := by
  have := tkX_none ((tkX_step h).trans k) (d - (c + 1))
  rwa [show c + 1 + (d - (c + 1)) = d by omega] at this
theorem tkX1_len {n c : Nat} {p q : List OpD × List UInt8} (h : tkX1 n c p = some q) : q.1.length = p.1.length := by
  unfold tkX1 at h
  rw [Option.bind_eq_some_iff] at h
  obtain ⟨t, _, h2⟩ := h
  rw [Option.map_eq_some_iff] at h2
  obtain ⟨x, _, h4⟩ := h2
  rw [← h4]
  exact mixG_len _ _ _
theorem decChain_eq (b : List UInt8) : decChain b = (takeV b).bind fun n => if 200 < n then none else (decCols n 21 (b.drop (putB n).length)).bind fun p => (tkT n 2 (mixN p.1 n (List.replicate n zOp), p.2)).bind (tkX n 3) := by
  unfold decChain
  congr 1
  funext n
  split
  · rfl
  congr 1
  funext p
  congr 1
  funext q
  show _ = (((some q).bind (tkX1 n 0)).bind (tkX1 n 1)).bind (tkX1 n 2)
  rw [Option.bind_some, Option.bind_assoc]
theorem decB_none {b : List UInt8} (h : decChain b = none) : decB b = none := by
  unfold decB
  rw [h]
  rfl
theorem decB_none1 {b : List UInt8} (h : takeV b = none) : decB b = none := decB_none (by rw [decChain_eq, h]; rfl)
theorem decB_none2 {b : List UInt8} {n : Nat} (h : takeV b = some n) (hn : 200 < n) : decB b = none := decB_none (by rw [decChain_eq, h, Option.bind_some, if_pos hn])
theorem decB_none3 {b : List UInt8} {n : Nat} (h : takeV b = some n) (hn : ¬ 200 < n) (h2 : decCols n 21 (b.drop (putB n).length) = none) : decB b = none := decB_none (by rw [decChain_eq, h, Option.bind_some, if_neg hn, h2]; rfl)
theorem decB_none4 {b r : List UInt8} {n : Nat} {L : List (List Int)} (h : takeV b = some n) (hn : ¬ 200 < n) (h2 : decCols n 21 (b.drop (putB n).length) = some (L, r)) (h3 : tkT n 2 (mixN L n (List.replicate n zOp), r) = none) : decB b = none := decB_none (by rw [decChain_eq, h, Option.bind_some, if_neg hn, h2, Option.bind_some]; dsimp only; rw [h3]; rfl)
theorem decChain_all {b r : List UInt8} {n : Nat} {L : List (List Int)} {q : List OpD × List UInt8} (h : takeV b = some n) (hn : ¬ 200 < n) (h2 : decCols n 21 (b.drop (putB n).length) = some (L, r)) (h3 : tkT n 2 (mixN L n (List.replicate n zOp), r) = some q) : decChain b = tkX n 3 q := by
  rw [decChain_eq, h, Option.bind_some, if_neg hn, h2, Option.bind_some]
  dsimp only
  rw [h3, Option.bind_some]
theorem decB_of {b r : List UInt8} {l : List OpD} (h : decChain b = some (l, r)) (hr : ¬ (r = [] ∧ ∀ x ∈ l, x.right = true)) : decB b = none := by
  unfold decB
  rw [h, Option.bind_some, if_neg hr]
theorem decB_yes {b : List UInt8} {l : List OpD} (h : decChain b = some (l, [])) (hr : ∀ x ∈ l, x.right = true) : decB b = some l := by
  unfold decB
  rw [h, Option.bind_some, if_pos ⟨rfl, hr⟩]

end Go.Proofs.YtdlnokbeadkdfaaGreatDoor

namespace Go.Proofs.YtdlnokbeadkdfaaGreatDoor
open Go.RowKit Go.Deep
set_option linter.unusedSimpArgs false
set_option linter.unusedVariables false

/-- What a part of the taker answers. -/
def TakPost (w0 : World) (T : Nat) (tl : Value) (res : Option (List OpD × List UInt8)) (e : Ending) (w' : World) : Prop :=
  (∃ l2 r2 tb', res = some (l2, r2) ∧ e = .returned .nilIface ∧ TKS w0 T w' tb' r2 tl l2) ∨ (res = none ∧ (∃ s m, e = .returned (atErr s m)) ∧ Kp w0 T w')
theorem run_indexT (b off : Nat) : ∀ {c : Nat}, c < 2 → ∀ w : World, (Instr.index 57 (.agg #[.pointer (some ⟨b, off + 22, none⟩), .pointer (some ⟨b, off + 25, none⟩)]) (.int .i64 (c : Int))).run Tryz.prog w = .ok (.pointer (some ⟨b, off + offT c, none⟩)) w
  | 0, _, w => by kernel_rfl
  | 1, _, w => by kernel_rfl
  | n + 2, h, _ => absurd h (by omega)
/-- A store into an operation of the taker's keeps another slice. -/
theorem Own.notg {α β : Type} {ea : α → List Value} {q : Nat} {t : TypeId} {base base2 g : Nat} {W : World} {v v2 : Value} {m : List α} {eb : β → List Value} {q2 : Nat} {t2 : TypeId} {l : List β} (h : Own ea q t base W v m) (h2 : Own eb q2 t2 base2 W v2 l) (ht : t ≠ t2) (hg : v2.ownBlock = some g) (off : Nat) (u : Value) : Own ea q t base (W.setCell ⟨g, off, none⟩ u) v m :=
  h.ext ((Ext.refl (· = g) W).setCell (p := ⟨g, off, none⟩) (.inr rfl) _) (fun b hb e => by
    obtain ⟨c1, g1⟩ := h.tag hb
    obtain ⟨c2, g2⟩ := h2.tag hg
    rw [e, g2] at g1
    cases g1
    exact ht rfl)
theorem Own.notT {α : Type} {ea : α → List Value} {q : Nat} {t : TypeId} {base : Nat} {w0 : World} {T : Nat} {W : World} {tb tl : Value} {r : List UInt8} {ls : List OpD} {v : Value} {m : List α} (h : Own ea q t base W v m) (h2 : TKS w0 T W tb r tl ls) (ht : t ≠ 66) (off : Nat) (u : Value) : Own ea q t base (W.setCell ⟨T, off, none⟩ u) v m :=
  h.ext ((Ext.refl (· = T) W).setCell (p := ⟨T, off, none⟩) (.inr rfl) _) (fun b hb e => by
    obtain ⟨c1, g1⟩ := h.tag hb
    have g2 := h2.cell
    rw [e, g2] at g1
    cases g1
    exact ht rfl)
set_option maxRecDepth 20000 in
set_option maxHeartbeats 4000000 in
theorem taketruths_any (w0 : World) (T : Nat) (w : World) (tb tl : Value) (r : List UInt8) (ls : List OpD) (h : TKS w0 T w tb r tl ls) (hn : ls.length ≤ 200) : Calls Tryz.prog 64 #[.pointer (some ⟨T, 0, none⟩)] w fun e w' => TakPost w0 T tl (tkT ls.length 2 (ls, r)) e w' := by
  obtain ⟨⟨la, ln, lc⟩, el⟩ := h.own.sl
  dsimp only at el
  subst el
  obtain rfl : ln = ls.length := (h.own.nlen OpD.len).1
  have HT := Lib.hid h
  clear h
  go_enter Tryz.func64, Tryz.ntmps64
  go_wp2_with fail
  go_loopg [8] 2 (fun g kv wx => ∃ (k : Nat) (tb : Value) (ls2 : List OpD) (r2 : List UInt8), g = 2 - k ∧ kv = .int .i64 k ∧ k ≤ 2 ∧ Hid (tkT ls.length k (ls, r) = some (ls2, r2) ∧ TKS w0 T wx tb r2 (.slice la ls.length lc) ls2))
  case atStart => exact ⟨0, tb, ls, r, rfl, rfl, by omega, Lib.hid ⟨rfl, HT.out⟩⟩
  case round =>
    clear HT
    obtain ⟨k, tb1, ls2, r2, hg, rfl, hk, HR⟩ := hrel
    have HG := Lib.hid hg
    clear hg
    by_cases hlt : k < 2
    · have hk1 : (k : Int) < 2 := by omega
      obtain ⟨ta, tcap, rfl, htc, htm, -⟩ := id HR.out.2.byt
      unfold maxLen at htm
      have hc0 := HR.out.2.cell
      have HLN : Hid (ls2.length = ls.length) := Lib.hid (tkT_len HR.out.1)
      have hSW : (fun W : World => W.cell? ⟨T, 0, none⟩ = some (.slice ta r2.length tcap) ∧ W.cell? ⟨T, 1, none⟩ = some (.slice la ls.length lc)) wr.drew := ⟨by show World.cell? wr _ = _; simp [World.cell?, hc0], by show World.cell? wr _ = _; simp [World.cell?, hc0]⟩
      clear hc0
      go_upto_region 4 with fail
      refine wp_region_s (fun W : World => W.cell? ⟨T, 0, none⟩ = some (.slice ta r2.length tcap) ∧ W.cell? ⟨T, 1, none⟩ = some (.slice la ls.length lc)) (fun i => i == 16) (by kernel_rfl) ?_
      have HR1 : Hid (TKS w0 T wr.drew (.slice ta r2.length tcap) r2 (.slice la ls.length lc) ls2) := Lib.hid (HR.out.2.below (Below.refl _ _).drew)
      have HB1 : Hid (SliceIs u8c 1 wr.drew (.slice ta r2.length tcap) r2) := Lib.hid HR1.out.bytes
      generalize wr.drew = W1 at hSW HR1 HB1 ⊢
      refine wpAnyS_take (i := 0) (d := some 12) rfl rfl rfl (by kernel_rfl) (by kernel_rfl) (by kernel_rfl) (by kernel_rfl) (fun _ _ _ h => h) (.inl ⟨by rfl, fun W hW => by obtain ⟨q0, q1⟩ := hW; go_simp; try rfl⟩) hSW ?_
      try simp only [Act.put, List.setIfInBounds_toArray, List.set_cons_zero, List.set_cons_succ]
      refine wpAnyS_take (i := 1) (d := some 13) (v := .pointer (some ⟨T, 0, none⟩)) rfl rfl rfl (by kernel_rfl) (by kernel_rfl) (by kernel_rfl) (by kernel_rfl) (fun _ _ _ h => h) (.inl ⟨by rfl, fun W hW => by obtain ⟨q0, q1⟩ := hW; go_simp; try rfl⟩) hSW ?_
      try simp only [Act.put, List.setIfInBounds_toArray, List.set_cons_zero, List.set_cons_succ]
      refine wpAnyS_take (i := 2) (d := some 14) (v := .pointer (some ⟨T, 0, none⟩)) rfl rfl rfl (by kernel_rfl) (by kernel_rfl) (by kernel_rfl) (by kernel_rfl) (fun _ _ _ h => h) (.inl ⟨by rfl, fun W hW => by obtain ⟨q0, q1⟩ := hW; go_simp; try rfl⟩) hSW ?_
      try simp only [Act.put, List.setIfInBounds_toArray, List.set_cons_zero, List.set_cons_succ]
      refine wpAnyS_take (i := 3) (d := some 15) (v := .slice ta r2.length tcap) rfl rfl rfl (by kernel_rfl) (by kernel_rfl) (by kernel_rfl) (by kernel_rfl) (fun _ _ _ h => h) (.inl ⟨by rfl, fun W hW => by obtain ⟨q0, q1⟩ := hW; go_simp; try rfl⟩) hSW ?_
      try simp only [Act.put, List.setIfInBounds_toArray, List.set_cons_zero, List.set_cons_succ]
      refine wpAnyS_take (i := 4) (d := some 16) rfl rfl rfl (by kernel_rfl) (by kernel_rfl) (by kernel_rfl) (by kernel_rfl) (fun _ _ _ h => h) (.inl ⟨by rfl, fun W hW => by obtain ⟨q0, q1⟩ := hW; go_simp; try rfl⟩) hSW ?_
      try simp only [Act.put, List.setIfInBounds_toArray, List.set_cons_zero, List.set_cons_succ]
      refine wpAnyS_take (i := 5) (d := some 17) (v := .pointer (some ⟨T, 0, none⟩)) rfl rfl rfl (by kernel_rfl) (by kernel_rfl) (by kernel_rfl) (by kernel_rfl) (fun _ _ _ h => h) (.inl ⟨by rfl, fun W hW => by obtain ⟨q0, q1⟩ := hW; go_simp; try rfl⟩) hSW ?_
      try simp only [Act.put, List.setIfInBounds_toArray, List.set_cons_zero, List.set_cons_succ]
      refine wpAnyS_take (i := 6) (d := some 18) (v := .pointer (some ⟨T, 1, none⟩)) rfl rfl rfl (by kernel_rfl) (by kernel_rfl) (by kernel_rfl) (by kernel_rfl) (fun _ _ _ h => h) (.inl ⟨by rfl, fun W hW => by obtain ⟨q0, q1⟩ := hW; go_simp; try rfl⟩) hSW ?_
      try simp only [Act.put, List.setIfInBounds_toArray, List.set_cons_zero, List.set_cons_succ]
      refine wpAnyS_take (i := 7) (d := some 19) (v := .slice la ls.length lc) rfl rfl rfl (by kernel_rfl) (by kernel_rfl) (by kernel_rfl) (by kernel_rfl) (fun _ _ _ h => h) (.inl ⟨by rfl, fun W hW => by obtain ⟨q0, q1⟩ := hW; go_simp; try rfl⟩) hSW ?_
      try simp only [Act.put, List.setIfInBounds_toArray, List.set_cons_zero, List.set_cons_succ]
      refine wpAnyS_take (i := 8) (d := some 20) (v := .int .i64 ls.length) rfl rfl rfl (by kernel_rfl) (by kernel_rfl) (by kernel_rfl) (by kernel_rfl) (fun _ _ _ h => h) (.inl ⟨by rfl, fun W hW => by obtain ⟨q0, q1⟩ := hW; go_simp; try rfl⟩) hSW ?_
      try simp only [Act.put, List.setIfInBounds_toArray, List.set_cons_zero, List.set_cons_succ]
      refine wpAnyS_call (i := 9) (d := some 21) (f := 82) (args := #[.slice ta r2.length tcap, .int .i64 ls.length]) (w' := W1) (by kernel_rfl) rfl rfl (by rfl) (by go_simp; try rfl) ?_
      refine (takebools_any _ r2 ls.length _ HB1.out (by omega)).mono ?_
      rintro e w3 (⟨V, u, v, hdec, rfl, hown, hb⟩ | ⟨hdec, rfl, hb⟩)
      · have hS3 : (fun W : World => W.cell? ⟨T, 0, none⟩ = some (.slice ta r2.length tcap) ∧ W.cell? ⟨T, 1, none⟩ = some (.slice la ls.length lc)) w3 := ⟨(hb.cell (p := ⟨T, 0, none⟩) (cell_lt hSW.1)).trans hSW.1, (hb.cell (p := ⟨T, 1, none⟩) (cell_lt hSW.2)).trans hSW.2⟩
        have HR3 := Lib.hid (HR1.out.below hb)
        refine ⟨_, rfl, fun _ => hS3, ?_⟩
        try simp only [Act.put, List.setIfInBounds_toArray, List.set_cons_zero, List.set_cons_succ]
        refine wpAnyS_take (i := 10) (d := some 11) (v := .tuple #[v, .int .i64 (u : Nat), .int .i64 0]) rfl rfl rfl (by kernel_rfl) (by kernel_rfl) (by kernel_rfl) (by kernel_rfl) (fun _ _ _ h => h) (.inl ⟨by rfl, fun W hW => by obtain ⟨q0, q1⟩ := hW; go_simp; try rfl⟩) hS3 ?_
        try simp only [Act.put, List.setIfInBounds_toArray, List.set_cons_zero, List.set_cons_succ]
        refine wpAnyS_take (i := 11) (d := some 22) (v := v) rfl rfl rfl (by kernel_rfl) (by kernel_rfl) (by kernel_rfl) (by kernel_rfl) (fun _ _ _ h => h) (.inl ⟨by rfl, fun W hW => by obtain ⟨q0, q1⟩ := hW; go_simp; try rfl⟩) hS3 ?_
        try simp only [Act.put, List.setIfInBounds_toArray, List.set_cons_zero, List.set_cons_succ]
        refine wpAnyS_take (i := 12) (d := some 23) (v := .int .i64 (u : Nat)) rfl rfl rfl (by kernel_rfl) (by kernel_rfl) (by kernel_rfl) (by kernel_rfl) (fun _ _ _ h => h) (.inl ⟨by rfl, fun W hW => by obtain ⟨q0, q1⟩ := hW; go_simp; try rfl⟩) hS3 ?_
        try simp only [Act.put, List.setIfInBounds_toArray, List.set_cons_zero, List.set_cons_succ]
        refine wpAnyS_take (i := 13) (d := some 24) (v := .int .i64 0) rfl rfl rfl (by kernel_rfl) (by kernel_rfl) (by kernel_rfl) (by kernel_rfl) (fun _ _ _ h => h) (.inl ⟨by rfl, fun W hW => by obtain ⟨q0, q1⟩ := hW; go_simp; try rfl⟩) hS3 ?_
        try simp only [Act.put, List.setIfInBounds_toArray, List.set_cons_zero, List.set_cons_succ]
        refine wpAnyS_take (i := 14) (d := some 4) (v := v) rfl rfl rfl (by kernel_rfl) (by kernel_rfl) (by kernel_rfl) (by kernel_rfl) (fun _ _ _ h => h) (.inl ⟨by rfl, fun W hW => by obtain ⟨q0, q1⟩ := hW; go_simp; try rfl⟩) hS3 ?_
        try simp only [Act.put, List.setIfInBounds_toArray, List.set_cons_zero, List.set_cons_succ]
        refine wpAnyS_take (i := 15) (d := some 5) (v := .int .i64 (u : Nat)) rfl rfl rfl (by kernel_rfl) (by kernel_rfl) (by kernel_rfl) (by kernel_rfl) (fun _ _ _ h => h) (.inl ⟨by rfl, fun W hW => by obtain ⟨q0, q1⟩ := hW; go_simp; try rfl⟩) hS3 ?_
        try simp only [Act.put, List.setIfInBounds_toArray, List.set_cons_zero, List.set_cons_succ]
        refine wpAnyS_ran (i := 16) (d := some 6) (v := .int .i64 0) (w' := w3) (by kernel_rfl) rfl rfl (by rfl) (by go_simp; try rfl) (fun h => by cases h) ?_
        try simp only [Act.put, List.setIfInBounds_toArray, List.set_cons_zero, List.set_cons_succ]
        refine wpAnyS_done (by kernel_rfl) ?_ _
        clear hS3 hSW
        have HDEC := Lib.hid hdec
        clear hdec
        have hcf := decT_facts (by omega) HDEC.out
        have hul := hcf.2
        obtain ⟨⟨pa, pn, pc⟩, ep⟩ := hown.sl
        dsimp only at ep
        subst ep
        obtain rfl : pn = ls.length := by have h := (hown.nlen btc_len).1; rw [hcf.1] at h; exact h
        have HVL : Hid (V.length = ls.length) := Lib.hid hcf.1
        have HOWN : Hid (Own btc 1 4 w0.heap.size w3 (.slice pa ls.length pc) V) := Lib.hid (hown.mono HR1.out.bel.size)
        obtain ⟨a1, c1, hsl, hS1, -⟩ := slice_from (P := Tryz.prog) (ea := u8c) Tryz.underlying34 size_u8 ta r2.length tcap u htc hul
        have HBY := Lib.hid (hS1 w0 r2 rfl HR3.out.byt)
        have hc3 := HR3.out.cell
        have cT : w3.cell? ⟨T, 0, none⟩ = some (.slice ta r2.length tcap) := by simp [World.cell?, hc3]
        have cT1 : w3.cell? ⟨T, 1, none⟩ = some (.slice la ls.length lc) := by simp [World.cell?, hc3]
        have fT : w3.frozen? ⟨T, 0, none⟩ = false := by simp [World.frozen?, hc3]
        have HN0 : Hid (TKS w0 T (w3.setCell ⟨T, 0, none⟩ (.slice a1 (r2.length - u) c1)) (.slice a1 (r2.length - u) c1) (r2.drop u) (.slice la ls.length lc) (mixT k V 0 ls2) ∧ Own btc 1 4 w0.heap.size (w3.setCell ⟨T, 0, none⟩ (.slice a1 (r2.length - u) c1)) (.slice pa ls.length pc) V) := Lib.hid ⟨by unfold mixT; rw [mixG_zero]; exact HR3.out.setB HBY.out, HOWN.out.notT HR3.out (by decide) _ _⟩
        have HST := Lib.hid (tkT_step HR.out.1 HDEC.out)
        clear hown hcf hS1 hc3 HOWN HR HR1 HB1 HR3 HBY
        go_wp2_with fail
        clear cT cT1 fT hsl
        go_loopg [45] ls.length (fun g kv wx => ∃ i : Nat, g = ls.length - i ∧ kv = .int .i64 i ∧ i ≤ ls.length ∧ Hid (TKS w0 T wx (.slice a1 (r2.length - u) c1) (r2.drop u) (.slice la ls.length lc) (mixT k V i ls2) ∧ Own btc 1 4 w0.heap.size wx (.slice pa ls.length pc) V))
        case atStart => exact ⟨0, rfl, rfl, by omega, HN0⟩
        case round =>
          clear HN0
          obtain ⟨i, hg2, rfl, hi, HI⟩ := hrel
          have HG2 := Lib.hid hg2
          clear hg2
          by_cases hli : i < ls.length
          · have hi1 : (i : Int) < (ls.length : Int) := by omega
            have hi0 : (0 : Int) ≤ (i : Int) := by omega
            obtain ⟨x, hx⟩ : ∃ x, ls2[i]? = some x := ⟨_, List.getElem?_eq_getElem (by rw [HLN.out]; exact hli)⟩
            have HX := Lib.hid hx
            clear hx
            obtain ⟨y, hy⟩ : ∃ y, V[i]? = some y := ⟨_, List.getElem?_eq_getElem (by rw [HVL.out]; exact hli)⟩
            have HY := Lib.hid hy
            clear hy
            obtain ⟨g, cap, e, hg1, hg3⟩ := HI.out.1.own.eq_slice.resolve_left (fun e => by have h2 := e.2; have h3 := mixG_len (fun j o => o.setT k (V.getD j false)) i ls2; rw [show mixG (fun j o => o.setT k (V.getD j false)) i ls2 = [] from h2, HLN.out] at h3; simp at h3; omega)
            injection e with e1 e2 e3
            subst e1 e3
            clear e2
            obtain ⟨vb, vo, ev, cv⟩ := (HI.out.2.slice btc_len).at1 HY.out rfl
            cases ev
            have hc0 := HI.out.1.cell
            have hSW : (fun W : World => W.cell? ⟨T, 1, none⟩ = some (.slice (some ⟨g, 0, none⟩) ls.length lc) ∧ W.cell? ⟨vb, vo + i, none⟩ = some (.bool y)) wr.drew := ⟨by show World.cell? wr _ = _; simp [World.cell?, hc0], cv⟩
            have hix := fun W : World => run_indexT g (i * 26) hlt W
            clear hc0 cv
            go_upto_region 11 with fail
            refine wp_region_s (fun W : World => W.cell? ⟨T, 1, none⟩ = some (.slice (some ⟨g, 0, none⟩) ls.length lc) ∧ W.cell? ⟨vb, vo + i, none⟩ = some (.bool y)) (fun i => i == 14) (by kernel_rfl) ?_
            have HI1 : Hid (TKS w0 T wr.drew (.slice a1 (r2.length - u) c1) (r2.drop u) (.slice (some ⟨g, 0, none⟩) ls.length lc) (mixT k V i ls2) ∧ Own btc 1 4 w0.heap.size wr.drew (.slice (some ⟨vb, vo, none⟩) ls.length pc) V) := Lib.hid ⟨HI.out.1.below (Below.refl _ _).drew, HI.out.2.below1 (Below.refl _ _).drew⟩
            generalize wr.drew = W2 at hSW HI1 ⊢
            refine wpAnyS_take (i := 0) (d := some 48) rfl rfl rfl (by kernel_rfl) (by kernel_rfl) (by kernel_rfl) (by kernel_rfl) (fun _ _ _ h => h) (.inl ⟨by rfl, fun W hW => by obtain ⟨q0, q1⟩ := hW; go_simp; try rfl⟩) hSW ?_
            try simp only [Act.put, List.setIfInBounds_toArray, List.set_cons_zero, List.set_cons_succ]
            refine wpAnyS_take (i := 1) (d := some 49) (v := .pointer (some ⟨T, 0, none⟩)) rfl rfl rfl (by kernel_rfl) (by kernel_rfl) (by kernel_rfl) (by kernel_rfl) (fun _ _ _ h => h) (.inl ⟨by rfl, fun W hW => by obtain ⟨q0, q1⟩ := hW; go_simp; try rfl⟩) hSW ?_
            try simp only [Act.put, List.setIfInBounds_toArray, List.set_cons_zero, List.set_cons_succ]
            refine wpAnyS_take (i := 2) (d := some 50) (v := .pointer (some ⟨T, 1, none⟩)) rfl rfl rfl (by kernel_rfl) (by kernel_rfl) (by kernel_rfl) (by kernel_rfl) (fun _ _ _ h => h) (.inl ⟨by rfl, fun W hW => by obtain ⟨q0, q1⟩ := hW; go_simp; try rfl⟩) hSW ?_
            try simp only [Act.put, List.setIfInBounds_toArray, List.set_cons_zero, List.set_cons_succ]
            refine wpAnyS_take (i := 3) (d := some 51) (v := .slice (some ⟨g, 0, none⟩) ls.length lc) rfl rfl rfl (by kernel_rfl) (by kernel_rfl) (by kernel_rfl) (by kernel_rfl) (fun _ _ _ h => h) (.inl ⟨by rfl, fun W hW => by obtain ⟨q0, q1⟩ := hW; go_simp; try rfl⟩) hSW ?_
            try simp only [Act.put, List.setIfInBounds_toArray, List.set_cons_zero, List.set_cons_succ]
            refine wpAnyS_take (i := 4) (d := some 52) (v := .int .i64 i) rfl rfl rfl (by kernel_rfl) (by kernel_rfl) (by kernel_rfl) (by kernel_rfl) (fun _ _ _ h => h) (.inl ⟨by rfl, fun W hW => by obtain ⟨q0, q1⟩ := hW; go_simp; try rfl⟩) hSW ?_
            try simp only [Act.put, List.setIfInBounds_toArray, List.set_cons_zero, List.set_cons_succ]
            refine wpAnyS_take (i := 5) (d := some 53) (v := .pointer (some ⟨g, i * 26, none⟩)) rfl rfl rfl (by kernel_rfl) (by kernel_rfl) (by kernel_rfl) (by kernel_rfl) (fun _ _ _ h => h) (.inl ⟨by rfl, fun W hW => by obtain ⟨q0, q1⟩ := hW; go_simp; try rfl⟩) hSW ?_
            try simp only [Act.put, List.setIfInBounds_toArray, List.set_cons_zero, List.set_cons_succ]
            refine wpAnyS_take (i := 7) (d := some 55) (v := .int .i64 k) rfl rfl rfl (by kernel_rfl) (by kernel_rfl) (by kernel_rfl) (by kernel_rfl) (fun _ _ _ h => h) (.inl ⟨by rfl, fun W hW => by obtain ⟨q0, q1⟩ := hW; go_simp; try rfl⟩) hSW ?_
            try simp only [Act.put, List.setIfInBounds_toArray, List.set_cons_zero, List.set_cons_succ]
            refine wpAnyS_take (i := 9) (d := some 57) (v := .slice (some ⟨vb, vo, none⟩) ls.length pc) rfl rfl rfl (by kernel_rfl) (by kernel_rfl) (by kernel_rfl) (by kernel_rfl) (fun _ _ _ h => h) (.inl ⟨by rfl, fun W hW => by obtain ⟨q0, q1⟩ := hW; go_simp; try rfl⟩) hSW ?_
            try simp only [Act.put, List.setIfInBounds_toArray, List.set_cons_zero, List.set_cons_succ]
            refine wpAnyS_take (i := 10) (d := some 58) (v := .int .i64 i) rfl rfl rfl (by kernel_rfl) (by kernel_rfl) (by kernel_rfl) (by kernel_rfl) (fun _ _ _ h => h) (.inl ⟨by rfl, fun W hW => by obtain ⟨q0, q1⟩ := hW; go_simp; try rfl⟩) hSW ?_
            try simp only [Act.put, List.setIfInBounds_toArray, List.set_cons_zero, List.set_cons_succ]
            refine wpAnyS_take (i := 11) (d := some 59) (v := .pointer (some ⟨vb, vo + i, none⟩)) rfl rfl rfl (by kernel_rfl) (by kernel_rfl) (by kernel_rfl) (by kernel_rfl) (fun _ _ _ h => h) (.inl ⟨by rfl, fun W hW => by obtain ⟨q0, q1⟩ := hW; go_simp; try rfl⟩) hSW ?_
            try simp only [Act.put, List.setIfInBounds_toArray, List.set_cons_zero, List.set_cons_succ]
            refine wpAnyS_take (i := 12) (d := some 60) (v := .bool y) rfl rfl rfl (by kernel_rfl) (by kernel_rfl) (by kernel_rfl) (by kernel_rfl) (fun _ _ _ h => h) (.inl ⟨by rfl, fun W hW => by obtain ⟨q0, q1⟩ := hW; go_simp; try rfl⟩) hSW ?_
            try simp only [Act.put, List.setIfInBounds_toArray, List.set_cons_zero, List.set_cons_succ]
            refine wpAnyS_call (i := 6) (d := some 54) (f := 21) (args := #[.pointer (some ⟨g, i * 26, none⟩)]) (w' := W2) (by kernel_rfl) rfl rfl (by rfl) (by go_simp; try rfl) ?_
            refine (truths_any g (i * 26) W2).mono ?_
            rintro e w4 ⟨rfl, hb4⟩
            have hS4 : (fun W : World => W.cell? ⟨T, 1, none⟩ = some (.slice (some ⟨g, 0, none⟩) ls.length lc) ∧ W.cell? ⟨vb, vo + i, none⟩ = some (.bool y)) w4 := ⟨(hb4.cell (p := ⟨T, 1, none⟩) (cell_lt hSW.1)).trans hSW.1, (hb4.cell (p := ⟨vb, vo + i, none⟩) (cell_lt hSW.2)).trans hSW.2⟩
            have HI4 := Lib.hid (And.intro (HI1.out.1.below hb4) (HI1.out.2.below1 hb4))
            refine ⟨_, rfl, fun _ => hS4, ?_⟩
            try simp only [Act.put, List.setIfInBounds_toArray, List.set_cons_zero, List.set_cons_succ]
            refine wpAnyS_take (i := 8) (d := some 56) (v := .pointer (some ⟨g, i * 26 + offT k, none⟩)) rfl rfl rfl (by kernel_rfl) (by kernel_rfl) (by kernel_rfl) (by kernel_rfl) (fun _ _ _ h => h) (.inl ⟨by rfl, fun W hW => by obtain ⟨q0, q1⟩ := hW; go_simp; try rfl⟩) hS4 ?_
            try simp only [Act.put, List.setIfInBounds_toArray, List.set_cons_zero, List.set_cons_succ]
            refine wpAnyS_take (i := 13) (d := some 61) (v := .pointer (some ⟨g, i * 26 + offT k, none⟩)) rfl rfl rfl (by kernel_rfl) (by kernel_rfl) (by kernel_rfl) (by kernel_rfl) (fun _ _ _ h => h) (.inl ⟨by rfl, fun W hW => by obtain ⟨q0, q1⟩ := hW; go_simp; try rfl⟩) hS4 ?_
            try simp only [Act.put, List.setIfInBounds_toArray, List.set_cons_zero, List.set_cons_succ]
            have hln : ls.length = (mixT k V i ls2).length := by unfold mixT; rw [mixG_len]; exact HLN.out.symm
            have hk4 := HI4.out.1
            rw [hln] at hk4
            obtain ⟨u0, hu0⟩ : ∃ u0, x.cells[offT k]? = some u0 := ⟨_, List.getElem?_eq_getElem (by rw [OpD.len]; exact offT_lt k)⟩
            have c4 := hk4.own.cellAt OpD.len (mixG_at _ i HX.out) hu0
            have f4 := hk4.own.free (i * 26 + offT k)
            have hst := hk4.setOp (mixG_at _ i HX.out) (offT_lt k) (setT_cells x k y)
            have HN : Hid (TKS w0 T (w4.setCell ⟨g, i * 26 + offT k, none⟩ (.bool y)) (.slice a1 (r2.length - u) c1) (r2.drop u) (.slice (some ⟨g, 0, none⟩) ls.length lc) (mixT k V (i + 1) ls2) ∧ Own btc 1 4 w0.heap.size (w4.setCell ⟨g, i * 26 + offT k, none⟩ (.bool y)) (.slice (some ⟨vb, vo, none⟩) ls.length pc) V) := Lib.hid (by
              refine ⟨?_, HI4.out.2.notg HI4.out.1.own (by decide) rfl _ _⟩
              have e : mixT k V (i + 1) ls2 = (mixT k V i ls2).set i (x.setT k y) := by
                have hyg : V.getD i false = y := by rw [List.getD_eq_getElem?_getD, HY.out]; rfl
                unfold mixT
                rw [mixG_succ _ _ i HX.out (fun _ _ => rfl), hyg]
              rw [e, hln]
              exact hst)
            clear hk4 hst hu0 hln
            refine wpAnyS_mute (i := 14) (d := none) (w' := w4.setCell ⟨g, i * 26 + offT k, none⟩ (.bool y)) (by kernel_rfl) rfl rfl (by rfl) (by go_simp; try rfl) (fun h => by cases h) ?_
            try simp only [Act.put, List.setIfInBounds_toArray, List.set_cons_zero, List.set_cons_succ]
            refine wpAnyS_done (by kernel_rfl) ?_ _
            clear hS4 hSW HI4 HI1 HI c4 f4 hix
            go_wp2_with fail
            go_roundg (ls.length - (i + 1))
            case measure => rw [HG2.out]; omega
            case rel => exact ⟨i + 1, rfl, by simp, by omega, HN⟩
          · obtain rfl : i = ls.length := by omega
            have hi1 : ¬ (ls.length : Int) < (ls.length : Int) := by omega
            have HN : Hid (tkT ls.length (k + 1) (ls, r) = some (mixT k V ls.length ls2, r2.drop u) ∧ TKS w0 T wr (.slice a1 (r2.length - u) c1) (r2.drop u) (.slice la ls.length lc) (mixT k V ls.length ls2)) := Lib.hid ⟨HST.out, HI.out.1⟩
            clear HI HST
            go_wp2_with fail
            go_roundg (2 - (k + 1))
            case measure => rw [HG.out]; omega
            case rel => exact ⟨k + 1, _, _, _, rfl, by simp, by omega, HN⟩
      · have hS3 : (fun W : World => W.cell? ⟨T, 0, none⟩ = some (.slice ta r2.length tcap) ∧ W.cell? ⟨T, 1, none⟩ = some (.slice la ls.length lc)) w3 := ⟨(hb.cell (p := ⟨T, 0, none⟩) (cell_lt hSW.1)).trans hSW.1, (hb.cell (p := ⟨T, 1, none⟩) (cell_lt hSW.2)).trans hSW.2⟩
        have HR3 := Lib.hid (HR1.out.below hb)
        refine ⟨_, rfl, fun _ => hS3, ?_⟩
        try simp only [Act.put, List.setIfInBounds_toArray, List.set_cons_zero, List.set_cons_succ]
        refine wpAnyS_take (i := 10) (d := some 11) (v := .tuple #[.slice none 0 0, .int .i64 0, .int .i64 41]) rfl rfl rfl (by kernel_rfl) (by kernel_rfl) (by kernel_rfl) (by kernel_rfl) (fun _ _ _ h => h) (.inl ⟨by rfl, fun W hW => by obtain ⟨q0, q1⟩ := hW; go_simp; try rfl⟩) hS3 ?_
        try simp only [Act.put, List.setIfInBounds_toArray, List.set_cons_zero, List.set_cons_succ]
        refine wpAnyS_take (i := 11) (d := some 22) (v := .slice none 0 0) rfl rfl rfl (by kernel_rfl) (by kernel_rfl) (by kernel_rfl) (by kernel_rfl) (fun _ _ _ h => h) (.inl ⟨by rfl, fun W hW => by obtain ⟨q0, q1⟩ := hW; go_simp; try rfl⟩) hS3 ?_
        try simp only [Act.put, List.setIfInBounds_toArray, List.set_cons_zero, List.set_cons_succ]
        refine wpAnyS_take (i := 12) (d := some 23) (v := .int .i64 0) rfl rfl rfl (by kernel_rfl) (by kernel_rfl) (by kernel_rfl) (by kernel_rfl) (fun _ _ _ h => h) (.inl ⟨by rfl, fun W hW => by obtain ⟨q0, q1⟩ := hW; go_simp; try rfl⟩) hS3 ?_
        try simp only [Act.put, List.setIfInBounds_toArray, List.set_cons_zero, List.set_cons_succ]
        refine wpAnyS_take (i := 13) (d := some 24) (v := .int .i64 41) rfl rfl rfl (by kernel_rfl) (by kernel_rfl) (by kernel_rfl) (by kernel_rfl) (fun _ _ _ h => h) (.inl ⟨by rfl, fun W hW => by obtain ⟨q0, q1⟩ := hW; go_simp; try rfl⟩) hS3 ?_
        try simp only [Act.put, List.setIfInBounds_toArray, List.set_cons_zero, List.set_cons_succ]
        refine wpAnyS_take (i := 14) (d := some 4) (v := .slice none 0 0) rfl rfl rfl (by kernel_rfl) (by kernel_rfl) (by kernel_rfl) (by kernel_rfl) (fun _ _ _ h => h) (.inl ⟨by rfl, fun W hW => by obtain ⟨q0, q1⟩ := hW; go_simp; try rfl⟩) hS3 ?_
        try simp only [Act.put, List.setIfInBounds_toArray, List.set_cons_zero, List.set_cons_succ]
        refine wpAnyS_take (i := 15) (d := some 5) (v := .int .i64 0) rfl rfl rfl (by kernel_rfl) (by kernel_rfl) (by kernel_rfl) (by kernel_rfl) (fun _ _ _ h => h) (.inl ⟨by rfl, fun W hW => by obtain ⟨q0, q1⟩ := hW; go_simp; try rfl⟩) hS3 ?_
        try simp only [Act.put, List.setIfInBounds_toArray, List.set_cons_zero, List.set_cons_succ]
        refine wpAnyS_ran (i := 16) (d := some 6) (v := .int .i64 41) (w' := w3) (by kernel_rfl) rfl rfl (by rfl) (by go_simp; try rfl) (fun h => by cases h) ?_
        try simp only [Act.put, List.setIfInBounds_toArray, List.set_cons_zero, List.set_cons_succ]
        refine wpAnyS_done (by kernel_rfl) ?_ _
        clear hS3 hSW
        have HBAD : Hid (tkT ls.length 2 (ls, r) = none) := Lib.hid (tkT_bad HR.out.1 hdec hlt)
        clear hdec
        go_wp2_with fail
        go_ret
        exact Or.inr ⟨HBAD.out, ⟨_, _, rfl⟩, HR3.out.kp⟩
    · obtain rfl : k = 2 := by omega
      have hk1 : ¬ (2 : Int) < 2 := by omega
      clear hk hlt
      go_wp2_with fail
      go_ret
      exact Or.inl ⟨_, _, _, HR.out.1, rfl, HR.out.2⟩

end Go.Proofs.YtdlnokbeadkdfaaGreatDoor

namespace Go.Proofs.YtdlnokbeadkdfaaGreatDoor
open Go.RowKit Go.Deep
set_option linter.unusedSimpArgs false
set_option linter.unusedVariables false

/-- x[:p]. -/
theorem slice_to {P : Program} {α : Type} {ea : α → List Value} {q : Nat} {t e : TypeId} (ht : P.underlying t = some (.slice e)) (hsz : (P.info? e).map (·.size) = some q) (a : Option Addr) (n cap p : Nat) (hn : n ≤ cap) (hp : p ≤ n) :
    ∃ a', (∀ W, (Instr.slice t (.slice a n cap) none (some (.int .i64 (p : Int))) none).run P W = .ok (.slice a' p cap) W) ∧ (∀ W (l : List α), l.length = n → SliceIs ea q W (.slice a n cap) l → SliceIs ea q W (.slice a' p cap) (l.take p)) := by
  obtain ⟨i, hi, hq⟩ : ∃ i, P.info? e = some i ∧ i.size = q := by
    cases h : P.info? e with
    | none => rw [h] at hsz; cases hsz
    | some i => rw [h] at hsz; exact ⟨i, rfl, Option.some.inj hsz⟩
  have hpc : p ≤ cap := by omega
  refine ⟨if cap = 0 then a else a.map (·.add 0), fun W => ?_, fun W l hl h => ?_⟩
  · simp [Instr.slice, Instr.sliceBounds, Instr.sliceBound, asIntOf, run_underlying ht, sizeOf, typeInfo, hi, hq, hpc, hn, eq_comm]
  · by_cases hl0 : l = []
    · subst hl0
      simp at hl
      obtain ⟨a2, c2, e2, h1, h2, h3⟩ := h
      cases e2
      have hp0 : p = 0 := by omega
      subst hp0
      exact ⟨_, _, rfl, Nat.zero_le _, h2, fun hne => absurd rfl hne⟩
    · have h5 := SliceIs.take1 (k := p) h (by omega)
      have e : (if cap = 0 then a else a.map (·.add 0)) = a := by
        obtain ⟨a2, c2, e2, h1, h2, h3⟩ := h
        cases e2
        obtain ⟨b, off, rfl, _⟩ := h3 hl0
        split
        · rfl
        · simp [addr_add8]
      rw [e]
      exact h5
theorem run_indexX (b off : Nat) : ∀ {c : Nat}, c < 3 → ∀ w : World, (Instr.index 61 (.agg #[.pointer (some ⟨b, off + 17, none⟩), .pointer (some ⟨b, off + 18, none⟩), .pointer (some ⟨b, off + 19, none⟩)]) (.int .i64 (c : Int))).run Tryz.prog w = .ok (.pointer (some ⟨b, off + offX c, none⟩)) w
  | 0, _, w => by kernel_rfl
  | 1, _, w => by kernel_rfl
  | 2, _, w => by kernel_rfl
  | n + 3, h, _ => absurd h (by omega)
theorem mixX_succ (c i : Nat) {X : List ByteArray} {ls : List OpD} {x : OpD} {s : ByteArray} (hX : X.length = i) (hx : ls[i]? = some x) : mixX c (X ++ [s]) (i + 1) ls = (mixX c X i ls).set i (x.setX c s) := by
  have h1 : (X ++ [s]).getD i noText = s := by rw [List.getD_eq_getElem?_getD, List.getElem?_append_right (by omega), hX, Nat.sub_self]; rfl
  unfold mixX
  rw [mixG_succ (fun j o => o.setX c (X.getD j noText)) (fun j o => o.setX c ((X ++ [s]).getD j noText)) i hx (fun j hj => by
    funext o
    congr 1
    rw [List.getD_eq_getElem?_getD, List.getD_eq_getElem?_getD, List.getElem?_append_left (by omega)]), h1]
set_option maxRecDepth 20000 in
set_option maxHeartbeats 4000000 in
theorem taketexts_any (w0 : World) (T : Nat) (w : World) (tb tl : Value) (r : List UInt8) (ls : List OpD) (c : Nat) (hc : c < 3) (h : TKS w0 T w tb r tl ls) (hn : ls.length ≤ 200) : Calls Tryz.prog 65 #[.pointer (some ⟨T, 0, none⟩), .int .i64 c] w fun e w' => TakPost w0 T tl (tkX1 ls.length c (ls, r)) e w' := by
  obtain ⟨⟨la, ln, lc⟩, el⟩ := h.own.sl
  dsimp only at el
  subst el
  obtain rfl : ln = ls.length := (h.own.nlen OpD.len).1
  obtain ⟨ta, tcap, rfl, htc, htm, -⟩ := id h.byt
  unfold maxLen at htm
  have hc0 := h.cell
  have HT := Lib.hid h
  clear h
  have hSW : (fun W : World => W.cell? ⟨T, 0, none⟩ = some (.slice ta r.length tcap) ∧ W.cell? ⟨T, 1, none⟩ = some (.slice la ls.length lc)) w.drew := ⟨by show World.cell? w _ = _; simp [World.cell?, hc0], by show World.cell? w _ = _; simp [World.cell?, hc0]⟩
  clear hc0
  go_enter Tryz.func65, Tryz.ntmps65
  go_upto_region 1 with fail
  refine wp_region_s (fun W : World => W.cell? ⟨T, 0, none⟩ = some (.slice ta r.length tcap) ∧ W.cell? ⟨T, 1, none⟩ = some (.slice la ls.length lc)) (fun i => i == 16) (by kernel_rfl) ?_
  have HR1 : Hid (TKS w0 T w.drew (.slice ta r.length tcap) r (.slice la ls.length lc) ls) := Lib.hid (HT.out.below (Below.refl _ _).drew)
  have HB1 : Hid (SliceIs u8c 1 w.drew (.slice ta r.length tcap) r) := Lib.hid HR1.out.bytes
  generalize w.drew = W1 at hSW HR1 HB1 ⊢
  refine wpAnyS_take (i := 0) (d := some 11) rfl rfl rfl (by kernel_rfl) (by kernel_rfl) (by kernel_rfl) (by kernel_rfl) (fun _ _ _ h => h) (.inl ⟨by rfl, fun W hW => by obtain ⟨q0, q1⟩ := hW; go_simp; try rfl⟩) hSW ?_
  try simp only [Act.put, List.setIfInBounds_toArray, List.set_cons_zero, List.set_cons_succ]
  refine wpAnyS_take (i := 1) (d := some 12) (v := .pointer (some ⟨T, 0, none⟩)) rfl rfl rfl (by kernel_rfl) (by kernel_rfl) (by kernel_rfl) (by kernel_rfl) (fun _ _ _ h => h) (.inl ⟨by rfl, fun W hW => by obtain ⟨q0, q1⟩ := hW; go_simp; try rfl⟩) hSW ?_
  try simp only [Act.put, List.setIfInBounds_toArray, List.set_cons_zero, List.set_cons_succ]
  refine wpAnyS_take (i := 2) (d := some 13) (v := .pointer (some ⟨T, 0, none⟩)) rfl rfl rfl (by kernel_rfl) (by kernel_rfl) (by kernel_rfl) (by kernel_rfl) (fun _ _ _ h => h) (.inl ⟨by rfl, fun W hW => by obtain ⟨q0, q1⟩ := hW; go_simp; try rfl⟩) hSW ?_
  try simp only [Act.put, List.setIfInBounds_toArray, List.set_cons_zero, List.set_cons_succ]
  refine wpAnyS_take (i := 3) (d := some 14) (v := .slice ta r.length tcap) rfl rfl rfl (by kernel_rfl) (by kernel_rfl) (by kernel_rfl) (by kernel_rfl) (fun _ _ _ h => h) (.inl ⟨by rfl, fun W hW => by obtain ⟨q0, q1⟩ := hW; go_simp; try rfl⟩) hSW ?_
  try simp only [Act.put, List.setIfInBounds_toArray, List.set_cons_zero, List.set_cons_succ]
  refine wpAnyS_take (i := 4) (d := some 15) rfl rfl rfl (by kernel_rfl) (by kernel_rfl) (by kernel_rfl) (by kernel_rfl) (fun _ _ _ h => h) (.inl ⟨by rfl, fun W hW => by obtain ⟨q0, q1⟩ := hW; go_simp; try rfl⟩) hSW ?_
  try simp only [Act.put, List.setIfInBounds_toArray, List.set_cons_zero, List.set_cons_succ]
  refine wpAnyS_take (i := 5) (d := some 16) (v := .pointer (some ⟨T, 0, none⟩)) rfl rfl rfl (by kernel_rfl) (by kernel_rfl) (by kernel_rfl) (by kernel_rfl) (fun _ _ _ h => h) (.inl ⟨by rfl, fun W hW => by obtain ⟨q0, q1⟩ := hW; go_simp; try rfl⟩) hSW ?_
  try simp only [Act.put, List.setIfInBounds_toArray, List.set_cons_zero, List.set_cons_succ]
  refine wpAnyS_take (i := 6) (d := some 17) (v := .pointer (some ⟨T, 1, none⟩)) rfl rfl rfl (by kernel_rfl) (by kernel_rfl) (by kernel_rfl) (by kernel_rfl) (fun _ _ _ h => h) (.inl ⟨by rfl, fun W hW => by obtain ⟨q0, q1⟩ := hW; go_simp; try rfl⟩) hSW ?_
  try simp only [Act.put, List.setIfInBounds_toArray, List.set_cons_zero, List.set_cons_succ]
  refine wpAnyS_take (i := 7) (d := some 18) (v := .slice la ls.length lc) rfl rfl rfl (by kernel_rfl) (by kernel_rfl) (by kernel_rfl) (by kernel_rfl) (fun _ _ _ h => h) (.inl ⟨by rfl, fun W hW => by obtain ⟨q0, q1⟩ := hW; go_simp; try rfl⟩) hSW ?_
  try simp only [Act.put, List.setIfInBounds_toArray, List.set_cons_zero, List.set_cons_succ]
  refine wpAnyS_take (i := 8) (d := some 19) (v := .int .i64 ls.length) rfl rfl rfl (by kernel_rfl) (by kernel_rfl) (by kernel_rfl) (by kernel_rfl) (fun _ _ _ h => h) (.inl ⟨by rfl, fun W hW => by obtain ⟨q0, q1⟩ := hW; go_simp; try rfl⟩) hSW ?_
  try simp only [Act.put, List.setIfInBounds_toArray, List.set_cons_zero, List.set_cons_succ]
  refine wpAnyS_call (i := 9) (d := some 20) (f := 79) (args := #[.slice ta r.length tcap, .int .i64 ls.length]) (w' := W1) (by kernel_rfl) rfl rfl (by rfl) (by go_simp; try rfl) ?_
  refine (takeruns_any _ r ls.length _ HB1.out (by omega)).mono ?_
  rintro e w3 (⟨V, u, v, hdec, rfl, hown, hb⟩ | ⟨hdec, rfl, hb⟩)
  · have hS3 : (fun W : World => W.cell? ⟨T, 0, none⟩ = some (.slice ta r.length tcap) ∧ W.cell? ⟨T, 1, none⟩ = some (.slice la ls.length lc)) w3 := ⟨(hb.cell (p := ⟨T, 0, none⟩) (cell_lt hSW.1)).trans hSW.1, (hb.cell (p := ⟨T, 1, none⟩) (cell_lt hSW.2)).trans hSW.2⟩
    have HR3 := Lib.hid (HR1.out.below hb)
    refine ⟨_, rfl, fun _ => hS3, ?_⟩
    try simp only [Act.put, List.setIfInBounds_toArray, List.set_cons_zero, List.set_cons_succ]
    refine wpAnyS_take (i := 10) (d := some 10) (v := .tuple #[v, .int .i64 (u : Nat), .int .i64 0]) rfl rfl rfl (by kernel_rfl) (by kernel_rfl) (by kernel_rfl) (by kernel_rfl) (fun _ _ _ h => h) (.inl ⟨by rfl, fun W hW => by obtain ⟨q0, q1⟩ := hW; go_simp; try rfl⟩) hS3 ?_
    try simp only [Act.put, List.setIfInBounds_toArray, List.set_cons_zero, List.set_cons_succ]
    refine wpAnyS_take (i := 11) (d := some 21) (v := v) rfl rfl rfl (by kernel_rfl) (by kernel_rfl) (by kernel_rfl) (by kernel_rfl) (fun _ _ _ h => h) (.inl ⟨by rfl, fun W hW => by obtain ⟨q0, q1⟩ := hW; go_simp; try rfl⟩) hS3 ?_
    try simp only [Act.put, List.setIfInBounds_toArray, List.set_cons_zero, List.set_cons_succ]
    refine wpAnyS_take (i := 12) (d := some 22) (v := .int .i64 (u : Nat)) rfl rfl rfl (by kernel_rfl) (by kernel_rfl) (by kernel_rfl) (by kernel_rfl) (fun _ _ _ h => h) (.inl ⟨by rfl, fun W hW => by obtain ⟨q0, q1⟩ := hW; go_simp; try rfl⟩) hS3 ?_
    try simp only [Act.put, List.setIfInBounds_toArray, List.set_cons_zero, List.set_cons_succ]
    refine wpAnyS_take (i := 13) (d := some 23) (v := .int .i64 0) rfl rfl rfl (by kernel_rfl) (by kernel_rfl) (by kernel_rfl) (by kernel_rfl) (fun _ _ _ h => h) (.inl ⟨by rfl, fun W hW => by obtain ⟨q0, q1⟩ := hW; go_simp; try rfl⟩) hS3 ?_
    try simp only [Act.put, List.setIfInBounds_toArray, List.set_cons_zero, List.set_cons_succ]
    refine wpAnyS_take (i := 14) (d := some 5) (v := v) rfl rfl rfl (by kernel_rfl) (by kernel_rfl) (by kernel_rfl) (by kernel_rfl) (fun _ _ _ h => h) (.inl ⟨by rfl, fun W hW => by obtain ⟨q0, q1⟩ := hW; go_simp; try rfl⟩) hS3 ?_
    try simp only [Act.put, List.setIfInBounds_toArray, List.set_cons_zero, List.set_cons_succ]
    refine wpAnyS_take (i := 15) (d := some 6) (v := .int .i64 (u : Nat)) rfl rfl rfl (by kernel_rfl) (by kernel_rfl) (by kernel_rfl) (by kernel_rfl) (fun _ _ _ h => h) (.inl ⟨by rfl, fun W hW => by obtain ⟨q0, q1⟩ := hW; go_simp; try rfl⟩) hS3 ?_
    try simp only [Act.put, List.setIfInBounds_toArray, List.set_cons_zero, List.set_cons_succ]
    refine wpAnyS_ran (i := 16) (d := some 7) (v := .int .i64 0) (w' := w3) (by kernel_rfl) rfl rfl (by rfl) (by go_simp; try rfl) (fun h => by cases h) ?_
    try simp only [Act.put, List.setIfInBounds_toArray, List.set_cons_zero, List.set_cons_succ]
    refine wpAnyS_done (by kernel_rfl) ?_ _
    clear hS3 hSW
    have HDEC := Lib.hid hdec
    clear hdec
    have hcf := decR_facts (by omega) HDEC.out
    have hul := hcf.2
    obtain ⟨⟨pa, pn, pc⟩, ep⟩ := hown.sl
    dsimp only at ep
    subst ep
    obtain rfl : pn = ls.length := by have h := (hown.nlen intc_len).1; rw [hcf.1] at h; exact h
    have HVL : Hid (V.length = ls.length) := Lib.hid hcf.1
    have HOWN : Hid (Own intc 1 3 w0.heap.size w3 (.slice pa ls.length pc) V) := Lib.hid (hown.mono HR1.out.bel.size)
    obtain ⟨a1, c1, hsl, hS1, -⟩ := slice_from (P := Tryz.prog) (ea := u8c) Tryz.underlying34 size_u8 ta r.length tcap u htc hul
    have HBY := Lib.hid (hS1 w0 r rfl HR3.out.byt)
    have hc3 := HR3.out.cell
    have cT : w3.cell? ⟨T, 0, none⟩ = some (.slice ta r.length tcap) := by simp [World.cell?, hc3]
    have fT : w3.frozen? ⟨T, 0, none⟩ = false := by simp [World.frozen?, hc3]
    have HN0 : Hid (TKS w0 T (w3.setCell ⟨T, 0, none⟩ (.slice a1 (r.length - u) c1)) (.slice a1 (r.length - u) c1) (r.drop u) (.slice la ls.length lc) (mixX c [] 0 ls) ∧ Own intc 1 3 w0.heap.size (w3.setCell ⟨T, 0, none⟩ (.slice a1 (r.length - u) c1)) (.slice pa ls.length pc) V) := Lib.hid ⟨by unfold mixX; rw [mixG_zero]; exact HR3.out.setB HBY.out, HOWN.out.notT HR3.out (by decide) _ _⟩
    clear hown hcf hS1 hc3 HOWN HR1 HB1 HR3 HBY HT
    go_wp2_with fail
    clear cT fT hsl
    go_loopg [41] ls.length (fun g kv wx => ∃ (i : Nat) (X : List ByteArray) (r3 : List UInt8) (tb3 : Value), g = ls.length - i ∧ kv = .int .i64 i ∧ i ≤ ls.length ∧ Hid (cutX V i (r.drop u) = some (X, r3) ∧ TKS w0 T wx tb3 r3 (.slice la ls.length lc) (mixX c X i ls) ∧ Own intc 1 3 w0.heap.size wx (.slice pa ls.length pc) V))
    case atStart => exact ⟨0, [], _, _, rfl, rfl, by omega, Lib.hid ⟨rfl, HN0.out.1, HN0.out.2⟩⟩
    case round =>
      clear HN0 hul htc htm
      obtain ⟨i, X, r3, tb3, hg2, rfl, hi, HI⟩ := hrel
      have HG2 := Lib.hid hg2
      clear hg2
      by_cases hli : i < ls.length
      · have hi1 : (i : Int) < (ls.length : Int) := by omega
        have hi0 : (0 : Int) ≤ (i : Int) := by omega
        obtain ⟨x, hx⟩ : ∃ x, ls[i]? = some x := ⟨_, List.getElem?_eq_getElem hli⟩
        have HX := Lib.hid hx
        clear hx
        obtain ⟨y, hy⟩ : ∃ y, V[i]? = some y := ⟨_, List.getElem?_eq_getElem (by rw [HVL.out]; exact hli)⟩
        have HY := Lib.hid hy
        clear hy
        obtain ⟨vb, vo, ev, cv⟩ := (HI.out.2.2.slice intc_len).at1 HY.out rfl
        cases ev
        obtain ⟨t3, c3, rfl, ht3, hm3, -⟩ := id HI.out.2.1.byt
        unfold maxLen at hm3
        have hc0 := HI.out.2.1.cell
        have cT : wr.cell? ⟨T, 0, none⟩ = some (.slice t3 r3.length c3) := by simp [World.cell?, hc0]
        by_cases hbad : y < 0 ∨ (r3.length : Int) < y
        · have HBAD : Hid (tkX1 ls.length c (ls, r) = none) := Lib.hid (by unfold tkX1; dsimp only; rw [HDEC.out, Option.bind_some]; dsimp only; rw [cutX_bad HI.out.1 HY.out hbad hli]; rfl)
          have HBL := Lib.hid HI.out.2.1.kp
          clear hc0 HI
          by_cases hy0 : y < 0
          · clear hbad
            go_wp2_with fail
            go_ret
            exact Or.inr ⟨HBAD.out, ⟨_, _, rfl⟩, HBL.out⟩
          · have hy1 : (r3.length : Int) < y := hbad.resolve_left hy0
            clear hbad
            go_wp2_with fail
            go_ret
            exact Or.inr ⟨HBAD.out, ⟨_, _, rfl⟩, HBL.out⟩
        · obtain ⟨m, rfl⟩ : ∃ m : Nat, y = (m : Int) := Int.eq_ofNat_of_zero_le (by omega)
          have hy0 : ¬ (m : Int) < 0 := by omega
          have hy1 : ¬ (r3.length : Int) < (m : Int) := by omega
          have hmr : m ≤ r3.length := by omega
          clear hbad
          obtain ⟨g, cap, e, hg1, hg3⟩ := HI.out.2.1.own.eq_slice.resolve_left (fun e => by have h2 := e.2; have h3 := mixG_len (fun j o => o.setX c (X.getD j noText)) i ls; rw [show mixG (fun j o => o.setX c (X.getD j noText)) i ls = [] from h2] at h3; simp at h3; omega)
          injection e with e1 e2 e3
          subst e1 e3
          clear e2
          obtain ⟨a4, hs4, hS4⟩ := slice_to (P := Tryz.prog) (ea := u8c) Tryz.underlying34 size_u8 t3 r3.length c3 m ht3 hmr
          have hby4 := hS4 wr.drew r3 rfl ((HI.out.2.1.below (Below.refl _ _).drew).bytes)
          clear hS4
          obtain ⟨a5, c5, hs5, hS5, -⟩ := slice_from (P := Tryz.prog) (ea := u8c) Tryz.underlying34 size_u8 t3 r3.length c3 m ht3 hmr
          have HBY := Lib.hid (hS5 w0 r3 rfl HI.out.2.1.byt)
          clear hS5
          have hSW : (fun W : World => W.cell? ⟨T, 0, none⟩ = some (.slice t3 r3.length c3) ∧ W.cell? ⟨T, 1, none⟩ = some (.slice (some ⟨g, 0, none⟩) ls.length lc) ∧ SliceIs u8c 1 W (.slice a4 m c3) (r3.take m)) wr.drew := ⟨cT, by show World.cell? wr _ = _; simp [World.cell?, hc0], hby4⟩
          have hix := fun W : World => run_indexX g (i * 26) hc W
          clear hc0 hby4
          go_upto_region 10 with fail
          clear cT cv
          refine wp_region_s (fun W : World => W.cell? ⟨T, 0, none⟩ = some (.slice t3 r3.length c3) ∧ W.cell? ⟨T, 1, none⟩ = some (.slice (some ⟨g, 0, none⟩) ls.length lc) ∧ SliceIs u8c 1 W (.slice a4 m c3) (r3.take m)) (fun i => i == 17) (by kernel_rfl) ?_
          have HI1 : Hid (TKS w0 T wr.drew (.slice t3 r3.length c3) r3 (.slice (some ⟨g, 0, none⟩) ls.length lc) (mixX c X i ls) ∧ Own intc 1 3 w0.heap.size wr.drew (.slice (some ⟨vb, vo, none⟩) ls.length pc) V) := Lib.hid ⟨HI.out.2.1.below (Below.refl _ _).drew, HI.out.2.2.below1 (Below.refl _ _).drew⟩
          have HCUT := Lib.hid HI.out.1
          clear HI
          generalize wr.drew = W2 at hSW HI1 ⊢
          refine wpAnyS_take (i := 0) (d := some 60) rfl rfl rfl (by kernel_rfl) (by kernel_rfl) (by kernel_rfl) (by kernel_rfl) (fun _ _ _ h => h) (.inl ⟨by rfl, fun W hW => by obtain ⟨q0, q1, q2⟩ := hW; go_simp; try rfl⟩) hSW ?_
          try simp only [Act.put, List.setIfInBounds_toArray, List.set_cons_zero, List.set_cons_succ]
          refine wpAnyS_take (i := 1) (d := some 61) (v := .pointer (some ⟨T, 0, none⟩)) rfl rfl rfl (by kernel_rfl) (by kernel_rfl) (by kernel_rfl) (by kernel_rfl) (fun _ _ _ h => h) (.inl ⟨by rfl, fun W hW => by obtain ⟨q0, q1, q2⟩ := hW; go_simp; try rfl⟩) hSW ?_
          try simp only [Act.put, List.setIfInBounds_toArray, List.set_cons_zero, List.set_cons_succ]
          refine wpAnyS_take (i := 2) (d := some 62) (v := .pointer (some ⟨T, 1, none⟩)) rfl rfl rfl (by kernel_rfl) (by kernel_rfl) (by kernel_rfl) (by kernel_rfl) (fun _ _ _ h => h) (.inl ⟨by rfl, fun W hW => by obtain ⟨q0, q1, q2⟩ := hW; go_simp; try rfl⟩) hSW ?_
          try simp only [Act.put, List.setIfInBounds_toArray, List.set_cons_zero, List.set_cons_succ]
          refine wpAnyS_take (i := 3) (d := some 63) (v := .slice (some ⟨g, 0, none⟩) ls.length lc) rfl rfl rfl (by kernel_rfl) (by kernel_rfl) (by kernel_rfl) (by kernel_rfl) (fun _ _ _ h => h) (.inl ⟨by rfl, fun W hW => by obtain ⟨q0, q1, q2⟩ := hW; go_simp; try rfl⟩) hSW ?_
          try simp only [Act.put, List.setIfInBounds_toArray, List.set_cons_zero, List.set_cons_succ]
          refine wpAnyS_take (i := 4) (d := some 64) (v := .int .i64 i) rfl rfl rfl (by kernel_rfl) (by kernel_rfl) (by kernel_rfl) (by kernel_rfl) (fun _ _ _ h => h) (.inl ⟨by rfl, fun W hW => by obtain ⟨q0, q1, q2⟩ := hW; go_simp; try rfl⟩) hSW ?_
          try simp only [Act.put, List.setIfInBounds_toArray, List.set_cons_zero, List.set_cons_succ]
          refine wpAnyS_take (i := 5) (d := some 65) (v := .pointer (some ⟨g, i * 26, none⟩)) rfl rfl rfl (by kernel_rfl) (by kernel_rfl) (by kernel_rfl) (by kernel_rfl) (fun _ _ _ h => h) (.inl ⟨by rfl, fun W hW => by obtain ⟨q0, q1, q2⟩ := hW; go_simp; try rfl⟩) hSW ?_
          try simp only [Act.put, List.setIfInBounds_toArray, List.set_cons_zero, List.set_cons_succ]
          refine wpAnyS_take (i := 7) (d := some 67) (v := .int .i64 c) rfl rfl rfl (by kernel_rfl) (by kernel_rfl) (by kernel_rfl) (by kernel_rfl) (fun _ _ _ h => h) (.inl ⟨by rfl, fun W hW => by obtain ⟨q0, q1, q2⟩ := hW; go_simp; try rfl⟩) hSW ?_
          try simp only [Act.put, List.setIfInBounds_toArray, List.set_cons_zero, List.set_cons_succ]
          refine wpAnyS_take (i := 9) (d := some 69) rfl rfl rfl (by kernel_rfl) (by kernel_rfl) (by kernel_rfl) (by kernel_rfl) (fun _ _ _ h => h) (.inl ⟨by rfl, fun W hW => by obtain ⟨q0, q1, q2⟩ := hW; go_simp; try rfl⟩) hSW ?_
          try simp only [Act.put, List.setIfInBounds_toArray, List.set_cons_zero, List.set_cons_succ]
          refine wpAnyS_take (i := 10) (d := some 70) (v := .pointer (some ⟨T, 0, none⟩)) rfl rfl rfl (by kernel_rfl) (by kernel_rfl) (by kernel_rfl) (by kernel_rfl) (fun _ _ _ h => h) (.inl ⟨by rfl, fun W hW => by obtain ⟨q0, q1, q2⟩ := hW; go_simp; try rfl⟩) hSW ?_
          try simp only [Act.put, List.setIfInBounds_toArray, List.set_cons_zero, List.set_cons_succ]
          refine wpAnyS_take (i := 11) (d := some 71) (v := .pointer (some ⟨T, 0, none⟩)) rfl rfl rfl (by kernel_rfl) (by kernel_rfl) (by kernel_rfl) (by kernel_rfl) (fun _ _ _ h => h) (.inl ⟨by rfl, fun W hW => by obtain ⟨q0, q1, q2⟩ := hW; go_simp; try rfl⟩) hSW ?_
          try simp only [Act.put, List.setIfInBounds_toArray, List.set_cons_zero, List.set_cons_succ]
          refine wpAnyS_take (i := 12) (d := some 72) (v := .slice t3 r3.length c3) rfl rfl rfl (by kernel_rfl) (by kernel_rfl) (by kernel_rfl) (by kernel_rfl) (fun _ _ _ h => h) (.inl ⟨by rfl, fun W hW => by obtain ⟨q0, q1, q2⟩ := hW; go_simp; try rfl⟩) hSW ?_
          try simp only [Act.put, List.setIfInBounds_toArray, List.set_cons_zero, List.set_cons_succ]
          refine wpAnyS_take (i := 13) (d := some 73) (v := .int .i64 m) rfl rfl rfl (by kernel_rfl) (by kernel_rfl) (by kernel_rfl) (by kernel_rfl) (fun _ _ _ h => h) (.inl ⟨by rfl, fun W hW => by obtain ⟨q0, q1, q2⟩ := hW; go_simp; try rfl⟩) hSW ?_
          try simp only [Act.put, List.setIfInBounds_toArray, List.set_cons_zero, List.set_cons_succ]
          refine wpAnyS_take (i := 14) (d := some 74) (v := .slice a4 m c3) rfl rfl rfl (by kernel_rfl) (by kernel_rfl) (by kernel_rfl) (by kernel_rfl) (fun _ _ _ h => h) (.inl ⟨by rfl, fun W hW => by obtain ⟨q0, q1, q2⟩ := hW; go_simp; try rfl⟩) hSW ?_
          try simp only [Act.put, List.setIfInBounds_toArray, List.set_cons_zero, List.set_cons_succ]
          refine wpAnyS_take (i := 15) (d := some 75) (v := .string ⟨(r3.take m).toArray⟩) rfl rfl rfl (by kernel_rfl) (by kernel_rfl) (by kernel_rfl) (by kernel_rfl) (fun _ _ _ h => h) (.inl ⟨by rfl, fun W hW => by obtain ⟨q0, q1, q2⟩ := hW; have q3 := conv_bytes q2; go_simp; try rfl⟩) hSW ?_
          try simp only [Act.put, List.setIfInBounds_toArray, List.set_cons_zero, List.set_cons_succ]
          refine wpAnyS_call (i := 6) (d := some 66) (f := 23) (args := #[.pointer (some ⟨g, i * 26, none⟩)]) (w' := W2) (by kernel_rfl) rfl rfl (by rfl) (by go_simp; try rfl) ?_
          refine (texts_any g (i * 26) W2).mono ?_
          rintro e w4 ⟨rfl, hb4⟩
          have hS4 : (fun W : World => W.cell? ⟨T, 0, none⟩ = some (.slice t3 r3.length c3) ∧ W.cell? ⟨T, 1, none⟩ = some (.slice (some ⟨g, 0, none⟩) ls.length lc) ∧ SliceIs u8c 1 W (.slice a4 m c3) (r3.take m)) w4 := ⟨(hb4.cell (p := ⟨T, 0, none⟩) (cell_lt hSW.1)).trans hSW.1, (hb4.cell (p := ⟨T, 1, none⟩) (cell_lt hSW.2.1)).trans hSW.2.1, hSW.2.2.below hb4⟩
          have HI4 := Lib.hid (And.intro (HI1.out.1.below hb4) (HI1.out.2.below1 hb4))
          refine ⟨_, rfl, fun _ => hS4, ?_⟩
          try simp only [Act.put, List.setIfInBounds_toArray, List.set_cons_zero, List.set_cons_succ]
          refine wpAnyS_take (i := 8) (d := some 68) (v := .pointer (some ⟨g, i * 26 + offX c, none⟩)) rfl rfl rfl (by kernel_rfl) (by kernel_rfl) (by kernel_rfl) (by kernel_rfl) (fun _ _ _ h => h) (.inl ⟨by rfl, fun W hW => by obtain ⟨q0, q1, q2⟩ := hW; go_simp; try rfl⟩) hS4 ?_
          try simp only [Act.put, List.setIfInBounds_toArray, List.set_cons_zero, List.set_cons_succ]
          refine wpAnyS_take (i := 16) (d := some 76) (v := .pointer (some ⟨g, i * 26 + offX c, none⟩)) rfl rfl rfl (by kernel_rfl) (by kernel_rfl) (by kernel_rfl) (by kernel_rfl) (fun _ _ _ h => h) (.inl ⟨by rfl, fun W hW => by obtain ⟨q0, q1, q2⟩ := hW; go_simp; try rfl⟩) hS4 ?_
          try simp only [Act.put, List.setIfInBounds_toArray, List.set_cons_zero, List.set_cons_succ]
          have hln : ls.length = (mixX c X i ls).length := by unfold mixX; rw [mixG_len]
          have hk4 := HI4.out.1
          have hk5 := hk4
          rw [hln] at hk4
          obtain ⟨u0, hu0⟩ : ∃ u0, x.cells[offX c]? = some u0 := ⟨_, List.getElem?_eq_getElem (by rw [OpD.len]; exact offX_lt c)⟩
          have c4 := hk4.own.cellAt OpD.len (mixG_at _ i HX.out) hu0
          have f4 := hk4.own.free (i * 26 + offX c)
          have hst := hk4.setOp (mixG_at _ i HX.out) (offX_lt c) (setX_cells x c ⟨(r3.take m).toArray⟩)
          have HN1 : Hid (TKS w0 T (w4.setCell ⟨g, i * 26 + offX c, none⟩ (.string ⟨(r3.take m).toArray⟩)) (.slice t3 r3.length c3) r3 (.slice (some ⟨g, 0, none⟩) ls.length lc) (mixX c (X ++ [⟨(r3.take m).toArray⟩]) (i + 1) ls) ∧ Own intc 1 3 w0.heap.size (w4.setCell ⟨g, i * 26 + offX c, none⟩ (.string ⟨(r3.take m).toArray⟩)) (.slice (some ⟨vb, vo, none⟩) ls.length pc) V) := Lib.hid (by
            refine ⟨?_, HI4.out.2.notg HI4.out.1.own (by decide) rfl _ _⟩
            rw [mixX_succ c i (cutX_len HCUT.out).1 HX.out]
            have hq := hst
            rw [← hln] at hq
            exact hq)
          clear hk4 hk5 hst hu0 hln
          refine wpAnyS_mute (i := 17) (d := none) (w' := w4.setCell ⟨g, i * 26 + offX c, none⟩ (.string ⟨(r3.take m).toArray⟩)) (by kernel_rfl) rfl rfl (by rfl) (by go_simp; try rfl) (fun h => by cases h) ?_
          try simp only [Act.put, List.setIfInBounds_toArray, List.set_cons_zero, List.set_cons_succ]
          refine wpAnyS_done (by kernel_rfl) ?_ _
          clear hS4 hSW HI4 HI1 c4 f4 hix hs4
          generalize (w4.setCell ⟨g, i * 26 + offX c, none⟩ (.string ⟨(r3.take m).toArray⟩)) = w5 at HN1 ⊢
          have hc5 := HN1.out.1.cell
          have cT5 : w5.cell? ⟨T, 0, none⟩ = some (.slice t3 r3.length c3) := by simp [World.cell?, hc5]
          have fT5 : w5.frozen? ⟨T, 0, none⟩ = false := by simp [World.frozen?, hc5]
          clear hc5
          have HN : Hid (cutX V (i + 1) (r.drop u) = some (X ++ [⟨(r3.take m).toArray⟩], r3.drop m) ∧ TKS w0 T (w5.setCell ⟨T, 0, none⟩ (.slice a5 (r3.length - m) c5)) (.slice a5 (r3.length - m) c5) (r3.drop m) (.slice (some ⟨g, 0, none⟩) ls.length lc) (mixX c (X ++ [⟨(r3.take m).toArray⟩]) (i + 1) ls) ∧ Own intc 1 3 w0.heap.size (w5.setCell ⟨T, 0, none⟩ (.slice a5 (r3.length - m) c5)) (.slice (some ⟨vb, vo, none⟩) ls.length pc) V) := Lib.hid ⟨cutX_step HCUT.out HY.out hmr, HN1.out.1.setB HBY.out, HN1.out.2.notT HN1.out.1 (by decide) _ _⟩
          clear HN1 HBY HCUT
          go_wp2_with fail
          go_roundg (ls.length - (i + 1))
          case measure => rw [HG2.out]; omega
          case rel => exact ⟨i + 1, _, _, _, rfl, by simp, by omega, HN⟩
      · obtain rfl : i = ls.length := by omega
        have hi1 : ¬ (ls.length : Int) < (ls.length : Int) := by omega
        have HN : Hid (tkX1 ls.length c (ls, r) = some (mixX c X ls.length ls, r3) ∧ TKS w0 T wr tb3 r3 (.slice la ls.length lc) (mixX c X ls.length ls)) := Lib.hid ⟨by unfold tkX1; dsimp only; rw [HDEC.out, Option.bind_some]; dsimp only; rw [HI.out.1]; rfl, HI.out.2.1⟩
        clear HI
        go_wp2_with fail
        go_ret
        exact Or.inl ⟨_, _, _, HN.out.1, rfl, HN.out.2⟩
  · have hS3 : (fun W : World => W.cell? ⟨T, 0, none⟩ = some (.slice ta r.length tcap) ∧ W.cell? ⟨T, 1, none⟩ = some (.slice la ls.length lc)) w3 := ⟨(hb.cell (p := ⟨T, 0, none⟩) (cell_lt hSW.1)).trans hSW.1, (hb.cell (p := ⟨T, 1, none⟩) (cell_lt hSW.2)).trans hSW.2⟩
    have HR3 := Lib.hid (HR1.out.below hb)
    refine ⟨_, rfl, fun _ => hS3, ?_⟩
    try simp only [Act.put, List.setIfInBounds_toArray, List.set_cons_zero, List.set_cons_succ]
    refine wpAnyS_take (i := 10) (d := some 10) (v := .tuple #[.slice none 0 0, .int .i64 0, .int .i64 41]) rfl rfl rfl (by kernel_rfl) (by kernel_rfl) (by kernel_rfl) (by kernel_rfl) (fun _ _ _ h => h) (.inl ⟨by rfl, fun W hW => by obtain ⟨q0, q1⟩ := hW; go_simp; try rfl⟩) hS3 ?_
    try simp only [Act.put, List.setIfInBounds_toArray, List.set_cons_zero, List.set_cons_succ]
    refine wpAnyS_take (i := 11) (d := some 21) (v := .slice none 0 0) rfl rfl rfl (by kernel_rfl) (by kernel_rfl) (by kernel_rfl) (by kernel_rfl) (fun _ _ _ h => h) (.inl ⟨by rfl, fun W hW => by obtain ⟨q0, q1⟩ := hW; go_simp; try rfl⟩) hS3 ?_
    try simp only [Act.put, List.setIfInBounds_toArray, List.set_cons_zero, List.set_cons_succ]
    refine wpAnyS_take (i := 12) (d := some 22) (v := .int .i64 0) rfl rfl rfl (by kernel_rfl) (by kernel_rfl) (by kernel_rfl) (by kernel_rfl) (fun _ _ _ h => h) (.inl ⟨by rfl, fun W hW => by obtain ⟨q0, q1⟩ := hW; go_simp; try rfl⟩) hS3 ?_
    try simp only [Act.put, List.setIfInBounds_toArray, List.set_cons_zero, List.set_cons_succ]
    refine wpAnyS_take (i := 13) (d := some 23) (v := .int .i64 41) rfl rfl rfl (by kernel_rfl) (by kernel_rfl) (by kernel_rfl) (by kernel_rfl) (fun _ _ _ h => h) (.inl ⟨by rfl, fun W hW => by obtain ⟨q0, q1⟩ := hW; go_simp; try rfl⟩) hS3 ?_
    try simp only [Act.put, List.setIfInBounds_toArray, List.set_cons_zero, List.set_cons_succ]
    refine wpAnyS_take (i := 14) (d := some 5) (v := .slice none 0 0) rfl rfl rfl (by kernel_rfl) (by kernel_rfl) (by kernel_rfl) (by kernel_rfl) (fun _ _ _ h => h) (.inl ⟨by rfl, fun W hW => by obtain ⟨q0, q1⟩ := hW; go_simp; try rfl⟩) hS3 ?_
    try simp only [Act.put, List.setIfInBounds_toArray, List.set_cons_zero, List.set_cons_succ]
    refine wpAnyS_take (i := 15) (d := some 6) (v := .int .i64 0) rfl rfl rfl (by kernel_rfl) (by kernel_rfl) (by kernel_rfl) (by kernel_rfl) (fun _ _ _ h => h) (.inl ⟨by rfl, fun W hW => by obtain ⟨q0, q1⟩ := hW; go_simp; try rfl⟩) hS3 ?_
    try simp only [Act.put, List.setIfInBounds_toArray, List.set_cons_zero, List.set_cons_succ]
    refine wpAnyS_ran (i := 16) (d := some 7) (v := .int .i64 41) (w' := w3) (by kernel_rfl) rfl rfl (by rfl) (by go_simp; try rfl) (fun h => by cases h) ?_
    try simp only [Act.put, List.setIfInBounds_toArray, List.set_cons_zero, List.set_cons_succ]
    refine wpAnyS_done (by kernel_rfl) ?_ _
    clear hS3 hSW
    have HBAD : Hid (tkX1 ls.length c (ls, r) = none) := Lib.hid (by unfold tkX1; dsimp only; rw [hdec]; rfl)
    clear hdec
    go_wp2_with fail
    go_ret
    exact Or.inr ⟨HBAD.out, ⟨_, _, rfl⟩, HR3.out.kp⟩

end Go.Proofs.YtdlnokbeadkdfaaGreatDoor

namespace Go.Proofs.YtdlnokbeadkdfaaGreatDoor
open Go.RowKit Go.Deep
set_option linter.unusedSimpArgs false
set_option linter.unusedVariables false

theorem info_op : (Tryz.prog.info? 33).map (fun i => (i.zero, i.size, i.bytes)) = some (some (.agg zOp.cells.toArray), 26, 232) := by kernel_rfl
theorem made_ops (n : Nat) : (madeCells zOp.cells.toArray (n * 26)).toList = (List.replicate n zOp).flatMap OpD.cells := by
  apply List.ext_getElem?
  intro q
  by_cases hq : q < n * 26
  · have hdm : q / 26 * 26 + q % 26 = q := by omega
    have hi : (List.replicate n zOp)[q / 26]? = some zOp := List.getElem?_replicate_of_lt (by omega)
    obtain ⟨u, hu⟩ : ∃ u, zOp.cells[q % 26]? = some u := ⟨_, List.getElem?_eq_getElem (by rw [OpD.len]; omega)⟩
    have h5 := getElem?_flatMap_k OpD.len _ _ _ hi _ _ hu
    rw [hdm] at h5
    rw [h5]
    unfold madeCells
    rw [Array.getElem?_toList, Array.getElem?_map, Array.getElem?_range, if_pos hq, Option.map_some, List.size_toArray, OpD.len, getElem!_def, List.getElem?_toArray, hu]
  · rw [List.getElem?_eq_none (by simp [madeCells]; omega), List.getElem?_eq_none (by rw [length_flatMap_k OpD.len, List.length_replicate]; omega)]
theorem Own.made {base n : Nat} {W : World} (hb : base ≤ W.heap.size) (hn : n ≤ 200) : Own OpD.cells 26 33 base (W.alloc (.cells (madeCells zOp.cells.toArray (n * 26)) 33)) (.slice (some ⟨W.heap.size, 0, none⟩) n n) (List.replicate n zOp) := by
  have hs : (madeCells zOp.cells.toArray (n * 26)).size = n * 26 := by simp [madeCells]
  refine ⟨by rw [length_flatMap_k OpD.len], .inr ⟨W.heap.size, n, madeCells zOp.cells.toArray (n * 26), by rw [List.length_replicate], hb, heap_new8 W _, by rw [List.length_replicate]; exact Nat.le_refl _, by unfold maxLen; omega, hs, ?_⟩⟩
  rw [List.length_replicate, List.take_of_length_le (by rw [Array.length_toList, hs]; exact Nat.le_refl _)]
  exact made_ops n
/-- The taker behind the numbers of operations. -/
theorem TKS.made1 {w0 : World} {T n : Nat} {W : World} {tb tb' : Value} {b r : List UInt8} (h : TKS w0 T W tb b (.slice none 0 0) []) (hr : SliceIs u8c 1 w0 tb' r) (hn : n ≤ 200) :
    TKS w0 T (((W.setCell ⟨T, 0, none⟩ tb').setCell ⟨T, 1, none⟩ (.slice (some ⟨W.heap.size, 0, none⟩) n n)).alloc (.cells (madeCells zOp.cells.toArray (n * 26)) 33)).drew tb' r (.slice (some ⟨W.heap.size, 0, none⟩) n n) (List.replicate n zOp) := by
  have hTl := (Array.getElem?_eq_some_iff.1 h.cell).1
  have hx2 : Ext (· = T) W (W.setCell ⟨T, 0, none⟩ tb') := (Ext.refl (· = T) W).setCell (p := ⟨T, 0, none⟩) (.inr rfl) _
  have hc2 : (W.setCell ⟨T, 0, none⟩ tb').heap[T]? = some (.cells #[tb', .slice none 0 0] 66 (0, 0)) := by rw [heap_setCell_same _ T 0 _ _ _ h.cell]; rfl
  have hx3 : Ext (· = T) (W.setCell ⟨T, 0, none⟩ tb') ((W.setCell ⟨T, 0, none⟩ tb').setCell ⟨T, 1, none⟩ (.slice (some ⟨W.heap.size, 0, none⟩) n n)) := (Ext.refl (· = T) _).setCell (p := ⟨T, 1, none⟩) (.inr rfl) _
  have hc3 : ((W.setCell ⟨T, 0, none⟩ tb').setCell ⟨T, 1, none⟩ (.slice (some ⟨W.heap.size, 0, none⟩) n n)).heap[T]? = some (.cells #[tb', (.slice (some ⟨W.heap.size, 0, none⟩) n n)] 66 (0, 0)) := by rw [heap_setCell_same _ T 1 _ _ _ hc2]; rfl
  have hz : ((W.setCell ⟨T, 0, none⟩ tb').setCell ⟨T, 1, none⟩ (.slice (some ⟨W.heap.size, 0, none⟩) n n)).heap.size = W.heap.size := by rw [World.size_setCell, World.size_setCell]
  have hx : Ext (· = T) W ((W.setCell ⟨T, 0, none⟩ tb').setCell ⟨T, 1, none⟩ (.slice (some ⟨W.heap.size, 0, none⟩) n n)) := hx2.andThen hx3 (fun i hi e => e)
  generalize (W.setCell ⟨T, 0, none⟩ tb').setCell ⟨T, 1, none⟩ (.slice (some ⟨W.heap.size, 0, none⟩) n n) = W2 at hc3 hz hx ⊢
  have ho := Own.made (W := W2) (base := w0.heap.size) (n := n) (by rw [hz]; exact h.bel.size) hn
  rw [hz] at ho
  have hx4 : Ext (fun _ => False) W2 (W2.alloc (.cells (madeCells zOp.cells.toArray (n * 26)) 33)).drew := ((Ext.refl _ _).alloc _).drew
  have hall : Ext (· = T) W (W2.alloc (.cells (madeCells zOp.cells.toArray (n * 26)) 33)).drew := hx.andThen hx4 (fun i hi e => e.elim)
  exact ⟨(hx4.block T (by omega) id).trans hc3, hr, ho.below1 (Below.refl _ _).drew, Ext.new h.bel hall (fun k hk _ e => by have := h.new; omega) h.bel.size, h.new, h.fltKeep hall (fun e => by omega)⟩
/-- What all answers. -/
def AllPost (w0 : World) (T : Nat) (b : List UInt8) (e : Ending) (w' : World) : Prop :=
  (∃ l tb' tl, decB b = some l ∧ e = .returned .nilIface ∧ TKS w0 T w' tb' [] tl l) ∨ (decB b = none ∧ (∃ s m, e = .returned (atErr s m)) ∧ Kp w0 T w')
set_option maxRecDepth 20000 in
set_option maxHeartbeats 4000000 in
theorem takeall_any (w0 : World) (T : Nat) (w : World) (tb : Value) (b : List UInt8) (h : TKS w0 T w tb b (.slice none 0 0) []) : Calls Tryz.prog 26 #[.pointer (some ⟨T, 0, none⟩)] w fun e w' => AllPost w0 T b e w' := by
  obtain ⟨ta, tcap, rfl, htc, htm, -⟩ := id h.byt
  unfold maxLen at htm
  have hc0 := h.cell
  have HT := Lib.hid h
  clear h
  have cT : w.cell? ⟨T, 0, none⟩ = some (.slice ta b.length tcap) := by simp [World.cell?, hc0]
  cases hv : takeV b with
  | none =>
    have hR := takeR_none (takeV_none.1 hv)
    have HBAD := Lib.hid (decB_none1 hv)
    clear hc0 hv
    go_enter Tryz.func26, Tryz.ntmps26
    go_wp2_with fail
    refine (take_any _ b _ HT.out.bytes).mono ?_
    rintro e w' ⟨rfl, rfl⟩
    rw [hR]
    clear hR
    go_wp2_with fail
    go_ret
    exact Or.inr ⟨HBAD.out, ⟨_, _, rfl⟩, HT.out.kp⟩
  | some n =>
    have hR := takeR_some (takeV_some.1 hv)
    have HV := Lib.hid hv
    have hpb : (putB n).length ≤ b.length := (takeV_some.1 hv).2.length_le
    clear hv
    by_cases hbig : 200 < n
    · have hb1 : (200 : Int) < (n : Int) := by omega
      have HBAD := Lib.hid (decB_none2 HV.out hbig)
      clear hc0
      go_enter Tryz.func26, Tryz.ntmps26
      go_wp2_with fail
      refine (take_any _ b _ HT.out.bytes).mono ?_
      rintro e w' ⟨rfl, rfl⟩
      rw [hR]
      clear hR
      go_wp2_with fail
      go_ret
      exact Or.inr ⟨HBAD.out, ⟨_, _, rfl⟩, HT.out.kp⟩
    · have hb1 : ¬ (200 : Int) < (n : Int) := by omega
      obtain ⟨a1, c1, hsl, hS1, -⟩ := slice_from (P := Tryz.prog) (ea := u8c) Tryz.underlying34 size_u8 ta b.length tcap (putB n).length htc hpb
      have HBY := Lib.hid (hS1 w0 b rfl HT.out.byt)
      obtain ⟨i0, hi, hy0, hy1, hy2⟩ := info_parts info_op
      have hmk : ∀ W : World, (Instr.makeSlice 22 (.int .u64 (n : Int)) (.int .u64 (n : Int))).run Tryz.prog W = .ok (.slice (some ⟨W.heap.size, 0, none⟩) n n) (W.alloc (.cells (madeCells zOp.cells.toArray (n * 26)) 33)) := fun W => by
        have h := run_make (P := Tryz.prog) W 22 33 i0 _ Tryz.underlying22 hi hy0 .u64 .u64 (n : Int) (n : Int) (by omega) (by omega) (by rw [hy2]; omega) (by omega)
        rw [hy1, Int.toNat_natCast] at h
        exact h
      have cT1 : w.cell? ⟨T, 1, none⟩ = some (.slice none 0 0) := by simp [World.cell?, hc0]
      have fT : w.frozen? ⟨T, 0, none⟩ = false := by simp [World.frozen?, hc0]
      have fT1 : w.frozen? ⟨T, 1, none⟩ = false := by simp [World.frozen?, hc0]
      have hTl : T < w.heap.size := (Array.getElem?_eq_some_iff.1 hc0).1
      clear hS1 hc0 hi hy0 hy1 hy2
      go_enter Tryz.func26, Tryz.ntmps26
      go_wp2_with fail
      refine (take_any _ b _ HT.out.bytes).mono ?_
      rintro e w' ⟨rfl, rfl⟩
      rw [hR]
      clear hR
      go_upto_region 4 with fail
      go_region
      have HN : Hid (TKS w0 T (((w.setCell ⟨T, 0, none⟩ (.slice a1 (b.length - (putB n).length) c1)).setCell ⟨T, 1, none⟩ (.slice (some ⟨w.heap.size, 0, none⟩) n n)).alloc (.cells (madeCells zOp.cells.toArray (n * 26)) 33)).drew (.slice a1 (b.length - (putB n).length) c1) (b.drop (putB n).length) (.slice (some ⟨w.heap.size, 0, none⟩) n n) (List.replicate n zOp)) := Lib.hid (HT.out.made1 HBY.out (by omega))
      clear cT cT1 fT fT1 hTl HBY HT htc htm
      generalize (((w.setCell ⟨T, 0, none⟩ (.slice a1 (b.length - (putB n).length) c1)).setCell ⟨T, 1, none⟩ (.slice (some ⟨w.heap.size, 0, none⟩) n n)).alloc (.cells (madeCells zOp.cells.toArray (n * 26)) 33)).drew = W4 at HN ⊢
      generalize w.heap.size = g at HN ⊢
      go_wp2_with fail
      refine (numbers_any w0 T _ _ _ _ _ HN.out (by rw [List.length_replicate]; omega)).mono ?_
      rintro e w5 (⟨L, r2, tb2, hdec, rfl, hk5⟩ | ⟨hdec, ⟨s, m, rfl⟩, hb5⟩)
      rotate_left
      · rw [List.length_replicate] at hdec
        have HBAD := Lib.hid (decB_none3 HV.out hbig hdec)
        have HBL := Lib.hid hb5
        clear hdec hb5 HN
        unfold atErr
        go_wp2_with fail
        go_ret
        exact Or.inr ⟨HBAD.out, ⟨s, m, rfl⟩, HBL.out⟩
      rw [List.length_replicate] at hdec hk5
      have HC := Lib.hid hdec
      have HLN : Hid ((mixN L n (List.replicate n zOp)).length = n) := Lib.hid (by rw [mixN_len, List.length_replicate])
      have HN5 := Lib.hid hk5
      clear hdec hk5 HN
      go_wp2_with fail
      refine (taketruths_any w0 T _ _ _ _ _ HN5.out (by rw [HLN.out]; omega)).mono ?_
      rintro e w6 (⟨l3, r3, tb3, hdec, rfl, hk6⟩ | ⟨hdec, ⟨s, m, rfl⟩, hb6⟩)
      rotate_left
      · rw [HLN.out] at hdec
        have HBAD := Lib.hid (decB_none4 HV.out hbig HC.out hdec)
        have HBL := Lib.hid hb6
        clear hdec hb6 HN5
        unfold atErr
        go_wp2_with fail
        go_ret
        exact Or.inr ⟨HBAD.out, ⟨s, m, rfl⟩, HBL.out⟩
      rw [HLN.out] at hdec
      have HCH := Lib.hid (decChain_all HV.out hbig HC.out hdec)
      have HL3 : Hid (l3.length = n) := Lib.hid ((tkT_len hdec).trans HLN.out)
      have HN6 := Lib.hid hk6
      clear hdec hk6 HN5 HLN HC
      go_wp2_with fail
      go_loopg [54] 3 (fun q kv wx => ∃ (k : Nat) (l4 : List OpD) (r4 : List UInt8) (tb4 : Value), q = 3 - k ∧ kv = .int .i64 k ∧ k ≤ 3 ∧ Hid (tkX n k (l3, r3) = some (l4, r4) ∧ l4.length = n ∧ TKS w0 T wx tb4 r4 (.slice (some ⟨g, 0, none⟩) n n) l4))
      case atStart => exact ⟨0, _, _, _, rfl, rfl, by omega, Lib.hid ⟨rfl, HL3.out, HN6.out⟩⟩
      case round =>
        clear HN6 HL3
        obtain ⟨k, l4, r4, tb4, hg, rfl, hk, HR⟩ := hrel
        have HG := Lib.hid hg
        clear hg
        by_cases hlt : k < 3
        · have hk1 : (k : Int) < 3 := by omega
          have HLT := Lib.hid hlt
          clear hlt
          go_wp2_with fail
          refine (taketexts_any w0 T _ _ _ _ _ k HLT.out HR.out.2.2 (by rw [HR.out.2.1]; omega)).mono ?_
          rintro e w7 (⟨l5, r5, tb5, hdec, rfl, hk7⟩ | ⟨hdec, ⟨s, m, rfl⟩, hb7⟩)
          rotate_left
          · rw [HR.out.2.1] at hdec
            have HBAD := Lib.hid (decB_none (HCH.out.trans (tkX_bad HR.out.1 hdec HLT.out)))
            have HBL := Lib.hid hb7
            clear hdec hb7 HR
            unfold atErr
            go_wp2_with fail
            go_ret
            exact Or.inr ⟨HBAD.out, ⟨s, m, rfl⟩, HBL.out⟩
          rw [HR.out.2.1] at hdec
          have HNN : Hid (tkX n (k + 1) (l3, r3) = some (l5, r5) ∧ l5.length = n ∧ TKS w0 T w7 tb5 r5 (.slice (some ⟨g, 0, none⟩) n n) l5) := Lib.hid ⟨(tkX_step HR.out.1).trans hdec, (tkX1_len hdec).trans HR.out.2.1, hk7⟩
          clear hdec hk7 HR
          go_wp2_with fail
          go_roundg (3 - (k + 1))
          case measure => rw [HG.out]; have := HLT.out; omega
          case rel => exact ⟨k + 1, _, _, _, rfl, by simp, by have := HLT.out; omega, HNN⟩
        · obtain rfl : k = 3 := by omega
          have hk1 : ¬ (3 : Int) < 3 := by omega
          have HD : Hid (decChain b = some (l4, r4)) := Lib.hid (HCH.out.trans HR.out.1)
          have HKS := Lib.hid HR.out.2.2
          have HL4 := Lib.hid HR.out.2.1
          clear HR hlt hk HCH HG HV
          obtain ⟨t4, c4, rfl, ht4, hm4, -⟩ := id HKS.out.byt
          have hc4 := HKS.out.cell
          have cT4 : wr.cell? ⟨T, 0, none⟩ = some (.slice t4 r4.length c4) := by simp [World.cell?, hc4]
          have cT5 : wr.cell? ⟨T, 1, none⟩ = some (.slice (some ⟨g, 0, none⟩) n n) := by simp [World.cell?, hc4]
          clear hc4 ht4 hm4
          by_cases hr4 : r4 = []
          · subst hr4
            simp only [List.length_nil] at cT4
            go_wp2_with fail
            clear cT4 cT5
            go_loopg [78] n (fun q kv wx => ∃ j : Nat, q = n - j ∧ kv = .int .i64 j ∧ j ≤ n ∧ Hid ((∀ x ∈ l4.take j, x.right = true) ∧ TKS w0 T wx (.slice t4 ([] : List UInt8).length c4) [] (.slice (some ⟨g, 0, none⟩) n n) l4))
            case atStart => exact ⟨0, rfl, rfl, Nat.zero_le _, Lib.hid ⟨fun x hx => by simp at hx, HKS.out⟩⟩
            case round =>
              clear HKS
              obtain ⟨j, hg, rfl, hj, HR⟩ := hrel
              have HG := Lib.hid hg
              clear hg
              by_cases hlj : j < n
              · have hj1 : (j : Int) < (n : Int) := by omega
                obtain ⟨x, hx⟩ : ∃ x, l4[j]? = some x := ⟨_, List.getElem?_eq_getElem (by rw [HL4.out]; exact hlj)⟩
                have hsl : SliceIs OpD.cells 26 wr (.slice (some ⟨g, 0, none⟩) l4.length n) l4 := by
                  have h := HR.out.2.own.slice OpD.len
                  rw [HL4.out]
                  exact h
                have hld := sl_load hsl hx
                rw [Nat.zero_add] at hld
                have hst := store_fresh8 wr x
                have HLD := Lib.hid (And.intro hld hst)
                have HX := Lib.hid hx
                have HFT : Hid x.fits := Lib.hid ((decChain_enc HD.out).2.2 x (List.mem_of_getElem? hx)).1
                have hb2 : Below wr.heap.size wr (wr.alloc (.cells x.cells.toArray 33)) := (Below.refl _ _).alloc (Nat.le_refl _) _
                have hob := OB.new wr x
                have hw2 := OB.whole hob
                have HW2 := Lib.hid (And.intro hb2 hw2)
                clear hsl hld hst hx hob hw2 hb2
                go_wp2_with (first | ((with_reducible_and_instances refine wpList_ranG (o := ⟨some 81, _, _, _, _, _⟩) (v := .agg x.cells.toArray) ?_ ?_ ?_); rfl; exact exec_load rfl rfl HLD.out.1) | (refine wpList_store_run (T := 33) rfl rfl rfl rfl HLD.out.2 ?_) | ((with_reducible_and_instances refine wpList_ranG (o := ⟨some 82, _, _, _, _, _⟩) (v := .agg x.cells.toArray) ?_ ?_ ?_); rfl; exact exec_load rfl rfl HW2.out.2))
                refine (oright_any x _ HFT.out).mono ?_
                rintro e w3 ⟨rfl, b3⟩
                have HB3 : Hid (TKS w0 T w3 (.slice t4 ([] : List UInt8).length c4) [] (.slice (some ⟨g, 0, none⟩) n n) l4) := Lib.hid (HR.out.2.below (HW2.out.1.trans (b3.mono HW2.out.1.size)))
                clear b3 HW2 HLD
                cases hr : x.right with
                | false =>
                  have HBAD : Hid (decB b = none) := Lib.hid (decB_of HD.out (fun h => by have := h.2 x (List.mem_of_getElem? HX.out); rw [hr] at this; cases this))
                  have HBL := Lib.hid HB3.out.kp
                  clear hr HR HB3
                  go_wp2_with fail
                  go_ret
                  exact Or.inr ⟨HBAD.out, ⟨_, _, rfl⟩, HBL.out⟩
                | true =>
                  have HNN : Hid ((∀ y ∈ l4.take (j + 1), y.right = true) ∧ TKS w0 T w3 (.slice t4 ([] : List UInt8).length c4) [] (.slice (some ⟨g, 0, none⟩) n n) l4) := Lib.hid ⟨fun y hy => by
                    rw [List.take_add_one, HX.out, Option.toList_some] at hy
                    rcases List.mem_append.1 hy with hy | hy
                    · exact HR.out.1 y hy
                    · rw [List.mem_singleton.1 hy]; exact hr, HB3.out⟩
                  clear hr HR HB3
                  go_wp2_with fail
                  go_roundg (n - (j + 1))
                  case measure => rw [HG.out]; omega
                  case rel => exact ⟨j + 1, rfl, by simp, by omega, HNN⟩
              · obtain rfl : j = n := by omega
                have hj1 : ¬ (j : Int) < (j : Int) := by omega
                have HALL : Hid (decB b = some l4) := Lib.hid (decB_yes HD.out (by have h := HR.out.1; rwa [← HL4.out, List.take_length] at h))
                go_wp2_with fail
                go_ret
                exact Or.inl ⟨_, _, _, HALL.out, rfl, HR.out.2⟩
          · have hr5 : (0 : Int) < (r4.length : Int) := by have := List.length_pos_iff.2 hr4; omega
            have HBAD : Hid (decB b = none) := Lib.hid (decB_of HD.out (fun h => hr4 h.1))
            go_wp2_with fail
            go_ret
            exact Or.inr ⟨HBAD.out, ⟨_, _, rfl⟩, HKS.out.kp⟩

end Go.Proofs.YtdlnokbeadkdfaaGreatDoor
