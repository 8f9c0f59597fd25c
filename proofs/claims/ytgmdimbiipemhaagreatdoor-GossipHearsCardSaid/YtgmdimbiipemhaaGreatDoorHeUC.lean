/- column.Deltas: a contract. column.runs at bool: the iterator. column.Bools: a contract. batch.Encode: a contract. batch.taker.all: a contract. -/
import Derived.Test.YtgmdimbiipemhaaGreatDoorHeUA
import Derived.Test.YtgmdimbiipemhaaGreatDoorHeUB
import Derived.Deep.LoopGhost
import Derived.Deep.QuietTactic
import Derived.Deep.CutBlock
import Derived.Deep.DeepCutAuto
import Derived.Test.YtgmdimbiipemhaaGreatDoorTkP08
import Derived.Shelf.Abstract
import Derived.Shelf.RegionOpen
import Derived.WalkKit
import Derived.OwnWalkIn
import Derived.TacticsInMore
import Derived.LoopNIn
import Derived.LoopIn
import Derived.OneCell
import Derived.Test.YtgmdimbiipemhaaGreatDoorRowIn
import Derived.Sort.CutIn
import Derived.Test.YtgmdimbiipemhaaGreatDoorBits08
import Derived.Test.YtgmdimbiipemhaaGreatDoorVar08
import Derived.Laws.EntriesVeiled
import Derived.Outline
import Derived.Test.YtgmdimbiipemhaaGreatDoorEncP08
import Derived.Test.YtgmdimbiipemhaaGreatDoorCols08
import Derived.Test.YtgmdimbiipemhaaGreatDoorTT08
import Derived.Test.YtgmdimbiipemhaaGreatDoorORight08
import Derived.Lib.AppendStr
import Derived.Laws.MakeOwn
import Derived.RegionTactic
import Derived.BigRegion
namespace Go.Proofs.YtgmdimbiipemhaaGreatDoor
open Go.RowKit Go.Deep
set_option linter.unusedSimpArgs false
set_option linter.unusedVariables false
open Go.Shelf
end Go.Proofs.YtgmdimbiipemhaaGreatDoor
namespace Go.Proofs.YtgmdimbiipemhaaGreatDoor
open Go.RowKit Go.Deep
set_option linter.unusedSimpArgs false
set_option linter.unusedVariables false
attribute [local go_sem] Oper.semAt_some
end Go.Proofs.YtgmdimbiipemhaaGreatDoor
namespace Go.Proofs.YtgmdimbiipemhaaGreatDoor
open Go.RowKit
set_option linter.unusedSimpArgs false
set_option linter.unusedVariables false
attribute [local go_sem] Oper.semAt_some
end Go.Proofs.YtgmdimbiipemhaaGreatDoor
namespace Go.Proofs.YtgmdimbiipemhaaGreatDoor
open Go.RowKit Go.Deep
set_option linter.unusedSimpArgs false
set_option linter.unusedVariables false
theorem sl_load {W : World} {b off n cap : Nat} {l : List OpD} (h : SliceIs OpD.cells 26 W (.slice (some ⟨b, off, none⟩) n cap) l) {k : Nat} {x : OpD} (hx : l[k]? = some x) :
    (Instr.loadAt 68 (.pointer (some ⟨b, off + k * 26, none⟩))).run Tryz.prog W = .ok (.agg x.cells.toArray) W :=
  load_of_cells op_ty rfl (fun j u hj => by
    obtain ⟨_, _, e, _, _, h4⟩ := h
    cases e
    obtain ⟨b2, o2, e2, h5⟩ := h4 (by rintro rfl; simp at hx)
    cases e2
    exact h5 k x hx j u hj)
theorem SliceIs.some8 {α : Type} {ea : α → List Value} {q : Nat} {W : World} {a : Option Addr} {n cap : Nat} {l : List α} (h : SliceIs ea q W (.slice a n cap) l) (hl : l ≠ []) : ∃ b o, a = some ⟨b, o, none⟩ := by
  obtain ⟨_, _, e, _, _, h4⟩ := h
  cases e
  obtain ⟨b, o, e, _⟩ := h4 hl
  exact ⟨b, o, e⟩
theorem store_fresh8 (W : World) (x : OpD) : (Instr.storeAt 68 (.pointer (some ⟨W.heap.size, 0, none⟩)) (.agg x.cells.toArray)).run Tryz.prog (W.alloc (.cells #[.int .i64 0, .int .i64 0, .int .i64 0, .int .i64 0, .int .i64 0, .int .i64 0, .int .i64 0, .int .i64 0, .int .i64 0, .int .i64 0, .int .i64 0, .int .i64 0, .int .i64 0, .int .i64 0, .int .i64 0, .int .i64 0, .int .i64 0, .string { data := #[] }, .string { data := #[] }, .string { data := #[] }, .int .i64 0, .int .i64 0, .bool false, .int .i64 0, .int .i64 0, .bool false] 68)) = .ok () (W.alloc (.cells x.cells.toArray 68)) :=
  run_store_fresh op_ty rfl (OpD.len x) (OpD.one x)
theorem RowsIn.congr {R base : Nat} {Ls Ls' : Nat → List Int} {A A' : Nat → Prop} {W : World} (h : RowsIn R base Ls A W) (he : ∀ q, q < 21 → Ls q = Ls' q) (hA : ∀ k, A' k → A k) : RowsIn R base Ls' A' W := by
  obtain ⟨cs, h1, h2, h3, h4, h5⟩ := h.ex
  exact ⟨cs, h1, h2, fun q hq => by rw [← he q hq]; exact h3 q hq, h4, fun q hq k hk ha => h5 q hq k hk (hA k ha)⟩
theorem colB_len {l : List OpD} (hwf : ∀ x ∈ l, x.wf) (hl : l.length ≤ 200) {c : Nat} (hc : c < 21) : (colB l c).length ≤ 4000 ∧ ∀ x ∈ numC l c, -9223372036854775808 ≤ x ∧ x ≤ 9223372036854775807 := by
  have hin : ∀ x ∈ numC l c, -9223372036854775808 ≤ x ∧ x ≤ 9223372036854775807 := fun x hx => by
    obtain ⟨o, ho, rfl⟩ := List.mem_map.1 hx
    exact (hwf o ho).2 c hc
  refine ⟨?_, hin⟩
  have hlen : (numC l c).length = l.length := by simp [numC]
  unfold colB
  split
  · have := runsB_len _ (diffsB (numC l c)) rfl (by rw [diffsB_length, hlen]; omega) (fun x hx => zigN_lt (diffsB_in hin x hx).1 (diffsB_in hin x hx).2)
    rw [diffsB_length, hlen] at this
    omega
  · have := runsB_len _ (numC l c) rfl (by rw [hlen]; omega) (fun x hx => zigN_lt (hin x hx).1 (hin x hx).2)
    rw [hlen] at this
    omega
theorem numsB_len {l : List OpD} (hwf : ∀ x ∈ l, x.wf) (hl : l.length ≤ 200) : ∀ c, c ≤ 21 → (numsB l c).length ≤ 4000 * c
  | 0, _ => by simp [numsB]
  | c + 1, h => by
    rw [numsB_succ, List.length_append]
    have h1 := numsB_len hwf hl c (by omega)
    have h2 := (colB_len hwf hl (c := c) (by omega)).1
    omega
structure R3 (w : World) (l : List OpD) (cv : Value) (R : Nat) (cs : Nat → Value) (W : World) (out : Value) (bs : List UInt8) : Prop where
  own : Own u8c 1 5 w.heap.size W out bs
  bel : Below w.heap.size w W
  col : Own btc 1 4 w.heap.size W cv (colsL 21)
  row : ∃ cells, W.heap[R]? = some (.cells cells 100 (0, 0)) ∧ cells.size = 21 ∧ ∀ q, q < 21 → cells.getD q undef = cs q
  num : ∀ q, q < 21 → Own intc 1 3 w.heap.size W (cs q) (numC l q)
theorem R3.below {w W w1 : World} {l : List OpD} {cv : Value} {R : Nat} {cs : Nat → Value} {out : Value} {bs : List UInt8} (h : R3 w l cv R cs W out bs) (hb : Below W.heap.size W w1) : R3 w l cv R cs w1 out bs := by
  obtain ⟨cells, h1, h2, h3⟩ := h.row
  exact ⟨h.own.below1 hb, h.bel.trans (hb.mono h.bel.size), h.col.below1 hb, ⟨cells, (hb.block _ (Array.getElem?_eq_some_iff.1 h1).1).trans h1, h2, h3⟩, fun q hq => (h.num q hq).below1 hb⟩
theorem R3.app {w w1 : World} {l : List OpD} {cv vx : Value} {R : Nat} {cs : Nat → Value} {out : Value} {bs ys : List UInt8} (h : R3 w l cv R cs w1 out bs) (hx : SliceIs u8c 1 w1 vx ys) (hl : bs.length + ys.length ≤ 140737488355328) :
    ∃ (s : Sl) (w2 : World), (Builtin.append_ #[22, 22] 22 #[out, vx]).run Tryz.prog w1 = .ok (.slice s.a s.n s.cap) w2 ∧ R3 w l cv R cs w2 (.slice s.a s.n s.cap) (bs ++ ys) := by
  obtain ⟨i0, hi, hz0, hz1, hz2⟩ := info_parts info_u8
  obtain ⟨v', w', hr, ho2, hx2⟩ := append_structs (P := Tryz.prog) 22 22 i0 _ 1 Tryz.underlying22 hi hz0 hz1 hz2 rfl (by omega) u8c_len u8c_one h.own hx (by unfold maxLen; omega) (by omega) h.bel.size
  obtain ⟨s, rfl⟩ := ho2.sl
  have tag : ∀ {b : Nat} {cur : Array Value} {t : TypeId}, w1.heap[b]? = some (.cells cur t (0, 0)) → t ≠ 5 → ¬ out.ownBlock = some b := fun hb ht e => by
    obtain ⟨cur2, h2⟩ := h.own.tag e
    rw [hb] at h2
    cases h2
    exact ht rfl
  obtain ⟨cells, h1, h2, h3⟩ := h.row
  refine ⟨s, w', hr, ho2, Ext.new h.bel hx2 (fun i hi _ e => by have := (h.own.blk i e).1; omega) h.bel.size, h.col.ext hx2 (fun k hk e => ?_), ⟨cells, (hx2.block _ (Array.getElem?_eq_some_iff.1 h1).1 (tag h1 (by decide))).trans h1, h2, h3⟩, fun q hq => (h.num q hq).ext hx2 (fun k hk e => ?_)⟩
  · obtain ⟨cur, hc⟩ := h.col.tag hk
    exact tag hc (by decide) e
  · obtain ⟨cur, hc⟩ := (h.num q hq).tag hk
    exact tag hc (by decide) e
structure R4 (w : World) (W : World) (out : Value) (bs : List UInt8) : Prop where
  own : Own u8c 1 5 w.heap.size W out bs
  bel : Below w.heap.size w W
theorem R4.below {w W w1 : World} {out : Value} {bs : List UInt8} (h : R4 w W out bs) {k : Nat} (hb : Below k W w1) (hk : W.heap.size ≤ k) : R4 w w1 out bs :=
  ⟨h.own.below1 (hb.mono hk), h.bel.trans (hb.mono (Nat.le_trans h.bel.size hk))⟩
theorem R4.app {w w1 : World} {vx : Value} {out : Value} {bs ys : List UInt8} (h : R4 w w1 out bs) (hx : SliceIs u8c 1 w1 vx ys) (hl : bs.length + ys.length ≤ 140737488355328) :
    ∃ (s : Sl) (w2 : World), (Builtin.append_ #[22, 22] 22 #[out, vx]).run Tryz.prog w1 = .ok (.slice s.a s.n s.cap) w2 ∧ R4 w w2 (.slice s.a s.n s.cap) (bs ++ ys) ∧ Ext (fun b => out.ownBlock = some b) w1 w2 := by
  obtain ⟨i0, hi, hz0, hz1, hz2⟩ := info_parts info_u8
  obtain ⟨v', w', hr, ho2, hx2⟩ := append_structs (P := Tryz.prog) 22 22 i0 _ 1 Tryz.underlying22 hi hz0 hz1 hz2 rfl (by omega) u8c_len u8c_one h.own hx (by unfold maxLen; omega) (by omega) h.bel.size
  obtain ⟨s, rfl⟩ := ho2.sl
  exact ⟨s, w', hr, ⟨ho2, Ext.new h.bel hx2 (fun i hi _ e => by have := (h.own.blk i e).1; omega) h.bel.size⟩, hx2⟩
theorem app_string {base : Nat} {w : World} {v : Value} {l : List UInt8} (h : Own u8c 1 5 base w v l) (s : ByteArray) (hb : base ≤ w.heap.size) (hl : l.length + s.size ≤ 140737488355328) :
    ∃ (r : Sl) (w2 : World), (Builtin.append_ #[22, 9] 22 #[v, .string s]).run Tryz.prog w = .ok (.slice r.a r.n r.cap) w2 ∧ Own u8c 1 5 base w2 (.slice r.a r.n r.cap) (l ++ s.data.toList) ∧ Ext (fun b => v.ownBlock = some b) w w2 := by
  obtain ⟨i0, hi, hz0, hz1, hz2⟩ := info_parts info_u8
  obtain ⟨v', w', hr, ho2, hx2, -⟩ := Lib.run_append_own_string (P := Tryz.prog) w base 22 9 22 5 i0 Tryz.underlying22 Tryz.underlying9 hi hz0 hz1 hz2 v l.length (l.flatMap u8c) h s (by unfold maxLen; omega) hl hb
  have ho3 : Own u8c 1 5 base w' v' (l ++ s.data.toList) := by
    unfold Own
    rw [List.length_append, List.flatMap_append, show s.data.toList.length = s.size from by rw [Array.length_toList]; rfl, show s.data.toList.flatMap u8c = Lib.strCells s from by
      unfold Lib.strCells
      induction s.data.toList with
      | nil => rfl
      | cons a t ih => rw [List.flatMap_cons, ih, List.map_cons]; rfl]
    exact ho2
  obtain ⟨r, rfl⟩ := ho3.sl
  exact ⟨r, w', hr, ho3, Ext.of_grown hx2⟩
theorem truC_len (l : List OpD) (c : Nat) : (truC l c).length = l.length := by simp [truC]
theorem lenC_len (l : List OpD) (c : Nat) : (lenC l c).length = l.length := by simp [lenC]
theorem truC_take {l : List OpD} {k : Nat} {x : OpD} (hx : l[k]? = some x) (c : Nat) : truC (l.take (k + 1)) c = truC (l.take k) c ++ [tru x c] := by
  unfold truC
  rw [List.take_add_one, hx, Option.toList_some, List.map_append]
  rfl
theorem lenC_take {l : List OpD} {k : Nat} {x : OpD} (hx : l[k]? = some x) (c : Nat) : lenC (l.take (k + 1)) c = lenC (l.take k) c ++ [((txt x c).size : Int)] := by
  unfold lenC
  rw [List.take_add_one, hx, Option.toList_some, List.map_append]
  rfl
theorem catC_take {l : List OpD} {k : Nat} {x : OpD} (hx : l[k]? = some x) (c : Nat) : catC (l.take (k + 1)) c = catC (l.take k) c ++ (txt x c).data.toList := by
  unfold catC
  rw [List.take_add_one, hx, Option.toList_some, List.flatMap_append]
  simp
theorem trusB_len {l : List OpD} (hl : l.length ≤ 200) : ∀ c, (trusB l c).length ≤ 2010 * c
  | 0 => by simp [trusB]
  | c + 1 => by
    rw [trusB_succ, List.length_append]
    have h1 := trusB_len hl c
    have h2 := boolsB_len (l := truC l c) (by rw [truC_len]; omega)
    rw [truC_len] at h2
    omega
theorem catC_len {l : List OpD} (hr : ∀ x ∈ l, x.right = true) (c : Nat) : (catC l c).length ≤ 64 * l.length := by
  induction l with
  | nil => simp [catC]
  | cons x l ih =>
    have h1 := ih (fun y hy => hr y (List.mem_cons_of_mem _ hy))
    have h2 := (hr x (List.mem_cons_self ..))
    have h3 := OpD.right_txt h2 c
    have h4 : (catC (x :: l) c).length = (txt x c).size + (catC l c).length := by simp [catC]
    rw [h4, List.length_cons]
    omega
theorem lenC_in {l : List OpD} (hr : ∀ x ∈ l, x.right = true) (c : Nat) : ∀ n ∈ lenC l c, -9223372036854775808 ≤ n ∧ n ≤ 9223372036854775807 := fun n hn => by
  obtain ⟨o, ho, rfl⟩ := List.mem_map.1 hn
  have := OpD.right_txt (hr o ho) c
  omega
theorem lenB_len {l : List OpD} (hr : ∀ x ∈ l, x.right = true) (hl : l.length ≤ 200) (c : Nat) : (runsB (lenC l c)).length ≤ 4000 := by
  have := runsB_len _ (lenC l c) rfl (by rw [lenC_len]; omega) (fun x hx => zigN_lt (lenC_in hr c x hx).1 (lenC_in hr c x hx).2)
  rw [lenC_len] at this
  omega
theorem txtsB_len {l : List OpD} (hr : ∀ x ∈ l, x.right = true) (hl : l.length ≤ 200) : ∀ c, (txtsB l c).length ≤ 16800 * c
  | 0 => by simp [txtsB]
  | c + 1 => by
    rw [txtsB_succ, List.length_append, List.length_append]
    have h1 := txtsB_len hr hl c
    have h2 := lenB_len hr hl c
    have h3 := catC_len hr c
    omega
def EncPost (w : World) (l : List OpD) (e : Ending) (w' : World) : Prop :=
  (l.length ≤ 200 ∧ (∀ x ∈ l, x.right = true) ∧ ∃ v, e = .returned (.tuple #[v, .int .i64 0]) ∧ Own u8c 1 5 w.heap.size w' v (encB l) ∧ Below w.heap.size w w') ∨
  (200 < l.length ∧ e = .returned (.tuple #[.slice none 0 0, .int .i64 1]) ∧ Below w.heap.size w w') ∨
  (l.length ≤ 200 ∧ (∃ x ∈ l, x.right = false) ∧ e = .returned (.tuple #[.slice none 0 0, .int .i64 71]) ∧ Below w.heap.size w w')
end Go.Proofs.YtgmdimbiipemhaaGreatDoor
namespace Go.Proofs.YtgmdimbiipemhaaGreatDoor
open Go.RowKit Go.Deep
set_option linter.unusedSimpArgs false
set_option linter.unusedVariables false
theorem info_op : (Tryz.prog.info? 68).map (fun i => (i.zero, i.size, i.bytes)) = some (some (.agg zOp.cells.toArray), 26, 232) := by kernel_rfl
theorem made_ops (n : Nat) : (madeCells zOp.cells.toArray (n * 26)).toList = (List.replicate n zOp).flatMap OpD.cells := by
  apply List.ext_getElem?
  intro q
  by_cases hq : q < n * 26
  · have hdm : q / 26 * 26 + q % 26 = q := by omega
    have hi : (List.replicate n zOp)[q / 26]? = some zOp := List.getElem?_replicate_of_lt (by omega)
    obtain ⟨u, hu⟩ : ∃ u, zOp.cells[q % 26]? = some u := ⟨_, List.getElem?_eq_getElem (by rw [OpD.len]; omega)⟩
    have h5 := getElem?_flatMap_k OpD.len _ _ _ hi _ _ hu
    rw [hdm] at h5
    rw [h5]
    unfold madeCells
    rw [Array.getElem?_toList, Array.getElem?_map, Array.getElem?_range, if_pos hq, Option.map_some, List.size_toArray, OpD.len, getElem!_def, List.getElem?_toArray, hu]
  · rw [List.getElem?_eq_none (by simp [madeCells]; omega), List.getElem?_eq_none (by rw [length_flatMap_k OpD.len, List.length_replicate]; omega)]
theorem Own.made {base n : Nat} {W : World} (hb : base ≤ W.heap.size) (hn : n ≤ 200) : Own OpD.cells 26 68 base (W.alloc (.cells (madeCells zOp.cells.toArray (n * 26)) 68)) (.slice (some ⟨W.heap.size, 0, none⟩) n n) (List.replicate n zOp) := by
  have hs : (madeCells zOp.cells.toArray (n * 26)).size = n * 26 := by simp [madeCells]
  refine ⟨by rw [length_flatMap_k OpD.len], .inr ⟨W.heap.size, n, madeCells zOp.cells.toArray (n * 26), by rw [List.length_replicate], hb, heap_new8 W _, by rw [List.length_replicate]; exact Nat.le_refl _, by unfold maxLen; omega, hs, ?_⟩⟩
  rw [List.length_replicate, List.take_of_length_le (by rw [Array.length_toList, hs]; exact Nat.le_refl _)]
  exact made_ops n
theorem TKS.made1 {w0 : World} {T n : Nat} {W : World} {tb tb' : Value} {b r : List UInt8} (h : TKS w0 T W tb b (.slice none 0 0) []) (hr : SliceIs u8c 1 w0 tb' r) (hn : n ≤ 200) :
    TKS w0 T (((W.setCell ⟨T, 0, none⟩ tb').setCell ⟨T, 1, none⟩ (.slice (some ⟨W.heap.size, 0, none⟩) n n)).alloc (.cells (madeCells zOp.cells.toArray (n * 26)) 68)).drew tb' r (.slice (some ⟨W.heap.size, 0, none⟩) n n) (List.replicate n zOp) := by
  have hTl := (Array.getElem?_eq_some_iff.1 h.cell).1
  have hx2 : Ext (· = T) W (W.setCell ⟨T, 0, none⟩ tb') := (Ext.refl (· = T) W).setCell (p := ⟨T, 0, none⟩) (.inr rfl) _
  have hc2 : (W.setCell ⟨T, 0, none⟩ tb').heap[T]? = some (.cells #[tb', .slice none 0 0] 90 (0, 0)) := by rw [heap_setCell_same _ T 0 _ _ _ h.cell]; rfl
  have hx3 : Ext (· = T) (W.setCell ⟨T, 0, none⟩ tb') ((W.setCell ⟨T, 0, none⟩ tb').setCell ⟨T, 1, none⟩ (.slice (some ⟨W.heap.size, 0, none⟩) n n)) := (Ext.refl (· = T) _).setCell (p := ⟨T, 1, none⟩) (.inr rfl) _
  have hc3 : ((W.setCell ⟨T, 0, none⟩ tb').setCell ⟨T, 1, none⟩ (.slice (some ⟨W.heap.size, 0, none⟩) n n)).heap[T]? = some (.cells #[tb', (.slice (some ⟨W.heap.size, 0, none⟩) n n)] 90 (0, 0)) := by rw [heap_setCell_same _ T 1 _ _ _ hc2]; rfl
  have hz : ((W.setCell ⟨T, 0, none⟩ tb').setCell ⟨T, 1, none⟩ (.slice (some ⟨W.heap.size, 0, none⟩) n n)).heap.size = W.heap.size := by rw [World.size_setCell, World.size_setCell]
  have hx : Ext (· = T) W ((W.setCell ⟨T, 0, none⟩ tb').setCell ⟨T, 1, none⟩ (.slice (some ⟨W.heap.size, 0, none⟩) n n)) := hx2.andThen hx3 (fun i hi e => e)
  generalize (W.setCell ⟨T, 0, none⟩ tb').setCell ⟨T, 1, none⟩ (.slice (some ⟨W.heap.size, 0, none⟩) n n) = W2 at hc3 hz hx ⊢
  have ho := Own.made (W := W2) (base := w0.heap.size) (n := n) (by rw [hz]; exact h.bel.size) hn
  rw [hz] at ho
  have hx4 : Ext (fun _ => False) W2 (W2.alloc (.cells (madeCells zOp.cells.toArray (n * 26)) 68)).drew := ((Ext.refl _ _).alloc _).drew
  have hall : Ext (· = T) W (W2.alloc (.cells (madeCells zOp.cells.toArray (n * 26)) 68)).drew := hx.andThen hx4 (fun i hi e => e.elim)
  exact ⟨(hx4.block T (by omega) id).trans hc3, hr, ho.below1 (Below.refl _ _).drew, Ext.new h.bel hall (fun k hk _ e => by have := h.new; omega) h.bel.size, h.new, h.fltKeep hall (fun e => by omega)⟩
def AllPost (w0 : World) (T : Nat) (b : List UInt8) (e : Ending) (w' : World) : Prop :=
  (∃ l tb' tl, decB b = some l ∧ e = .returned .nilIface ∧ TKS w0 T w' tb' [] tl l) ∨ (decB b = none ∧ (∃ s m, e = .returned (atErr s m)) ∧ Kp w0 T w')
set_option maxRecDepth 20000 in
set_option maxHeartbeats 4000000 in
theorem takeall_any (w0 : World) (T : Nat) (w : World) (tb : Value) (b : List UInt8) (h : TKS w0 T w tb b (.slice none 0 0) []) : Calls Tryz.prog 53 #[.pointer (some ⟨T, 0, none⟩)] w fun e w' => AllPost w0 T b e w' := by
  obtain ⟨ta, tcap, rfl, htc, htm, -⟩ := id h.byt
  unfold maxLen at htm
  have hc0 := h.cell
  have HT := Lib.hid h
  clear h
  have cT : w.cell? ⟨T, 0, none⟩ = some (.slice ta b.length tcap) := by simp [World.cell?, hc0]
  cases hv : takeV b with
  | none =>
    have hR := takeR_none (takeV_none.1 hv)
    have HBAD := Lib.hid (decB_none1 hv)
    clear hc0 hv
    go_enter Tryz.func53, Tryz.ntmps53
    go_wp2_with fail
    refine (take_any _ b _ HT.out.bytes).mono ?_
    rintro e w' ⟨rfl, rfl⟩
    rw [hR]
    clear hR
    go_wp2_with fail
    go_ret
    exact Or.inr ⟨HBAD.out, ⟨_, _, rfl⟩, HT.out.kp⟩
  | some n =>
    have hR := takeR_some (takeV_some.1 hv)
    have HV := Lib.hid hv
    have hpb : (putB n).length ≤ b.length := (takeV_some.1 hv).2.length_le
    clear hv
    by_cases hbig : 200 < n
    · have hb1 : (200 : Int) < (n : Int) := by omega
      have HBAD := Lib.hid (decB_none2 HV.out hbig)
      clear hc0
      go_enter Tryz.func53, Tryz.ntmps53
      go_wp2_with fail
      refine (take_any _ b _ HT.out.bytes).mono ?_
      rintro e w' ⟨rfl, rfl⟩
      rw [hR]
      clear hR
      go_wp2_with fail
      go_ret
      exact Or.inr ⟨HBAD.out, ⟨_, _, rfl⟩, HT.out.kp⟩
    · have hb1 : ¬ (200 : Int) < (n : Int) := by omega
      obtain ⟨a1, c1, hsl, hS1, -⟩ := slice_from (P := Tryz.prog) (ea := u8c) Tryz.underlying22 size_u8 ta b.length tcap (putB n).length htc hpb
      have HBY := Lib.hid (hS1 w0 b rfl HT.out.byt)
      obtain ⟨i0, hi, hy0, hy1, hy2⟩ := info_parts info_op
      have hmk : ∀ W : World, (Instr.makeSlice 24 (.int .u64 (n : Int)) (.int .u64 (n : Int))).run Tryz.prog W = .ok (.slice (some ⟨W.heap.size, 0, none⟩) n n) (W.alloc (.cells (madeCells zOp.cells.toArray (n * 26)) 68)) := fun W => by
        have h := run_make (P := Tryz.prog) W 24 68 i0 _ Tryz.underlying24 hi hy0 .u64 .u64 (n : Int) (n : Int) (by omega) (by omega) (by rw [hy2]; omega) (by omega)
        rw [hy1, Int.toNat_natCast] at h
        exact h
      have cT1 : w.cell? ⟨T, 1, none⟩ = some (.slice none 0 0) := by simp [World.cell?, hc0]
      have fT : w.frozen? ⟨T, 0, none⟩ = false := by simp [World.frozen?, hc0]
      have fT1 : w.frozen? ⟨T, 1, none⟩ = false := by simp [World.frozen?, hc0]
      have hTl : T < w.heap.size := (Array.getElem?_eq_some_iff.1 hc0).1
      clear hS1 hc0 hi hy0 hy1 hy2
      go_enter Tryz.func53, Tryz.ntmps53
      go_wp2_with fail
      refine (take_any _ b _ HT.out.bytes).mono ?_
      rintro e w' ⟨rfl, rfl⟩
      rw [hR]
      clear hR
      go_upto_region 4 with fail
      go_region
      have HN : Hid (TKS w0 T (((w.setCell ⟨T, 0, none⟩ (.slice a1 (b.length - (putB n).length) c1)).setCell ⟨T, 1, none⟩ (.slice (some ⟨w.heap.size, 0, none⟩) n n)).alloc (.cells (madeCells zOp.cells.toArray (n * 26)) 68)).drew (.slice a1 (b.length - (putB n).length) c1) (b.drop (putB n).length) (.slice (some ⟨w.heap.size, 0, none⟩) n n) (List.replicate n zOp)) := Lib.hid (HT.out.made1 HBY.out (by omega))
      clear cT cT1 fT fT1 hTl HBY HT htc htm
      generalize (((w.setCell ⟨T, 0, none⟩ (.slice a1 (b.length - (putB n).length) c1)).setCell ⟨T, 1, none⟩ (.slice (some ⟨w.heap.size, 0, none⟩) n n)).alloc (.cells (madeCells zOp.cells.toArray (n * 26)) 68)).drew = W4 at HN ⊢
      generalize w.heap.size = g at HN ⊢
      go_wp2_with fail
      refine (numbers_any w0 T _ _ _ _ _ HN.out (by rw [List.length_replicate]; omega)).mono ?_
      rintro e w5 (⟨L, r2, tb2, hdec, rfl, hk5⟩ | ⟨hdec, ⟨s, m, rfl⟩, hb5⟩)
      rotate_left
      · rw [List.length_replicate] at hdec
        have HBAD := Lib.hid (decB_none3 HV.out hbig hdec)
        have HBL := Lib.hid hb5
        clear hdec hb5 HN
        unfold atErr
        go_wp2_with fail
        go_ret
        exact Or.inr ⟨HBAD.out, ⟨s, m, rfl⟩, HBL.out⟩
      rw [List.length_replicate] at hdec hk5
      have HC := Lib.hid hdec
      have HLN : Hid ((mixN L n (List.replicate n zOp)).length = n) := Lib.hid (by rw [mixN_len, List.length_replicate])
      have HN5 := Lib.hid hk5
      clear hdec hk5 HN
      go_wp2_with fail
      refine (taketruths_any w0 T _ _ _ _ _ HN5.out (by rw [HLN.out]; omega)).mono ?_
      rintro e w6 (⟨l3, r3, tb3, hdec, rfl, hk6⟩ | ⟨hdec, ⟨s, m, rfl⟩, hb6⟩)
      rotate_left
      · rw [HLN.out] at hdec
        have HBAD := Lib.hid (decB_none4 HV.out hbig HC.out hdec)
        have HBL := Lib.hid hb6
        clear hdec hb6 HN5
        unfold atErr
        go_wp2_with fail
        go_ret
        exact Or.inr ⟨HBAD.out, ⟨s, m, rfl⟩, HBL.out⟩
      rw [HLN.out] at hdec
      have HCH := Lib.hid (decChain_all HV.out hbig HC.out hdec)
      have HL3 : Hid (l3.length = n) := Lib.hid ((tkT_len hdec).trans HLN.out)
      have HN6 := Lib.hid hk6
      clear hdec hk6 HN5 HLN HC
      go_wp2_with fail
      go_loopg [54] 3 (fun q kv wx => ∃ (k : Nat) (l4 : List OpD) (r4 : List UInt8) (tb4 : Value), q = 3 - k ∧ kv = .int .i64 k ∧ k ≤ 3 ∧ Hid (tkX n k (l3, r3) = some (l4, r4) ∧ l4.length = n ∧ TKS w0 T wx tb4 r4 (.slice (some ⟨g, 0, none⟩) n n) l4))
      case atStart => exact ⟨0, _, _, _, rfl, rfl, by omega, Lib.hid ⟨rfl, HL3.out, HN6.out⟩⟩
      case round =>
        clear HN6 HL3
        obtain ⟨k, l4, r4, tb4, hg, rfl, hk, HR⟩ := hrel
        have HG := Lib.hid hg
        clear hg
        by_cases hlt : k < 3
        · have hk1 : (k : Int) < 3 := by omega
          have HLT := Lib.hid hlt
          clear hlt
          go_wp2_with fail
          refine (taketexts_any w0 T _ _ _ _ _ k HLT.out HR.out.2.2 (by rw [HR.out.2.1]; omega)).mono ?_
          rintro e w7 (⟨l5, r5, tb5, hdec, rfl, hk7⟩ | ⟨hdec, ⟨s, m, rfl⟩, hb7⟩)
          rotate_left
          · rw [HR.out.2.1] at hdec
            have HBAD := Lib.hid (decB_none (HCH.out.trans (tkX_bad HR.out.1 hdec HLT.out)))
            have HBL := Lib.hid hb7
            clear hdec hb7 HR
            unfold atErr
            go_wp2_with fail
            go_ret
            exact Or.inr ⟨HBAD.out, ⟨s, m, rfl⟩, HBL.out⟩
          rw [HR.out.2.1] at hdec
          have HNN : Hid (tkX n (k + 1) (l3, r3) = some (l5, r5) ∧ l5.length = n ∧ TKS w0 T w7 tb5 r5 (.slice (some ⟨g, 0, none⟩) n n) l5) := Lib.hid ⟨(tkX_step HR.out.1).trans hdec, (tkX1_len hdec).trans HR.out.2.1, hk7⟩
          clear hdec hk7 HR
          go_wp2_with fail
          go_roundg (3 - (k + 1))
          case measure => rw [HG.out]; have := HLT.out; omega
          case rel => exact ⟨k + 1, _, _, _, rfl, by simp, by have := HLT.out; omega, HNN⟩
        · obtain rfl : k = 3 := by omega
          have hk1 : ¬ (3 : Int) < 3 := by omega
          have HD : Hid (decChain b = some (l4, r4)) := Lib.hid (HCH.out.trans HR.out.1)
          have HKS := Lib.hid HR.out.2.2
          have HL4 := Lib.hid HR.out.2.1
          clear HR hlt hk HCH HG HV
          obtain ⟨t4, c4, rfl, ht4, hm4, -⟩ := id HKS.out.byt
          have hc4 := HKS.out.cell
          have cT4 : wr.cell? ⟨T, 0, none⟩ = some (.slice t4 r4.length c4) := by simp [World.cell?, hc4]
          have cT5 : wr.cell? ⟨T, 1, none⟩ = some (.slice (some ⟨g, 0, none⟩) n n) := by simp [World.cell?, hc4]
          clear hc4 ht4 hm4
          by_cases hr4 : r4 = []
          · subst hr4
            simp only [List.length_nil] at cT4
            go_wp2_with fail
            clear cT4 cT5
            go_loopg [78] n (fun q kv wx => ∃ j : Nat, q = n - j ∧ kv = .int .i64 j ∧ j ≤ n ∧ Hid ((∀ x ∈ l4.take j, x.right = true) ∧ TKS w0 T wx (.slice t4 ([] : List UInt8).length c4) [] (.slice (some ⟨g, 0, none⟩) n n) l4))
            case atStart => exact ⟨0, rfl, rfl, Nat.zero_le _, Lib.hid ⟨fun x hx => by simp at hx, HKS.out⟩⟩
            case round =>
              clear HKS
              obtain ⟨j, hg, rfl, hj, HR⟩ := hrel
              have HG := Lib.hid hg
              clear hg
              by_cases hlj : j < n
              · have hj1 : (j : Int) < (n : Int) := by omega
                obtain ⟨x, hx⟩ : ∃ x, l4[j]? = some x := ⟨_, List.getElem?_eq_getElem (by rw [HL4.out]; exact hlj)⟩
                have hsl : SliceIs OpD.cells 26 wr (.slice (some ⟨g, 0, none⟩) l4.length n) l4 := by
                  have h := HR.out.2.own.slice OpD.len
                  rw [HL4.out]
                  exact h
                have hld := sl_load hsl hx
                rw [Nat.zero_add] at hld
                have hst := store_fresh8 wr x
                have HLD := Lib.hid (And.intro hld hst)
                have HX := Lib.hid hx
                have HFT : Hid x.fits := Lib.hid ((decChain_enc HD.out).2.2 x (List.mem_of_getElem? hx)).1
                have hb2 : Below wr.heap.size wr (wr.alloc (.cells x.cells.toArray 68)) := (Below.refl _ _).alloc (Nat.le_refl _) _
                have hob := OB.new wr x
                have hw2 := OB.whole hob
                have HW2 := Lib.hid (And.intro hb2 hw2)
                clear hsl hld hst hx hob hw2 hb2
                go_wp2_with (first | ((with_reducible_and_instances refine wpList_ranG (o := ⟨some 81, _, _, _, _, _⟩) (v := .agg x.cells.toArray) ?_ ?_ ?_); rfl; exact exec_load rfl rfl HLD.out.1) | (refine wpList_store_run (T := 68) rfl rfl rfl rfl HLD.out.2 ?_) | ((with_reducible_and_instances refine wpList_ranG (o := ⟨some 82, _, _, _, _, _⟩) (v := .agg x.cells.toArray) ?_ ?_ ?_); rfl; exact exec_load rfl rfl HW2.out.2))
                refine (oright_any x _ HFT.out).mono ?_
                rintro e w3 ⟨rfl, b3⟩
                have HB3 : Hid (TKS w0 T w3 (.slice t4 ([] : List UInt8).length c4) [] (.slice (some ⟨g, 0, none⟩) n n) l4) := Lib.hid (HR.out.2.below (HW2.out.1.trans (b3.mono HW2.out.1.size)))
                clear b3 HW2 HLD
                cases hr : x.right with
                | false =>
                  have HBAD : Hid (decB b = none) := Lib.hid (decB_of HD.out (fun h => by have := h.2 x (List.mem_of_getElem? HX.out); rw [hr] at this; cases this))
                  have HBL := Lib.hid HB3.out.kp
                  clear hr HR HB3
                  go_wp2_with fail
                  go_ret
                  exact Or.inr ⟨HBAD.out, ⟨_, _, rfl⟩, HBL.out⟩
                | true =>
                  have HNN : Hid ((∀ y ∈ l4.take (j + 1), y.right = true) ∧ TKS w0 T w3 (.slice t4 ([] : List UInt8).length c4) [] (.slice (some ⟨g, 0, none⟩) n n) l4) := Lib.hid ⟨fun y hy => by
                    rw [List.take_add_one, HX.out, Option.toList_some] at hy
                    rcases List.mem_append.1 hy with hy | hy
                    · exact HR.out.1 y hy
                    · rw [List.mem_singleton.1 hy]; exact hr, HB3.out⟩
                  clear hr HR HB3
                  go_wp2_with fail
                  go_roundg (n - (j + 1))
                  case measure => rw [HG.out]; omega
                  case rel => exact ⟨j + 1, rfl, by simp, by omega, HNN⟩
              · obtain rfl : j = n := by omega
                have hj1 : ¬ (j : Int) < (j : Int) := by omega
                have HALL : Hid (decB b = some l4) := Lib.hid (decB_yes HD.out (by have h := HR.out.1; rwa [← HL4.out, List.take_length] at h))
                go_wp2_with fail
                go_ret
                exact Or.inl ⟨_, _, _, HALL.out, rfl, HR.out.2⟩
          · have hr5 : (0 : Int) < (r4.length : Int) := by have := List.length_pos_iff.2 hr4; omega
            have HBAD : Hid (decB b = none) := Lib.hid (decB_of HD.out (fun h => hr4 h.1))
            go_wp2_with fail
            go_ret
            exact Or.inr ⟨HBAD.out, ⟨_, _, rfl⟩, HKS.out.kp⟩
end Go.Proofs.YtgmdimbiipemhaaGreatDoor
