/- The law MoveTakes: a move takes effect just if, in the tree of those of lesser stamps alone, its block is not what it is put under, nor is that under the block; for every input. -/
import Derived.Test.YtilonmpcifohiaaPlainTakes14
import Derived.Test.YtilonmpcifohiaaRows
import Derived.Test.YtilonmpcifohiaaAppend
import Derived.Test.YtilonmpcifohiaaEq14
import Derived.Deep.CutBlock
import Derived.Deep.DeepCutAuto
import Derived.ProofKit
import Derived.OpenShut
import Derived.ShutString
import Derived.ChangeOld
import Derived.Below
namespace Go.Proofs.Ytilonmpcifohiaa
open Go.ChangeShapes Go.WideShapes Go.ChangeAt Go.RowKit
set_option linter.unusedSimpArgs false
set_option linter.unusedVariables false

/-- x's own box. -/
theorem RMvAt.new (w : World) (x : RMv) (T : TypeId) : RMvAt (w.alloc (.cells #[.int .i64 x.at_.n, .int .i64 x.at_.r, .int .i64 x.block.n, .int .i64 x.block.r, .int .i64 x.under.n, .int .i64 x.under.r, .string x.key] T)) w.heap.size 0 x := by
  unfold RMvAt
  refine ⟨?_, ?_, ?_, ?_, ?_, ?_, ?_⟩ <;> go_simp
theorem Ext.add {S : Nat → Prop} {B : Nat} {w a b : World} (h : Below B w a) (k : Ext S a b) (hs : ∀ i, S i → B ≤ i) (hB : B ≤ a.heap.size) : Below B w b :=
  Ext.new h k (fun i hi _ e => by have := hs i e; omega) hB

set_option maxRecDepth 100000 in
set_option maxHeartbeats 4000000 in
theorem moveTakes_walk (v : Value) (l : List RMv) (x : RMv) (w : World) (hv : SliceIs RMv.cells 7 w v l) :
    Calls Try.prog 3 #[v, .agg #[.int .i64 x.at_.n, .int .i64 x.at_.r, .int .i64 x.block.n, .int .i64 x.block.r, .int .i64 x.under.n, .int .i64 x.under.r, .string x.key]] w fun e w' => e = .returned (.bool true) ∧ Below w.heap.size w w' := by
  obtain ⟨va, vc, rfl, hcap, hmax, _⟩ := id hv
  have hmax' := hmax
  unfold maxLen at hmax
  obtain ⟨i0, hi, hi0, hi1, hi2⟩ := info_parts info_rmove
  obtain ⟨c, hc⟩ : ∃ c, c = (addAll (l.take 59 ++ [x])).1 := ⟨_, rfl⟩
  obtain ⟨all, hall⟩ : ∃ all, all = (addAll (l.take 59 ++ [x])).2 := ⟨_, rfl⟩
  have hlen := addAll_len (l.take 59 ++ [x])
  rw [List.length_append, List.length_take, ← hc, ← hall] at hlen
  have hcl : c.length ≤ 60 := by simp at hlen; omega
  have hal : all.length ≤ 60 := by simp at hlen; omega
  have HK : Hid (Kept c all) := by show Kept c all; rw [hc, hall]; exact addAll_kept _
  have HMV : Hid (∀ V W, SliceIs RMv.cells 7 W V (l.take 59 ++ [x]) → Calls Try.prog 10 #[V] W fun e w' => ∃ vo, e = .returned (.tuple #[.pointer (some ⟨W.heap.size + 1, 0, none⟩), vo]) ∧ TreeHas W.heap.size w' (W.heap.size + 1) W.heap.size c ∧ Own RMv.cells 7 26 W.heap.size w' vo all ∧ Below W.heap.size W w') := by
    intro V W hV
    have := moved_any V _ W hV
    rw [List.take_of_length_le (by simp; omega), ← hc, ← hall] at this
    exact this
  clear hc hall hlen
  obtain ⟨K, hKe⟩ : ∃ K : Nat, K = min l.length 59 := ⟨_, rfl⟩
  have hKl : K ≤ l.length := by omega
  have hK59 : K ≤ 59 := by omega
  have hmin : ((min (l.length : Int) 59) : Int) = (K : Int) := by omega
  have hKv : K ≤ vc := by omega
  have hv59 : ∀ W, Below w.heap.size w W → SliceIs RMv.cells 7 W (.slice va K vc) (l.take 59) := fun W hW => by
    have h1 := (hv.below hW).take hKl
    have h2 : l.take 59 = l.take K := by rw [hKe]; by_cases h : l.length ≤ 59 <;> simp [h, List.take_of_length_le, Nat.min_eq_left, Nat.min_eq_right, Nat.le_of_lt] <;> omega
    rw [h2]; exact h1
  have hl59 : (l.take 59).length = K := by rw [List.length_take, Nat.min_comm]; exact hKe.symm
  have HV := Lib.hid hv59
  clear hv59 hKe
  have bx := RMvAt.new w x 26
  have hb0 : Below w.heap.size w (w.alloc (.cells #[.int .i64 x.at_.n, .int .i64 x.at_.r, .int .i64 x.block.n, .int .i64 x.block.r, .int .i64 x.under.n, .int .i64 x.under.r, .string x.key] 26)) := (Below.refl _ _).alloc (Nat.le_refl _) _
  have hz0 : (w.alloc (.cells #[.int .i64 x.at_.n, .int .i64 x.at_.r, .int .i64 x.block.n, .int .i64 x.block.r, .int .i64 x.under.n, .int .i64 x.under.r, .string x.key] 26)).heap.size = w.heap.size + 1 := by simp
  go_enter Try.func3, Try.ntmps3
  go_upto_region 1 with fail
  generalize w.alloc (.cells #[.int .i64 x.at_.n, .int .i64 x.at_.r, .int .i64 x.block.n, .int .i64 x.block.r, .int .i64 x.under.n, .int .i64 x.under.r, .string x.key] 26) = W0 at *
  go_cut [5, 6] (fun tv av wx => ∃ (B : Nat), tv = .pointer (some ⟨B + 1, 0, none⟩) ∧ TreeHas B wx (B + 1) B c ∧ Own RMv.cells 7 26 B wx av all ∧ RMvAt wx w.heap.size 0 x ∧ w.heap.size < B ∧ Below w.heap.size w wx)
  case first =>
    have hS0 : (fun W => W.cell? ⟨w.heap.size, 0, none⟩ = some (.int .i64 x.at_.n) ∧ W.cell? ⟨w.heap.size, 1, none⟩ = some (.int .i64 x.at_.r) ∧ W.cell? ⟨w.heap.size, 2, none⟩ = some (.int .i64 x.block.n) ∧ W.cell? ⟨w.heap.size, 3, none⟩ = some (.int .i64 x.block.r) ∧ W.cell? ⟨w.heap.size, 4, none⟩ = some (.int .i64 x.under.n) ∧ W.cell? ⟨w.heap.size, 5, none⟩ = some (.int .i64 x.under.r) ∧ W.cell? ⟨w.heap.size, 6, none⟩ = some (.string x.key)) W0.drew := bx
    refine wp_region_held_drew (S := (fun W => W.cell? ⟨w.heap.size, 0, none⟩ = some (.int .i64 x.at_.n) ∧ W.cell? ⟨w.heap.size, 1, none⟩ = some (.int .i64 x.at_.r) ∧ W.cell? ⟨w.heap.size, 2, none⟩ = some (.int .i64 x.block.n) ∧ W.cell? ⟨w.heap.size, 3, none⟩ = some (.int .i64 x.block.r) ∧ W.cell? ⟨w.heap.size, 4, none⟩ = some (.int .i64 x.under.n) ∧ W.cell? ⟨w.heap.size, 5, none⟩ = some (.int .i64 x.under.r) ∧ W.cell? ⟨w.heap.size, 6, none⟩ = some (.string x.key))) (by kernel_rfl) hS0 (fun _ => ?_)
    refine held_take (i := 1) (d := (some 21)) rfl rfl (by kernel_rfl) (by kernel_rfl) (by kernel_rfl) (fun _ _ _ h => h) (.inl ⟨by rfl, fun W hW => by go_simp; rfl⟩) hS0 ?_
    try simp only [Act.put, List.setIfInBounds_toArray, List.set_cons_zero, List.set_cons_succ]
    refine held_take (i := 2) (d := (some 22)) rfl rfl (by kernel_rfl) (by kernel_rfl) (by kernel_rfl) (fun _ _ _ h => h) (.inl ⟨by rfl, fun W hW => by go_simp; rfl⟩) hS0 ?_
    try simp only [Act.put, List.setIfInBounds_toArray, List.set_cons_zero, List.set_cons_succ]
    refine held_take (i := 3) (d := (some 23)) rfl rfl (by kernel_rfl) (by kernel_rfl) (by kernel_rfl) (fun _ _ _ h => h) (.inl ⟨by rfl, fun W hW => by go_simp; rfl⟩) hS0 ?_
    try simp only [Act.put, List.setIfInBounds_toArray, List.set_cons_zero, List.set_cons_succ]
    refine held_take (i := 4) (d := (some 24)) rfl rfl (by kernel_rfl) (by kernel_rfl) (by kernel_rfl) (fun _ _ _ h => h) (.inl ⟨by rfl, fun W hW => by go_simp; rfl⟩) hS0 ?_
    try simp only [Act.put, List.setIfInBounds_toArray, List.set_cons_zero, List.set_cons_succ]
    refine held_take (i := 5) (d := (some 25)) rfl rfl (by kernel_rfl) (by kernel_rfl) (by kernel_rfl) (fun _ _ _ h => h) (.inl ⟨by rfl, fun W hW => by go_simp; rfl⟩) hS0 ?_
    try simp only [Act.put, List.setIfInBounds_toArray, List.set_cons_zero, List.set_cons_succ]
    refine held_take (i := 7) (d := (some 27)) rfl rfl (by kernel_rfl) (by kernel_rfl) (by kernel_rfl) (fun _ _ _ h => h) (.inl ⟨by rfl, fun W hW => by obtain ⟨q0, q1, q2, q3, q4, q5, q6⟩ := hW; go_simp; rfl⟩) hS0 ?_
    try simp only [Act.put, List.setIfInBounds_toArray, List.set_cons_zero, List.set_cons_succ]
    have b00 : Below w.heap.size w W0.drew := hb0.drew
    have z00 : w.heap.size + 1 ≤ W0.drew.heap.size := by show _ ≤ W0.heap.size; omega
    generalize W0.drew = W1 at *
    clear hb0 bx hz0
    refine held_two (i := 0) (j := 8) (by kernel_rfl) ?_ ?_
    · have sa : (fun W => W.cell? ⟨w.heap.size, 0, none⟩ = some (.int .i64 x.at_.n) ∧ W.cell? ⟨w.heap.size, 1, none⟩ = some (.int .i64 x.at_.r) ∧ W.cell? ⟨w.heap.size, 2, none⟩ = some (.int .i64 x.block.n) ∧ W.cell? ⟨w.heap.size, 3, none⟩ = some (.int .i64 x.block.r) ∧ W.cell? ⟨w.heap.size, 4, none⟩ = some (.int .i64 x.under.n) ∧ W.cell? ⟨w.heap.size, 5, none⟩ = some (.int .i64 x.under.r) ∧ W.cell? ⟨w.heap.size, 6, none⟩ = some (.string x.key)) (W1.alloc (.cells #[] 26)) := ⟨cell_alloc hS0.1 _, cell_alloc hS0.2.1 _, cell_alloc hS0.2.2.1 _, cell_alloc hS0.2.2.2.1 _, cell_alloc hS0.2.2.2.2.1 _, cell_alloc hS0.2.2.2.2.2.1 _, cell_alloc hS0.2.2.2.2.2.2 _⟩
      have oa : Own RMv.cells 7 26 (w.heap.size + 1) (W1.alloc (.cells #[] 26)) (.slice (some ⟨W1.heap.size, 0, none⟩) 0 0) [] := Own.empty RMv.cells 7 26 z00
      have ba := b00.alloc b00.size (.cells #[] 26)
      have za : w.heap.size + 1 ≤ (W1.alloc (.cells #[] 26)).heap.size := by simp; omega
      refine op_ran (i := 0) (d := (some 20)) rfl rfl (by rfl) (by go_simp; first | rfl | exact ⟨rfl, rfl⟩) ⟨sa, ?_⟩
      try simp only [Act.put, List.setIfInBounds_toArray, List.set_cons_zero, List.set_cons_succ]
      generalize W1.alloc (.cells #[] 26) = Wa at *
      generalize W1.heap.size = na at *
      refine held_two (i := 6) (j := 8) (by kernel_rfl) ?_ ?_
      · skip
        obtain ⟨v26, w26, hr6, o26, x26⟩ := append_structs (P := Try.prog) 22 22 i0 (.agg #[.int .i64 0, .int .i64 0, .int .i64 0, .int .i64 0, .int .i64 0, .int .i64 0, .string ⟨#[]⟩]) 64 Try.underlying22 hi hi0 hi1 hi2 rfl (by omega) RMv.len RMv.one oa (HV.out _ ba) (by rw [hl59]; unfold maxLen; simp; omega) (by rw [hl59]; simp; omega) za
        have b26 := Ext.add ba x26 (fun i hi => by have := (oa.blk i hi).1; omega) (by have := za; omega)
        have z26 : w.heap.size + 1 ≤ w26.heap.size := Nat.le_trans za x26.size
        have s26 : (fun W => W.cell? ⟨w.heap.size, 0, none⟩ = some (.int .i64 x.at_.n) ∧ W.cell? ⟨w.heap.size, 1, none⟩ = some (.int .i64 x.at_.r) ∧ W.cell? ⟨w.heap.size, 2, none⟩ = some (.int .i64 x.block.n) ∧ W.cell? ⟨w.heap.size, 3, none⟩ = some (.int .i64 x.block.r) ∧ W.cell? ⟨w.heap.size, 4, none⟩ = some (.int .i64 x.under.n) ∧ W.cell? ⟨w.heap.size, 5, none⟩ = some (.int .i64 x.under.r) ∧ W.cell? ⟨w.heap.size, 6, none⟩ = some (.string x.key)) w26 := ⟨x26.keep sa.1 (fun e => by have := (oa.blk _ e).1; omega), x26.keep sa.2.1 (fun e => by have := (oa.blk _ e).1; omega), x26.keep sa.2.2.1 (fun e => by have := (oa.blk _ e).1; omega), x26.keep sa.2.2.2.1 (fun e => by have := (oa.blk _ e).1; omega), x26.keep sa.2.2.2.2.1 (fun e => by have := (oa.blk _ e).1; omega), x26.keep sa.2.2.2.2.2.1 (fun e => by have := (oa.blk _ e).1; omega), x26.keep sa.2.2.2.2.2.2 (fun e => by have := (oa.blk _ e).1; omega)⟩
        refine op_append (i := 6) rfl rfl (d := (some 26)) rfl (by rfl) rfl rfl hr6 ⟨s26, ?_⟩
        try simp only [Act.put, List.setIfInBounds_toArray, List.set_cons_zero, List.set_cons_succ]
        have sb : (fun W => W.cell? ⟨w.heap.size, 0, none⟩ = some (.int .i64 x.at_.n) ∧ W.cell? ⟨w.heap.size, 1, none⟩ = some (.int .i64 x.at_.r) ∧ W.cell? ⟨w.heap.size, 2, none⟩ = some (.int .i64 x.block.n) ∧ W.cell? ⟨w.heap.size, 3, none⟩ = some (.int .i64 x.block.r) ∧ W.cell? ⟨w.heap.size, 4, none⟩ = some (.int .i64 x.under.n) ∧ W.cell? ⟨w.heap.size, 5, none⟩ = some (.int .i64 x.under.r) ∧ W.cell? ⟨w.heap.size, 6, none⟩ = some (.string x.key)) (w26.alloc (.cells #[.int .i64 x.at_.n, .int .i64 x.at_.r, .int .i64 x.block.n, .int .i64 x.block.r, .int .i64 x.under.n, .int .i64 x.under.r, .string x.key] 26)) := ⟨cell_alloc s26.1 _, cell_alloc s26.2.1 _, cell_alloc s26.2.2.1 _, cell_alloc s26.2.2.2.1 _, cell_alloc s26.2.2.2.2.1 _, cell_alloc s26.2.2.2.2.2.1 _, cell_alloc s26.2.2.2.2.2.2 _⟩
        have bb := b26.alloc b26.size (.cells #[.int .i64 x.at_.n, .int .i64 x.at_.r, .int .i64 x.block.n, .int .i64 x.block.r, .int .i64 x.under.n, .int .i64 x.under.r, .string x.key] 26)
        have zb : w.heap.size + 1 ≤ (w26.alloc (.cells #[.int .i64 x.at_.n, .int .i64 x.at_.r, .int .i64 x.block.n, .int .i64 x.block.r, .int .i64 x.under.n, .int .i64 x.under.r, .string x.key] 26)).heap.size := by simp; omega
        have ob := o26.alloc (.cells #[.int .i64 x.at_.n, .int .i64 x.at_.r, .int .i64 x.block.n, .int .i64 x.block.r, .int .i64 x.under.n, .int .i64 x.under.r, .string x.key] 26)
        have one : SliceIs RMv.cells 7 (w26.alloc (.cells #[.int .i64 x.at_.n, .int .i64 x.at_.r, .int .i64 x.block.n, .int .i64 x.block.r, .int .i64 x.under.n, .int .i64 x.under.r, .string x.key] 26)) (.slice (some ⟨w26.heap.size, 0, none⟩) 1 1) [x] := SliceIs.one x _
        refine held_one (i := 8) (by kernel_rfl) (op_ran (d := (some 28)) rfl rfl (by rfl) (by go_simp; first | rfl | exact ⟨rfl, rfl⟩) ⟨sb, ?_⟩)
        try simp only [Act.put, List.setIfInBounds_toArray, List.set_cons_zero, List.set_cons_succ]
        generalize w26.alloc (.cells #[.int .i64 x.at_.n, .int .i64 x.at_.r, .int .i64 x.block.n, .int .i64 x.block.r, .int .i64 x.under.n, .int .i64 x.under.r, .string x.key] 26) = Wb at *
        generalize w26.heap.size = nb at *
        obtain ⟨v29, w29, hr9, o29, x29⟩ := append_structs (P := Try.prog) 22 22 i0 (.agg #[.int .i64 0, .int .i64 0, .int .i64 0, .int .i64 0, .int .i64 0, .int .i64 0, .string ⟨#[]⟩]) 64 Try.underlying22 hi hi0 hi1 hi2 rfl (by omega) RMv.len RMv.one ob one (by rw [List.nil_append, hl59]; unfold maxLen; simp; omega) (by rw [List.nil_append, hl59]; simp; omega) zb
        have b29 := Ext.add bb x29 (fun i hi => by have := (ob.blk i hi).1; omega) (by have := zb; omega)
        have z29 : w.heap.size + 1 ≤ w29.heap.size := Nat.le_trans zb x29.size
        have s29 : (fun W => W.cell? ⟨w.heap.size, 0, none⟩ = some (.int .i64 x.at_.n) ∧ W.cell? ⟨w.heap.size, 1, none⟩ = some (.int .i64 x.at_.r) ∧ W.cell? ⟨w.heap.size, 2, none⟩ = some (.int .i64 x.block.n) ∧ W.cell? ⟨w.heap.size, 3, none⟩ = some (.int .i64 x.block.r) ∧ W.cell? ⟨w.heap.size, 4, none⟩ = some (.int .i64 x.under.n) ∧ W.cell? ⟨w.heap.size, 5, none⟩ = some (.int .i64 x.under.r) ∧ W.cell? ⟨w.heap.size, 6, none⟩ = some (.string x.key)) w29 := ⟨x29.keep sb.1 (fun e => by have := (ob.blk _ e).1; omega), x29.keep sb.2.1 (fun e => by have := (ob.blk _ e).1; omega), x29.keep sb.2.2.1 (fun e => by have := (ob.blk _ e).1; omega), x29.keep sb.2.2.2.1 (fun e => by have := (ob.blk _ e).1; omega), x29.keep sb.2.2.2.2.1 (fun e => by have := (ob.blk _ e).1; omega), x29.keep sb.2.2.2.2.2.1 (fun e => by have := (ob.blk _ e).1; omega), x29.keep sb.2.2.2.2.2.2 (fun e => by have := (ob.blk _ e).1; omega)⟩
        refine held_one (i := 9) (by kernel_rfl) (op_append rfl rfl (d := (some 29)) rfl (by rfl) rfl rfl hr9 ⟨s29, ?_⟩)
        try simp only [Act.put, List.setIfInBounds_toArray, List.set_cons_zero, List.set_cons_succ]
        rw [List.nil_append] at o29
        refine held_call (i := 10) (d := (some 30)) (by kernel_rfl) rfl rfl (by rfl) (by go_simp; first | rfl | exact ⟨rfl, rfl⟩ | exact ⟨⟨rfl, rfl⟩, rfl⟩) ?_
        refine (HMV.out _ _ (o29.slice RMv.len)).mono ?_
        rintro e w30 ⟨vo, rfl, hT, hO, b30⟩
        have s30 : (fun W => W.cell? ⟨w.heap.size, 0, none⟩ = some (.int .i64 x.at_.n) ∧ W.cell? ⟨w.heap.size, 1, none⟩ = some (.int .i64 x.at_.r) ∧ W.cell? ⟨w.heap.size, 2, none⟩ = some (.int .i64 x.block.n) ∧ W.cell? ⟨w.heap.size, 3, none⟩ = some (.int .i64 x.block.r) ∧ W.cell? ⟨w.heap.size, 4, none⟩ = some (.int .i64 x.under.n) ∧ W.cell? ⟨w.heap.size, 5, none⟩ = some (.int .i64 x.under.r) ∧ W.cell? ⟨w.heap.size, 6, none⟩ = some (.string x.key)) w30 := ⟨keepB b30 s29.1, keepB b30 s29.2.1, keepB b30 s29.2.2.1, keepB b30 s29.2.2.2.1, keepB b30 s29.2.2.2.2.1, keepB b30 s29.2.2.2.2.2.1, keepB b30 s29.2.2.2.2.2.2⟩
        refine ⟨_, rfl, s30, ?_⟩
        try simp only [Act.put, List.setIfInBounds_toArray, List.set_cons_zero, List.set_cons_succ]
        refine held_take (i := 11) (d := (some 19)) rfl rfl (by kernel_rfl) (by kernel_rfl) (by kernel_rfl) (fun _ _ _ h => h) (.inl ⟨by rfl, fun W hW => by go_simp; rfl⟩) s30 ?_
        try simp only [Act.put, List.setIfInBounds_toArray, List.set_cons_zero, List.set_cons_succ]
        refine held_take (i := 12) (d := (some 31)) rfl rfl (by kernel_rfl) (by kernel_rfl) (by kernel_rfl) (fun _ _ _ h => h) (.inl ⟨by rfl, fun W hW => by go_simp; rfl⟩) s30 ?_
        try simp only [Act.put, List.setIfInBounds_toArray, List.set_cons_zero, List.set_cons_succ]
        refine held_take (i := 13) (d := (some 32)) rfl rfl (by kernel_rfl) (by kernel_rfl) (by kernel_rfl) (fun _ _ _ h => h) (.inl ⟨by rfl, fun W hW => by go_simp; rfl⟩) s30 ?_
        try simp only [Act.put, List.setIfInBounds_toArray, List.set_cons_zero, List.set_cons_succ]
        refine held_take (i := 14) (d := (some 5)) rfl rfl (by kernel_rfl) (by kernel_rfl) (by kernel_rfl) (fun _ _ _ h => h) (.inl ⟨by rfl, fun W hW => by go_simp; rfl⟩) s30 ?_
        try simp only [Act.put, List.setIfInBounds_toArray, List.set_cons_zero, List.set_cons_succ]
        refine held_take (i := 15) (d := (some 6)) rfl rfl (by kernel_rfl) (by kernel_rfl) (by kernel_rfl) (fun _ _ _ h => h) (.inl ⟨by rfl, fun W hW => by go_simp; rfl⟩) s30 ?_
        try simp only [Act.put, List.setIfInBounds_toArray, List.set_cons_zero, List.set_cons_succ]
        refine wpAnyH_done (by kernel_rfl) ?_ _
        go_wp2_with fail
        go_meet
        case rel => exact ⟨w29.heap.size, rfl, hT, hO, s30, z29, b29.trans (b30.mono b29.size)⟩
      · have sb : (fun W => W.cell? ⟨w.heap.size, 0, none⟩ = some (.int .i64 x.at_.n) ∧ W.cell? ⟨w.heap.size, 1, none⟩ = some (.int .i64 x.at_.r) ∧ W.cell? ⟨w.heap.size, 2, none⟩ = some (.int .i64 x.block.n) ∧ W.cell? ⟨w.heap.size, 3, none⟩ = some (.int .i64 x.block.r) ∧ W.cell? ⟨w.heap.size, 4, none⟩ = some (.int .i64 x.under.n) ∧ W.cell? ⟨w.heap.size, 5, none⟩ = some (.int .i64 x.under.r) ∧ W.cell? ⟨w.heap.size, 6, none⟩ = some (.string x.key)) (Wa.alloc (.cells #[.int .i64 x.at_.n, .int .i64 x.at_.r, .int .i64 x.block.n, .int .i64 x.block.r, .int .i64 x.under.n, .int .i64 x.under.r, .string x.key] 26)) := ⟨cell_alloc sa.1 _, cell_alloc sa.2.1 _, cell_alloc sa.2.2.1 _, cell_alloc sa.2.2.2.1 _, cell_alloc sa.2.2.2.2.1 _, cell_alloc sa.2.2.2.2.2.1 _, cell_alloc sa.2.2.2.2.2.2 _⟩
        have bb := ba.alloc ba.size (.cells #[.int .i64 x.at_.n, .int .i64 x.at_.r, .int .i64 x.block.n, .int .i64 x.block.r, .int .i64 x.under.n, .int .i64 x.under.r, .string x.key] 26)
        have zb : w.heap.size + 1 ≤ (Wa.alloc (.cells #[.int .i64 x.at_.n, .int .i64 x.at_.r, .int .i64 x.block.n, .int .i64 x.block.r, .int .i64 x.under.n, .int .i64 x.under.r, .string x.key] 26)).heap.size := by simp; omega
        have ob := oa.alloc (.cells #[.int .i64 x.at_.n, .int .i64 x.at_.r, .int .i64 x.block.n, .int .i64 x.block.r, .int .i64 x.under.n, .int .i64 x.under.r, .string x.key] 26)
        have one : SliceIs RMv.cells 7 (Wa.alloc (.cells #[.int .i64 x.at_.n, .int .i64 x.at_.r, .int .i64 x.block.n, .int .i64 x.block.r, .int .i64 x.under.n, .int .i64 x.under.r, .string x.key] 26)) (.slice (some ⟨Wa.heap.size, 0, none⟩) 1 1) [x] := SliceIs.one x _
        have hone := heap_alloc_new Wa (.cells #[.int .i64 x.at_.n, .int .i64 x.at_.r, .int .i64 x.block.n, .int .i64 x.block.r, .int .i64 x.under.n, .int .i64 x.under.r, .string x.key] 26)
        refine op_ran (i := 8) (d := (some 28)) rfl rfl (by rfl) (by go_simp; first | rfl | exact ⟨rfl, rfl⟩) ⟨sb, ?_⟩
        try simp only [Act.put, List.setIfInBounds_toArray, List.set_cons_zero, List.set_cons_succ]
        have nne : ∀ b, (Value.slice (some ⟨na, 0, none⟩) 0 0).ownBlock = some b → b ≠ Wa.heap.size := fun b hb e => by have := (oa.blk b hb).2; omega
        generalize Wa.alloc (.cells #[.int .i64 x.at_.n, .int .i64 x.at_.r, .int .i64 x.block.n, .int .i64 x.block.r, .int .i64 x.under.n, .int .i64 x.under.r, .string x.key] 26) = Wb at *
        generalize Wa.heap.size = nb at *
        obtain ⟨v26, w26, hr6, o26, x26⟩ := append_structs (P := Try.prog) 22 22 i0 (.agg #[.int .i64 0, .int .i64 0, .int .i64 0, .int .i64 0, .int .i64 0, .int .i64 0, .string ⟨#[]⟩]) 64 Try.underlying22 hi hi0 hi1 hi2 rfl (by omega) RMv.len RMv.one ob (HV.out _ bb) (by rw [hl59]; unfold maxLen; simp; omega) (by rw [hl59]; simp; omega) zb
        have b26 := Ext.add bb x26 (fun i hi => by have := (ob.blk i hi).1; omega) (by have := zb; omega)
        have z26 : w.heap.size + 1 ≤ w26.heap.size := Nat.le_trans zb x26.size
        have s26 : (fun W => W.cell? ⟨w.heap.size, 0, none⟩ = some (.int .i64 x.at_.n) ∧ W.cell? ⟨w.heap.size, 1, none⟩ = some (.int .i64 x.at_.r) ∧ W.cell? ⟨w.heap.size, 2, none⟩ = some (.int .i64 x.block.n) ∧ W.cell? ⟨w.heap.size, 3, none⟩ = some (.int .i64 x.block.r) ∧ W.cell? ⟨w.heap.size, 4, none⟩ = some (.int .i64 x.under.n) ∧ W.cell? ⟨w.heap.size, 5, none⟩ = some (.int .i64 x.under.r) ∧ W.cell? ⟨w.heap.size, 6, none⟩ = some (.string x.key)) w26 := ⟨x26.keep sb.1 (fun e => by have := (ob.blk _ e).1; omega), x26.keep sb.2.1 (fun e => by have := (ob.blk _ e).1; omega), x26.keep sb.2.2.1 (fun e => by have := (ob.blk _ e).1; omega), x26.keep sb.2.2.2.1 (fun e => by have := (ob.blk _ e).1; omega), x26.keep sb.2.2.2.2.1 (fun e => by have := (ob.blk _ e).1; omega), x26.keep sb.2.2.2.2.2.1 (fun e => by have := (ob.blk _ e).1; omega), x26.keep sb.2.2.2.2.2.2 (fun e => by have := (ob.blk _ e).1; omega)⟩
        have two : SliceIs RMv.cells 7 w26 (.slice (some ⟨nb, 0, none⟩) 1 1) [x] := one.ext x26 (fun b o n cap e1 e2 => by cases e1; exact nne _ e2 rfl)
        refine held_one (i := 6) (by kernel_rfl) (op_append rfl rfl (d := (some 26)) rfl (by rfl) rfl rfl hr6 ⟨s26, ?_⟩)
        try simp only [Act.put, List.setIfInBounds_toArray, List.set_cons_zero, List.set_cons_succ]
        obtain ⟨v29, w29, hr9, o29, x29⟩ := append_structs (P := Try.prog) 22 22 i0 (.agg #[.int .i64 0, .int .i64 0, .int .i64 0, .int .i64 0, .int .i64 0, .int .i64 0, .string ⟨#[]⟩]) 64 Try.underlying22 hi hi0 hi1 hi2 rfl (by omega) RMv.len RMv.one o26 two (by rw [List.nil_append, hl59]; unfold maxLen; simp; omega) (by rw [List.nil_append, hl59]; simp; omega) z26
        have b29 := Ext.add b26 x29 (fun i hi => by have := (o26.blk i hi).1; omega) (by have := z26; omega)
        have z29 : w.heap.size + 1 ≤ w29.heap.size := Nat.le_trans z26 x29.size
        have s29 : (fun W => W.cell? ⟨w.heap.size, 0, none⟩ = some (.int .i64 x.at_.n) ∧ W.cell? ⟨w.heap.size, 1, none⟩ = some (.int .i64 x.at_.r) ∧ W.cell? ⟨w.heap.size, 2, none⟩ = some (.int .i64 x.block.n) ∧ W.cell? ⟨w.heap.size, 3, none⟩ = some (.int .i64 x.block.r) ∧ W.cell? ⟨w.heap.size, 4, none⟩ = some (.int .i64 x.under.n) ∧ W.cell? ⟨w.heap.size, 5, none⟩ = some (.int .i64 x.under.r) ∧ W.cell? ⟨w.heap.size, 6, none⟩ = some (.string x.key)) w29 := ⟨x29.keep s26.1 (fun e => by have := (o26.blk _ e).1; omega), x29.keep s26.2.1 (fun e => by have := (o26.blk _ e).1; omega), x29.keep s26.2.2.1 (fun e => by have := (o26.blk _ e).1; omega), x29.keep s26.2.2.2.1 (fun e => by have := (o26.blk _ e).1; omega), x29.keep s26.2.2.2.2.1 (fun e => by have := (o26.blk _ e).1; omega), x29.keep s26.2.2.2.2.2.1 (fun e => by have := (o26.blk _ e).1; omega), x29.keep s26.2.2.2.2.2.2 (fun e => by have := (o26.blk _ e).1; omega)⟩
        refine held_one (i := 9) (by kernel_rfl) (op_append rfl rfl (d := (some 29)) rfl (by rfl) rfl rfl hr9 ⟨s29, ?_⟩)
        try simp only [Act.put, List.setIfInBounds_toArray, List.set_cons_zero, List.set_cons_succ]
        rw [List.nil_append] at o29
        refine held_call (i := 10) (d := (some 30)) (by kernel_rfl) rfl rfl (by rfl) (by go_simp; first | rfl | exact ⟨rfl, rfl⟩ | exact ⟨⟨rfl, rfl⟩, rfl⟩) ?_
        refine (HMV.out _ _ (o29.slice RMv.len)).mono ?_
        rintro e w30 ⟨vo, rfl, hT, hO, b30⟩
        have s30 : (fun W => W.cell? ⟨w.heap.size, 0, none⟩ = some (.int .i64 x.at_.n) ∧ W.cell? ⟨w.heap.size, 1, none⟩ = some (.int .i64 x.at_.r) ∧ W.cell? ⟨w.heap.size, 2, none⟩ = some (.int .i64 x.block.n) ∧ W.cell? ⟨w.heap.size, 3, none⟩ = some (.int .i64 x.block.r) ∧ W.cell? ⟨w.heap.size, 4, none⟩ = some (.int .i64 x.under.n) ∧ W.cell? ⟨w.heap.size, 5, none⟩ = some (.int .i64 x.under.r) ∧ W.cell? ⟨w.heap.size, 6, none⟩ = some (.string x.key)) w30 := ⟨keepB b30 s29.1, keepB b30 s29.2.1, keepB b30 s29.2.2.1, keepB b30 s29.2.2.2.1, keepB b30 s29.2.2.2.2.1, keepB b30 s29.2.2.2.2.2.1, keepB b30 s29.2.2.2.2.2.2⟩
        refine ⟨_, rfl, s30, ?_⟩
        try simp only [Act.put, List.setIfInBounds_toArray, List.set_cons_zero, List.set_cons_succ]
        refine held_take (i := 11) (d := (some 19)) rfl rfl (by kernel_rfl) (by kernel_rfl) (by kernel_rfl) (fun _ _ _ h => h) (.inl ⟨by rfl, fun W hW => by go_simp; rfl⟩) s30 ?_
        try simp only [Act.put, List.setIfInBounds_toArray, List.set_cons_zero, List.set_cons_succ]
        refine held_take (i := 12) (d := (some 31)) rfl rfl (by kernel_rfl) (by kernel_rfl) (by kernel_rfl) (fun _ _ _ h => h) (.inl ⟨by rfl, fun W hW => by go_simp; rfl⟩) s30 ?_
        try simp only [Act.put, List.setIfInBounds_toArray, List.set_cons_zero, List.set_cons_succ]
        refine held_take (i := 13) (d := (some 32)) rfl rfl (by kernel_rfl) (by kernel_rfl) (by kernel_rfl) (fun _ _ _ h => h) (.inl ⟨by rfl, fun W hW => by go_simp; rfl⟩) s30 ?_
        try simp only [Act.put, List.setIfInBounds_toArray, List.set_cons_zero, List.set_cons_succ]
        refine held_take (i := 14) (d := (some 5)) rfl rfl (by kernel_rfl) (by kernel_rfl) (by kernel_rfl) (fun _ _ _ h => h) (.inl ⟨by rfl, fun W hW => by go_simp; rfl⟩) s30 ?_
        try simp only [Act.put, List.setIfInBounds_toArray, List.set_cons_zero, List.set_cons_succ]
        refine held_take (i := 15) (d := (some 6)) rfl rfl (by kernel_rfl) (by kernel_rfl) (by kernel_rfl) (fun _ _ _ h => h) (.inl ⟨by rfl, fun W hW => by go_simp; rfl⟩) s30 ?_
        try simp only [Act.put, List.setIfInBounds_toArray, List.set_cons_zero, List.set_cons_succ]
        refine wpAnyH_done (by kernel_rfl) ?_ _
        go_wp2_with fail
        go_meet
        case rel => exact ⟨w29.heap.size, rfl, hT, hO, s30, z29, b29.trans (b30.mono b29.size)⟩
    · have sa : (fun W => W.cell? ⟨w.heap.size, 0, none⟩ = some (.int .i64 x.at_.n) ∧ W.cell? ⟨w.heap.size, 1, none⟩ = some (.int .i64 x.at_.r) ∧ W.cell? ⟨w.heap.size, 2, none⟩ = some (.int .i64 x.block.n) ∧ W.cell? ⟨w.heap.size, 3, none⟩ = some (.int .i64 x.block.r) ∧ W.cell? ⟨w.heap.size, 4, none⟩ = some (.int .i64 x.under.n) ∧ W.cell? ⟨w.heap.size, 5, none⟩ = some (.int .i64 x.under.r) ∧ W.cell? ⟨w.heap.size, 6, none⟩ = some (.string x.key)) (W1.alloc (.cells #[.int .i64 x.at_.n, .int .i64 x.at_.r, .int .i64 x.block.n, .int .i64 x.block.r, .int .i64 x.under.n, .int .i64 x.under.r, .string x.key] 26)) := ⟨cell_alloc hS0.1 _, cell_alloc hS0.2.1 _, cell_alloc hS0.2.2.1 _, cell_alloc hS0.2.2.2.1 _, cell_alloc hS0.2.2.2.2.1 _, cell_alloc hS0.2.2.2.2.2.1 _, cell_alloc hS0.2.2.2.2.2.2 _⟩
      have ba := b00.alloc b00.size (.cells #[.int .i64 x.at_.n, .int .i64 x.at_.r, .int .i64 x.block.n, .int .i64 x.block.r, .int .i64 x.under.n, .int .i64 x.under.r, .string x.key] 26)
      have za : w.heap.size + 1 ≤ (W1.alloc (.cells #[.int .i64 x.at_.n, .int .i64 x.at_.r, .int .i64 x.block.n, .int .i64 x.block.r, .int .i64 x.under.n, .int .i64 x.under.r, .string x.key] 26)).heap.size := by simp; omega
      have one : SliceIs RMv.cells 7 (W1.alloc (.cells #[.int .i64 x.at_.n, .int .i64 x.at_.r, .int .i64 x.block.n, .int .i64 x.block.r, .int .i64 x.under.n, .int .i64 x.under.r, .string x.key] 26)) (.slice (some ⟨W1.heap.size, 0, none⟩) 1 1) [x] := SliceIs.one x _
      have nlt : W1.heap.size < (W1.alloc (.cells #[.int .i64 x.at_.n, .int .i64 x.at_.r, .int .i64 x.block.n, .int .i64 x.block.r, .int .i64 x.under.n, .int .i64 x.under.r, .string x.key] 26)).heap.size := by simp
      refine op_ran (i := 8) (d := (some 28)) rfl rfl (by rfl) (by go_simp; first | rfl | exact ⟨rfl, rfl⟩) ⟨sa, ?_⟩
      try simp only [Act.put, List.setIfInBounds_toArray, List.set_cons_zero, List.set_cons_succ]
      generalize W1.alloc (.cells #[.int .i64 x.at_.n, .int .i64 x.at_.r, .int .i64 x.block.n, .int .i64 x.block.r, .int .i64 x.under.n, .int .i64 x.under.r, .string x.key] 26) = Wa at *
      generalize W1.heap.size = na at *
      have sb : (fun W => W.cell? ⟨w.heap.size, 0, none⟩ = some (.int .i64 x.at_.n) ∧ W.cell? ⟨w.heap.size, 1, none⟩ = some (.int .i64 x.at_.r) ∧ W.cell? ⟨w.heap.size, 2, none⟩ = some (.int .i64 x.block.n) ∧ W.cell? ⟨w.heap.size, 3, none⟩ = some (.int .i64 x.block.r) ∧ W.cell? ⟨w.heap.size, 4, none⟩ = some (.int .i64 x.under.n) ∧ W.cell? ⟨w.heap.size, 5, none⟩ = some (.int .i64 x.under.r) ∧ W.cell? ⟨w.heap.size, 6, none⟩ = some (.string x.key)) (Wa.alloc (.cells #[] 26)) := ⟨cell_alloc sa.1 _, cell_alloc sa.2.1 _, cell_alloc sa.2.2.1 _, cell_alloc sa.2.2.2.1 _, cell_alloc sa.2.2.2.2.1 _, cell_alloc sa.2.2.2.2.2.1 _, cell_alloc sa.2.2.2.2.2.2 _⟩
      have ob : Own RMv.cells 7 26 (w.heap.size + 1) (Wa.alloc (.cells #[] 26)) (.slice (some ⟨Wa.heap.size, 0, none⟩) 0 0) [] := Own.empty RMv.cells 7 26 za
      have bb := ba.alloc ba.size (.cells #[] 26)
      have zb : w.heap.size + 1 ≤ (Wa.alloc (.cells #[] 26)).heap.size := by simp; omega
      have one2 := one.below ((Below.refl _ _).alloc (Nat.le_refl _) (.cells #[] 26))
      refine held_one (i := 0) (by kernel_rfl) (op_ran (d := (some 20)) rfl rfl (by rfl) (by go_simp; first | rfl | exact ⟨rfl, rfl⟩) ⟨sb, ?_⟩)
      try simp only [Act.put, List.setIfInBounds_toArray, List.set_cons_zero, List.set_cons_succ]
      generalize Wa.alloc (.cells #[] 26) = Wb at *
      generalize Wa.heap.size = nb at *
      obtain ⟨v26, w26, hr6, o26, x26⟩ := append_structs (P := Try.prog) 22 22 i0 (.agg #[.int .i64 0, .int .i64 0, .int .i64 0, .int .i64 0, .int .i64 0, .int .i64 0, .string ⟨#[]⟩]) 64 Try.underlying22 hi hi0 hi1 hi2 rfl (by omega) RMv.len RMv.one ob (HV.out _ bb) (by rw [hl59]; unfold maxLen; simp; omega) (by rw [hl59]; simp; omega) zb
      have b26 := Ext.add bb x26 (fun i hi => by have := (ob.blk i hi).1; omega) (by have := zb; omega)
      have z26 : w.heap.size + 1 ≤ w26.heap.size := Nat.le_trans zb x26.size
      have s26 : (fun W => W.cell? ⟨w.heap.size, 0, none⟩ = some (.int .i64 x.at_.n) ∧ W.cell? ⟨w.heap.size, 1, none⟩ = some (.int .i64 x.at_.r) ∧ W.cell? ⟨w.heap.size, 2, none⟩ = some (.int .i64 x.block.n) ∧ W.cell? ⟨w.heap.size, 3, none⟩ = some (.int .i64 x.block.r) ∧ W.cell? ⟨w.heap.size, 4, none⟩ = some (.int .i64 x.under.n) ∧ W.cell? ⟨w.heap.size, 5, none⟩ = some (.int .i64 x.under.r) ∧ W.cell? ⟨w.heap.size, 6, none⟩ = some (.string x.key)) w26 := ⟨x26.keep sb.1 (fun e => by have := (ob.blk _ e).1; omega), x26.keep sb.2.1 (fun e => by have := (ob.blk _ e).1; omega), x26.keep sb.2.2.1 (fun e => by have := (ob.blk _ e).1; omega), x26.keep sb.2.2.2.1 (fun e => by have := (ob.blk _ e).1; omega), x26.keep sb.2.2.2.2.1 (fun e => by have := (ob.blk _ e).1; omega), x26.keep sb.2.2.2.2.2.1 (fun e => by have := (ob.blk _ e).1; omega), x26.keep sb.2.2.2.2.2.2 (fun e => by have := (ob.blk _ e).1; omega)⟩
      have two : SliceIs RMv.cells 7 w26 (.slice (some ⟨na, 0, none⟩) 1 1) [x] := one2.ext x26 (fun b o n cap e1 e2 => by cases e1; cases e2; exact Nat.lt_irrefl _ nlt)
      refine held_one (i := 6) (by kernel_rfl) (op_append rfl rfl (d := (some 26)) rfl (by rfl) rfl rfl hr6 ⟨s26, ?_⟩)
      try simp only [Act.put, List.setIfInBounds_toArray, List.set_cons_zero, List.set_cons_succ]
      obtain ⟨v29, w29, hr9, o29, x29⟩ := append_structs (P := Try.prog) 22 22 i0 (.agg #[.int .i64 0, .int .i64 0, .int .i64 0, .int .i64 0, .int .i64 0, .int .i64 0, .string ⟨#[]⟩]) 64 Try.underlying22 hi hi0 hi1 hi2 rfl (by omega) RMv.len RMv.one o26 two (by rw [List.nil_append, hl59]; unfold maxLen; simp; omega) (by rw [List.nil_append, hl59]; simp; omega) z26
      have b29 := Ext.add b26 x29 (fun i hi => by have := (o26.blk i hi).1; omega) (by have := z26; omega)
      have z29 : w.heap.size + 1 ≤ w29.heap.size := Nat.le_trans z26 x29.size
      have s29 : (fun W => W.cell? ⟨w.heap.size, 0, none⟩ = some (.int .i64 x.at_.n) ∧ W.cell? ⟨w.heap.size, 1, none⟩ = some (.int .i64 x.at_.r) ∧ W.cell? ⟨w.heap.size, 2, none⟩ = some (.int .i64 x.block.n) ∧ W.cell? ⟨w.heap.size, 3, none⟩ = some (.int .i64 x.block.r) ∧ W.cell? ⟨w.heap.size, 4, none⟩ = some (.int .i64 x.under.n) ∧ W.cell? ⟨w.heap.size, 5, none⟩ = some (.int .i64 x.under.r) ∧ W.cell? ⟨w.heap.size, 6, none⟩ = some (.string x.key)) w29 := ⟨x29.keep s26.1 (fun e => by have := (o26.blk _ e).1; omega), x29.keep s26.2.1 (fun e => by have := (o26.blk _ e).1; omega), x29.keep s26.2.2.1 (fun e => by have := (o26.blk _ e).1; omega), x29.keep s26.2.2.2.1 (fun e => by have := (o26.blk _ e).1; omega), x29.keep s26.2.2.2.2.1 (fun e => by have := (o26.blk _ e).1; omega), x29.keep s26.2.2.2.2.2.1 (fun e => by have := (o26.blk _ e).1; omega), x29.keep s26.2.2.2.2.2.2 (fun e => by have := (o26.blk _ e).1; omega)⟩
      refine held_one (i := 9) (by kernel_rfl) (op_append rfl rfl (d := (some 29)) rfl (by rfl) rfl rfl hr9 ⟨s29, ?_⟩)
      try simp only [Act.put, List.setIfInBounds_toArray, List.set_cons_zero, List.set_cons_succ]
      rw [List.nil_append] at o29
      refine held_call (i := 10) (d := (some 30)) (by kernel_rfl) rfl rfl (by rfl) (by go_simp; first | rfl | exact ⟨rfl, rfl⟩ | exact ⟨⟨rfl, rfl⟩, rfl⟩) ?_
      refine (HMV.out _ _ (o29.slice RMv.len)).mono ?_
      rintro e w30 ⟨vo, rfl, hT, hO, b30⟩
      have s30 : (fun W => W.cell? ⟨w.heap.size, 0, none⟩ = some (.int .i64 x.at_.n) ∧ W.cell? ⟨w.heap.size, 1, none⟩ = some (.int .i64 x.at_.r) ∧ W.cell? ⟨w.heap.size, 2, none⟩ = some (.int .i64 x.block.n) ∧ W.cell? ⟨w.heap.size, 3, none⟩ = some (.int .i64 x.block.r) ∧ W.cell? ⟨w.heap.size, 4, none⟩ = some (.int .i64 x.under.n) ∧ W.cell? ⟨w.heap.size, 5, none⟩ = some (.int .i64 x.under.r) ∧ W.cell? ⟨w.heap.size, 6, none⟩ = some (.string x.key)) w30 := ⟨keepB b30 s29.1, keepB b30 s29.2.1, keepB b30 s29.2.2.1, keepB b30 s29.2.2.2.1, keepB b30 s29.2.2.2.2.1, keepB b30 s29.2.2.2.2.2.1, keepB b30 s29.2.2.2.2.2.2⟩
      refine ⟨_, rfl, s30, ?_⟩
      try simp only [Act.put, List.setIfInBounds_toArray, List.set_cons_zero, List.set_cons_succ]
      refine held_take (i := 11) (d := (some 19)) rfl rfl (by kernel_rfl) (by kernel_rfl) (by kernel_rfl) (fun _ _ _ h => h) (.inl ⟨by rfl, fun W hW => by go_simp; rfl⟩) s30 ?_
      try simp only [Act.put, List.setIfInBounds_toArray, List.set_cons_zero, List.set_cons_succ]
      refine held_take (i := 12) (d := (some 31)) rfl rfl (by kernel_rfl) (by kernel_rfl) (by kernel_rfl) (fun _ _ _ h => h) (.inl ⟨by rfl, fun W hW => by go_simp; rfl⟩) s30 ?_
      try simp only [Act.put, List.setIfInBounds_toArray, List.set_cons_zero, List.set_cons_succ]
      refine held_take (i := 13) (d := (some 32)) rfl rfl (by kernel_rfl) (by kernel_rfl) (by kernel_rfl) (fun _ _ _ h => h) (.inl ⟨by rfl, fun W hW => by go_simp; rfl⟩) s30 ?_
      try simp only [Act.put, List.setIfInBounds_toArray, List.set_cons_zero, List.set_cons_succ]
      refine held_take (i := 14) (d := (some 5)) rfl rfl (by kernel_rfl) (by kernel_rfl) (by kernel_rfl) (fun _ _ _ h => h) (.inl ⟨by rfl, fun W hW => by go_simp; rfl⟩) s30 ?_
      try simp only [Act.put, List.setIfInBounds_toArray, List.set_cons_zero, List.set_cons_succ]
      refine held_take (i := 15) (d := (some 6)) rfl rfl (by kernel_rfl) (by kernel_rfl) (by kernel_rfl) (fun _ _ _ h => h) (.inl ⟨by rfl, fun W hW => by go_simp; rfl⟩) s30 ?_
      try simp only [Act.put, List.setIfInBounds_toArray, List.set_cons_zero, List.set_cons_succ]
      refine wpAnyH_done (by kernel_rfl) ?_ _
      go_wp2_with fail
      go_meet
      case rel => exact ⟨w29.heap.size, rfl, hT, hO, s30, z29, b29.trans (b30.mono b29.size)⟩
  case rest =>
    obtain ⟨B, rfl, hT, hO, hbx, hBB, hB⟩ := hcut
    clear HMV HV hl59 hi hi0 hi1 hi2 hKl hK59 hmin hKv hv hb0 bx hz0
    obtain ⟨aa, ac, hve, hacap, hamax, _⟩ := hO.slice RMv.len
    subst hve
    unfold maxLen at hamax
    go_wp2_with fail
    refine (alive_any _).mono ?_
    rintro e w2 ⟨rfl, b2⟩
    replace hT := hT.below b2
    have hS := (hO.slice RMv.len).below b2
    replace hbx := hbx.below b2
    replace hB := hB.trans (b2.mono hB.size)
    clear b2 hO
    go_wp2_with fail
    refine (new_tree _).mono ?_
    rintro e w3 ⟨rfl, hU, b3, z3⟩
    have HT := Lib.hid hT
    have HS := Lib.hid hS
    have HBX := Lib.hid hbx
    have HB := Lib.hid hB
    clear hT hS hbx hB z3
    obtain ⟨U, hUe⟩ : ∃ U, U = w2.heap.size := ⟨_, rfl⟩
    rw [← hUe] at hU ⊢
    have HUE := Lib.hid hUe
    clear hUe
    go_wp2_with fail
    go_loopg [8, 9] all.length (fun g nv iv wx => ∃ (i : Nat) (q : Bool), g = all.length - i ∧ i ≤ all.length ∧ nv = .bool q ∧ iv = .int .i64 i ∧ Hid (q = true ↔ x ∈ all.take i) ∧ TreeHas U wx (U + 1) U (addAll (lessL (all.take i) x.at_)).1 ∧ Below w2.heap.size w2 wx)
    case atStart => exact ⟨0, false, rfl, Nat.zero_le _, rfl, rfl, by show _ ↔ _; simp, by rw [List.take_zero]; exact hU, b3⟩
    case round =>
      clear hU b3
      obtain ⟨i, q, hg, hil, rfl, rfl, hq, hU, hB⟩ := hrel
      have HG := Lib.hid hg
      have HQ := Lib.hid hq
      clear hg hq
      by_cases hlt : i < all.length
      · obtain ⟨y, hy⟩ : ∃ y, all[i]? = some y := ⟨_, List.getElem?_eq_getElem (by omega)⟩
        obtain ⟨b, o, _, hve, hcs⟩ := HS.out.rcells (by intro e; rw [e] at hlt; simp at hlt)
        cases hve
        have hya := hcs i y hy
        have hbU : b < U := by rw [HUE.out]; exact cell_lt hya.1
        have hxU : w.heap.size < U := by rw [HUE.out]; exact cell_lt HBX.out.1
        obtain ⟨y0, y1, y2, y3, y4, y5, y6⟩ := hya.below hB
        obtain ⟨x0, x1, x2, x3, x4, x5, x6⟩ := HBX.out.below hB
        have HTK := Lib.hid (take_snoc14 hy)
        have hcm := fun (W : World) => compare_any y.at_.n y.at_.r x.at_.n x.at_.r W
        have hlt0 := cmpS_lt y.at_ x.at_
        have hlen2 := addAll_len (lessL (all.take i) x.at_)
        have hlen3 := lessL_length (all.take i) x.at_
        rw [List.length_take] at hlen3
        have hll : (addAll (lessL (all.take i) x.at_)).1.length ≤ 60 := by omega
        have HCS := Lib.hid hcs
        have HYA := Lib.hid hya
        have HY := Lib.hid hy
        clear hcs hya hy hlen2 hlen3
        by_cases hst : stLt y.at_ x.at_
        · have hneg : cmpS ⟨y.at_.n, y.at_.r⟩ ⟨x.at_.n, x.at_.r⟩ < 0 := hlt0.2 hst
          have hM := fun (W : World) (h : TreeHas U W (U + 1) U (addAll (lessL (all.take i) x.at_)).1) (hw : U ≤ W.heap.size) => move_any (U + 1) y.at_ y.block y.under y.key W h hw (by omega)
          have HM := Lib.hid hM
          have HST := Lib.hid hst
          clear hst hlt0 hM hll
          generalize cmpS ⟨y.at_.n, y.at_.r⟩ ⟨x.at_.n, x.at_.r⟩ = cq at *
          have HCM := Lib.hid hcm
          clear hcm
          go_wp2_with fail
          have hS0 : (fun W => W.cell? ⟨b, o + i * 7, none⟩ = some (.int .i64 y.at_.n) ∧ W.cell? ⟨b, o + i * 7 + 1, none⟩ = some (.int .i64 y.at_.r) ∧ W.cell? ⟨w.heap.size, 0, none⟩ = some (.int .i64 x.at_.n) ∧ W.cell? ⟨w.heap.size, 1, none⟩ = some (.int .i64 x.at_.r)) wr.drew := ⟨y0, y1, x0, x1⟩
          refine wp_region_held_drew (S := (fun W => W.cell? ⟨b, o + i * 7, none⟩ = some (.int .i64 y.at_.n) ∧ W.cell? ⟨b, o + i * 7 + 1, none⟩ = some (.int .i64 y.at_.r) ∧ W.cell? ⟨w.heap.size, 0, none⟩ = some (.int .i64 x.at_.n) ∧ W.cell? ⟨w.heap.size, 1, none⟩ = some (.int .i64 x.at_.r))) (by kernel_rfl) hS0 (fun _ => ?_)
          refine held_take (i := 0) (d := (some 48)) rfl rfl (by kernel_rfl) (by kernel_rfl) (by kernel_rfl) (fun _ _ _ h => h) (.inl ⟨by rfl, fun W hW => by go_simp; rfl⟩) hS0 ?_
          try simp only [Act.put, List.setIfInBounds_toArray, List.set_cons_zero, List.set_cons_succ]
          refine held_take (i := 1) (d := (some 49)) rfl rfl (by kernel_rfl) (by kernel_rfl) (by kernel_rfl) (fun _ _ _ h => h) (.inl ⟨by rfl, fun W hW => by go_simp; rfl⟩) hS0 ?_
          try simp only [Act.put, List.setIfInBounds_toArray, List.set_cons_zero, List.set_cons_succ]
          refine held_take (i := 2) (d := (some 50)) rfl rfl (by kernel_rfl) (by kernel_rfl) (by kernel_rfl) (fun _ _ _ h => h) (.inl ⟨by rfl, fun W hW => by go_simp; rfl⟩) hS0 ?_
          try simp only [Act.put, List.setIfInBounds_toArray, List.set_cons_zero, List.set_cons_succ]
          refine held_take (i := 3) (d := (some 51)) rfl rfl (by kernel_rfl) (by kernel_rfl) (by kernel_rfl) (fun _ _ _ h => h) (.inl ⟨by rfl, fun W hW => by go_simp; rfl⟩) hS0 ?_
          try simp only [Act.put, List.setIfInBounds_toArray, List.set_cons_zero, List.set_cons_succ]
          refine held_take (i := 4) (d := (some 52)) rfl rfl (by kernel_rfl) (by kernel_rfl) (by kernel_rfl) (fun _ _ _ h => h) (.inl ⟨by rfl, fun W hW => by obtain ⟨q0, q1, q2, q3⟩ := hW; go_simp; rfl⟩) hS0 ?_
          try simp only [Act.put, List.setIfInBounds_toArray, List.set_cons_zero, List.set_cons_succ]
          refine held_take (i := 5) (d := (some 53)) rfl rfl (by kernel_rfl) (by kernel_rfl) (by kernel_rfl) (fun _ _ _ h => h) (.inl ⟨by rfl, fun W hW => by go_simp; rfl⟩) hS0 ?_
          try simp only [Act.put, List.setIfInBounds_toArray, List.set_cons_zero, List.set_cons_succ]
          refine held_take (i := 6) (d := (some 54)) rfl rfl (by kernel_rfl) (by kernel_rfl) (by kernel_rfl) (fun _ _ _ h => h) (.inl ⟨by rfl, fun W hW => by obtain ⟨q0, q1, q2, q3⟩ := hW; go_simp; rfl⟩) hS0 ?_
          try simp only [Act.put, List.setIfInBounds_toArray, List.set_cons_zero, List.set_cons_succ]
          refine held_call (i := 7) (d := (some 55)) (by kernel_rfl) rfl rfl (by rfl) (by go_simp; first | rfl | exact ⟨rfl, rfl⟩ | exact ⟨⟨rfl, rfl⟩, rfl⟩) ?_
          refine (HCM.out _).mono ?_
          rintro e w5 ⟨rfl, b5⟩
          simp only [heap_drew, below_drew] at b5
          have hS5 : (fun W => W.cell? ⟨b, o + i * 7, none⟩ = some (.int .i64 y.at_.n) ∧ W.cell? ⟨b, o + i * 7 + 1, none⟩ = some (.int .i64 y.at_.r) ∧ W.cell? ⟨w.heap.size, 0, none⟩ = some (.int .i64 x.at_.n) ∧ W.cell? ⟨w.heap.size, 1, none⟩ = some (.int .i64 x.at_.r)) w5 := ⟨keepB b5 y0, keepB b5 y1, keepB b5 x0, keepB b5 x1⟩
          refine ⟨_, rfl, hS5, ?_⟩
          try simp only [Act.put, List.setIfInBounds_toArray, List.set_cons_zero, List.set_cons_succ]
          refine held_take (i := 8) (d := (some 56)) rfl rfl (by kernel_rfl) (by kernel_rfl) (by kernel_rfl) (fun _ _ _ h => h) (.inl ⟨by rfl, fun W hW => by go_simp; rfl⟩) hS5 ?_
          try simp only [Act.put, List.setIfInBounds_toArray, List.set_cons_zero, List.set_cons_succ]
          refine wpAnyH_done (by kernel_rfl) ?_ _
          replace hU := hU.below b5
          replace hB := hB.trans (b5.mono hB.size)
          clear hS0 hS5
          replace y0 := keepB b5 y0
          replace y1 := keepB b5 y1
          replace y2 := keepB b5 y2
          replace y3 := keepB b5 y3
          replace y4 := keepB b5 y4
          replace y5 := keepB b5 y5
          replace y6 := keepB b5 y6
          replace x0 := keepB b5 x0
          replace x1 := keepB b5 x1
          replace x2 := keepB b5 x2
          replace x3 := keepB b5 x3
          replace x4 := keepB b5 x4
          replace x5 := keepB b5 x5
          replace x6 := keepB b5 x6
          clear b5
          go_wp2_with fail
          have hS0 : (fun W => W.cell? ⟨b, o + i * 7, none⟩ = some (.int .i64 y.at_.n) ∧ W.cell? ⟨b, o + i * 7 + 1, none⟩ = some (.int .i64 y.at_.r) ∧ W.cell? ⟨b, o + i * 7 + 2, none⟩ = some (.int .i64 y.block.n) ∧ W.cell? ⟨b, o + i * 7 + 3, none⟩ = some (.int .i64 y.block.r) ∧ W.cell? ⟨b, o + i * 7 + 4, none⟩ = some (.int .i64 y.under.n) ∧ W.cell? ⟨b, o + i * 7 + 5, none⟩ = some (.int .i64 y.under.r) ∧ W.cell? ⟨b, o + i * 7 + 6, none⟩ = some (.string y.key)) w5.drew := ⟨y0, y1, y2, y3, y4, y5, y6⟩
          have hwd : U ≤ w5.drew.heap.size := by rw [HUE.out]; exact hB.size
          have hnt : ∀ k, k < U → ¬ Touch U w5 (U + 1) U k := fun k hk => by rintro (h | h | ⟨h, _⟩) <;> omega
          refine wp_region_held_drew (S := (fun W => W.cell? ⟨b, o + i * 7, none⟩ = some (.int .i64 y.at_.n) ∧ W.cell? ⟨b, o + i * 7 + 1, none⟩ = some (.int .i64 y.at_.r) ∧ W.cell? ⟨b, o + i * 7 + 2, none⟩ = some (.int .i64 y.block.n) ∧ W.cell? ⟨b, o + i * 7 + 3, none⟩ = some (.int .i64 y.block.r) ∧ W.cell? ⟨b, o + i * 7 + 4, none⟩ = some (.int .i64 y.under.n) ∧ W.cell? ⟨b, o + i * 7 + 5, none⟩ = some (.int .i64 y.under.r) ∧ W.cell? ⟨b, o + i * 7 + 6, none⟩ = some (.string y.key))) (by kernel_rfl) hS0 (fun _ => ?_)
          refine held_take (i := 0) (d := (some 57)) rfl rfl (by kernel_rfl) (by kernel_rfl) (by kernel_rfl) (fun _ _ _ h => h) (.inl ⟨by rfl, fun W hW => by go_simp; rfl⟩) hS0 ?_
          try simp only [Act.put, List.setIfInBounds_toArray, List.set_cons_zero, List.set_cons_succ]
          refine held_take (i := 1) (d := (some 58)) rfl rfl (by kernel_rfl) (by kernel_rfl) (by kernel_rfl) (fun _ _ _ h => h) (.inl ⟨by rfl, fun W hW => by go_simp; rfl⟩) hS0 ?_
          try simp only [Act.put, List.setIfInBounds_toArray, List.set_cons_zero, List.set_cons_succ]
          refine held_take (i := 2) (d := (some 59)) rfl rfl (by kernel_rfl) (by kernel_rfl) (by kernel_rfl) (fun _ _ _ h => h) (.inl ⟨by rfl, fun W hW => by go_simp; rfl⟩) hS0 ?_
          try simp only [Act.put, List.setIfInBounds_toArray, List.set_cons_zero, List.set_cons_succ]
          refine held_take (i := 3) (d := (some 60)) rfl rfl (by kernel_rfl) (by kernel_rfl) (by kernel_rfl) (fun _ _ _ h => h) (.inl ⟨by rfl, fun W hW => by go_simp; rfl⟩) hS0 ?_
          try simp only [Act.put, List.setIfInBounds_toArray, List.set_cons_zero, List.set_cons_succ]
          refine held_take (i := 4) (d := (some 61)) rfl rfl (by kernel_rfl) (by kernel_rfl) (by kernel_rfl) (fun _ _ _ h => h) (.inl ⟨by rfl, fun W hW => by go_simp; rfl⟩) hS0 ?_
          try simp only [Act.put, List.setIfInBounds_toArray, List.set_cons_zero, List.set_cons_succ]
          refine held_take (i := 5) (d := (some 62)) rfl rfl (by kernel_rfl) (by kernel_rfl) (by kernel_rfl) (fun _ _ _ h => h) (.inl ⟨by rfl, fun W hW => by obtain ⟨q0, q1, q2, q3, q4, q5, q6⟩ := hW; go_simp; rfl⟩) hS0 ?_
          try simp only [Act.put, List.setIfInBounds_toArray, List.set_cons_zero, List.set_cons_succ]
          refine held_take (i := 6) (d := (some 63)) rfl rfl (by kernel_rfl) (by kernel_rfl) (by kernel_rfl) (fun _ _ _ h => h) (.inl ⟨by rfl, fun W hW => by go_simp; rfl⟩) hS0 ?_
          try simp only [Act.put, List.setIfInBounds_toArray, List.set_cons_zero, List.set_cons_succ]
          refine held_take (i := 7) (d := (some 64)) rfl rfl (by kernel_rfl) (by kernel_rfl) (by kernel_rfl) (fun _ _ _ h => h) (.inl ⟨by rfl, fun W hW => by go_simp; rfl⟩) hS0 ?_
          try simp only [Act.put, List.setIfInBounds_toArray, List.set_cons_zero, List.set_cons_succ]
          refine held_take (i := 8) (d := (some 65)) rfl rfl (by kernel_rfl) (by kernel_rfl) (by kernel_rfl) (fun _ _ _ h => h) (.inl ⟨by rfl, fun W hW => by go_simp; rfl⟩) hS0 ?_
          try simp only [Act.put, List.setIfInBounds_toArray, List.set_cons_zero, List.set_cons_succ]
          refine held_take (i := 9) (d := (some 66)) rfl rfl (by kernel_rfl) (by kernel_rfl) (by kernel_rfl) (fun _ _ _ h => h) (.inl ⟨by rfl, fun W hW => by go_simp; rfl⟩) hS0 ?_
          try simp only [Act.put, List.setIfInBounds_toArray, List.set_cons_zero, List.set_cons_succ]
          refine held_take (i := 10) (d := (some 67)) rfl rfl (by kernel_rfl) (by kernel_rfl) (by kernel_rfl) (fun _ _ _ h => h) (.inl ⟨by rfl, fun W hW => by obtain ⟨q0, q1, q2, q3, q4, q5, q6⟩ := hW; go_simp; rfl⟩) hS0 ?_
          try simp only [Act.put, List.setIfInBounds_toArray, List.set_cons_zero, List.set_cons_succ]
          refine held_take (i := 11) (d := (some 68)) rfl rfl (by kernel_rfl) (by kernel_rfl) (by kernel_rfl) (fun _ _ _ h => h) (.inl ⟨by rfl, fun W hW => by go_simp; rfl⟩) hS0 ?_
          try simp only [Act.put, List.setIfInBounds_toArray, List.set_cons_zero, List.set_cons_succ]
          refine held_take (i := 12) (d := (some 69)) rfl rfl (by kernel_rfl) (by kernel_rfl) (by kernel_rfl) (fun _ _ _ h => h) (.inl ⟨by rfl, fun W hW => by go_simp; rfl⟩) hS0 ?_
          try simp only [Act.put, List.setIfInBounds_toArray, List.set_cons_zero, List.set_cons_succ]
          refine held_take (i := 13) (d := (some 70)) rfl rfl (by kernel_rfl) (by kernel_rfl) (by kernel_rfl) (fun _ _ _ h => h) (.inl ⟨by rfl, fun W hW => by go_simp; rfl⟩) hS0 ?_
          try simp only [Act.put, List.setIfInBounds_toArray, List.set_cons_zero, List.set_cons_succ]
          refine held_take (i := 14) (d := (some 71)) rfl rfl (by kernel_rfl) (by kernel_rfl) (by kernel_rfl) (fun _ _ _ h => h) (.inl ⟨by rfl, fun W hW => by go_simp; rfl⟩) hS0 ?_
          try simp only [Act.put, List.setIfInBounds_toArray, List.set_cons_zero, List.set_cons_succ]
          refine held_take (i := 15) (d := (some 72)) rfl rfl (by kernel_rfl) (by kernel_rfl) (by kernel_rfl) (fun _ _ _ h => h) (.inl ⟨by rfl, fun W hW => by obtain ⟨q0, q1, q2, q3, q4, q5, q6⟩ := hW; go_simp; rfl⟩) hS0 ?_
          try simp only [Act.put, List.setIfInBounds_toArray, List.set_cons_zero, List.set_cons_succ]
          refine held_take (i := 16) (d := (some 73)) rfl rfl (by kernel_rfl) (by kernel_rfl) (by kernel_rfl) (fun _ _ _ h => h) (.inl ⟨by rfl, fun W hW => by go_simp; rfl⟩) hS0 ?_
          try simp only [Act.put, List.setIfInBounds_toArray, List.set_cons_zero, List.set_cons_succ]
          refine held_take (i := 17) (d := (some 74)) rfl rfl (by kernel_rfl) (by kernel_rfl) (by kernel_rfl) (fun _ _ _ h => h) (.inl ⟨by rfl, fun W hW => by go_simp; rfl⟩) hS0 ?_
          try simp only [Act.put, List.setIfInBounds_toArray, List.set_cons_zero, List.set_cons_succ]
          refine held_take (i := 18) (d := (some 75)) rfl rfl (by kernel_rfl) (by kernel_rfl) (by kernel_rfl) (fun _ _ _ h => h) (.inl ⟨by rfl, fun W hW => by go_simp; rfl⟩) hS0 ?_
          try simp only [Act.put, List.setIfInBounds_toArray, List.set_cons_zero, List.set_cons_succ]
          refine held_take (i := 19) (d := (some 76)) rfl rfl (by kernel_rfl) (by kernel_rfl) (by kernel_rfl) (fun _ _ _ h => h) (.inl ⟨by rfl, fun W hW => by go_simp; rfl⟩) hS0 ?_
          try simp only [Act.put, List.setIfInBounds_toArray, List.set_cons_zero, List.set_cons_succ]
          refine held_take (i := 20) (d := (some 77)) rfl rfl (by kernel_rfl) (by kernel_rfl) (by kernel_rfl) (fun _ _ _ h => h) (.inl ⟨by rfl, fun W hW => by obtain ⟨q0, q1, q2, q3, q4, q5, q6⟩ := hW; go_simp; rfl⟩) hS0 ?_
          try simp only [Act.put, List.setIfInBounds_toArray, List.set_cons_zero, List.set_cons_succ]
          refine held_call (i := 21) (d := (some 78)) (by kernel_rfl) rfl rfl (by rfl) (by go_simp; first | rfl | exact ⟨rfl, rfl⟩ | exact ⟨⟨rfl, rfl⟩, rfl⟩) ?_
          refine (HM.out _ hU.drew hwd).mono ?_
          rintro e w6 ⟨rfl, hU6, xe⟩
          simp only [ext_drew] at xe
          have hS6 : (fun W => W.cell? ⟨b, o + i * 7, none⟩ = some (.int .i64 y.at_.n) ∧ W.cell? ⟨b, o + i * 7 + 1, none⟩ = some (.int .i64 y.at_.r) ∧ W.cell? ⟨b, o + i * 7 + 2, none⟩ = some (.int .i64 y.block.n) ∧ W.cell? ⟨b, o + i * 7 + 3, none⟩ = some (.int .i64 y.block.r) ∧ W.cell? ⟨b, o + i * 7 + 4, none⟩ = some (.int .i64 y.under.n) ∧ W.cell? ⟨b, o + i * 7 + 5, none⟩ = some (.int .i64 y.under.r) ∧ W.cell? ⟨b, o + i * 7 + 6, none⟩ = some (.string y.key)) w6 := ⟨xe.keep y0 (hnt _ hbU), xe.keep y1 (hnt _ hbU), xe.keep y2 (hnt _ hbU), xe.keep y3 (hnt _ hbU), xe.keep y4 (hnt _ hbU), xe.keep y5 (hnt _ hbU), xe.keep y6 (hnt _ hbU)⟩
          refine ⟨_, rfl, hS6, ?_⟩
          try simp only [Act.put, List.setIfInBounds_toArray, List.set_cons_zero, List.set_cons_succ]
          refine wpAnyH_done (by kernel_rfl) ?_ _
          have hB6 := touch_below hB hU xe (by rw [HUE.out]; exact Nat.le_refl _)
          replace y0 := xe.keep y0 (hnt _ hbU)
          replace y1 := xe.keep y1 (hnt _ hbU)
          replace y2 := xe.keep y2 (hnt _ hbU)
          replace y3 := xe.keep y3 (hnt _ hbU)
          replace y4 := xe.keep y4 (hnt _ hbU)
          replace y5 := xe.keep y5 (hnt _ hbU)
          replace y6 := xe.keep y6 (hnt _ hbU)
          replace x0 := xe.keep x0 (hnt _ hxU)
          replace x1 := xe.keep x1 (hnt _ hxU)
          replace x2 := xe.keep x2 (hnt _ hxU)
          replace x3 := xe.keep x3 (hnt _ hxU)
          replace x4 := xe.keep x4 (hnt _ hxU)
          replace x5 := xe.keep x5 (hnt _ hxU)
          replace x6 := xe.keep x6 (hnt _ hxU)
          clear hS0 hS6 hU hB xe hnt HM hwd
          have hB := hB6
          clear hB6
          have hU7 : TreeHas U w6 (U + 1) U (addAll (lessL (all.take (i + 1)) x.at_)).1 := by rw [HTK.out, lessL_snoc_lt HST.out, addAll_fst_snoc]; exact hU6
          clear hU6
          skip
          cases q with
          | true =>
            go_wp2_with fail
            have hS0 : (fun W => W.cell? ⟨b, o + i * 7, none⟩ = some (.int .i64 y.at_.n) ∧ W.cell? ⟨b, o + i * 7 + 1, none⟩ = some (.int .i64 y.at_.r) ∧ W.cell? ⟨b, o + i * 7 + 2, none⟩ = some (.int .i64 y.block.n) ∧ W.cell? ⟨b, o + i * 7 + 3, none⟩ = some (.int .i64 y.block.r) ∧ W.cell? ⟨b, o + i * 7 + 4, none⟩ = some (.int .i64 y.under.n) ∧ W.cell? ⟨b, o + i * 7 + 5, none⟩ = some (.int .i64 y.under.r) ∧ W.cell? ⟨b, o + i * 7 + 6, none⟩ = some (.string y.key) ∧ W.cell? ⟨w.heap.size, 0, none⟩ = some (.int .i64 x.at_.n) ∧ W.cell? ⟨w.heap.size, 1, none⟩ = some (.int .i64 x.at_.r) ∧ W.cell? ⟨w.heap.size, 2, none⟩ = some (.int .i64 x.block.n) ∧ W.cell? ⟨w.heap.size, 3, none⟩ = some (.int .i64 x.block.r) ∧ W.cell? ⟨w.heap.size, 4, none⟩ = some (.int .i64 x.under.n) ∧ W.cell? ⟨w.heap.size, 5, none⟩ = some (.int .i64 x.under.r) ∧ W.cell? ⟨w.heap.size, 6, none⟩ = some (.string x.key)) w6.drew := ⟨y0, y1, y2, y3, y4, y5, y6, x0, x1, x2, x3, x4, x5, x6⟩
            refine wp_region_held_drew (S := (fun W => W.cell? ⟨b, o + i * 7, none⟩ = some (.int .i64 y.at_.n) ∧ W.cell? ⟨b, o + i * 7 + 1, none⟩ = some (.int .i64 y.at_.r) ∧ W.cell? ⟨b, o + i * 7 + 2, none⟩ = some (.int .i64 y.block.n) ∧ W.cell? ⟨b, o + i * 7 + 3, none⟩ = some (.int .i64 y.block.r) ∧ W.cell? ⟨b, o + i * 7 + 4, none⟩ = some (.int .i64 y.under.n) ∧ W.cell? ⟨b, o + i * 7 + 5, none⟩ = some (.int .i64 y.under.r) ∧ W.cell? ⟨b, o + i * 7 + 6, none⟩ = some (.string y.key) ∧ W.cell? ⟨w.heap.size, 0, none⟩ = some (.int .i64 x.at_.n) ∧ W.cell? ⟨w.heap.size, 1, none⟩ = some (.int .i64 x.at_.r) ∧ W.cell? ⟨w.heap.size, 2, none⟩ = some (.int .i64 x.block.n) ∧ W.cell? ⟨w.heap.size, 3, none⟩ = some (.int .i64 x.block.r) ∧ W.cell? ⟨w.heap.size, 4, none⟩ = some (.int .i64 x.under.n) ∧ W.cell? ⟨w.heap.size, 5, none⟩ = some (.int .i64 x.under.r) ∧ W.cell? ⟨w.heap.size, 6, none⟩ = some (.string x.key))) (by kernel_rfl) hS0 (fun _ => ?_)
            refine held_take (i := 0) (d := (some 79)) rfl rfl (by kernel_rfl) (by kernel_rfl) (by kernel_rfl) (fun _ _ _ h => h) (.inl ⟨by rfl, fun W hW => by go_simp; rfl⟩) hS0 ?_
            try simp only [Act.put, List.setIfInBounds_toArray, List.set_cons_zero, List.set_cons_succ]
            refine held_take (i := 1) (d := (some 80)) rfl rfl (by kernel_rfl) (by kernel_rfl) (by kernel_rfl) (fun _ _ _ h => h) (.inl ⟨by rfl, fun W hW => by go_simp; rfl⟩) hS0 ?_
            try simp only [Act.put, List.setIfInBounds_toArray, List.set_cons_zero, List.set_cons_succ]
            refine held_take (i := 2) (d := (some 81)) (v := undef) rfl rfl (by kernel_rfl) (by kernel_rfl) (by kernel_rfl) (fun _ _ _ h => h) (.inr ⟨by rfl, rfl⟩) hS0 ?_
            try simp only [Act.put, List.setIfInBounds_toArray, List.set_cons_zero, List.set_cons_succ]
            refine held_take (i := 3) (d := (some 82)) (v := undef) rfl rfl (by kernel_rfl) (by kernel_rfl) (by kernel_rfl) (fun _ _ _ h => h) (.inr ⟨by rfl, rfl⟩) hS0 ?_
            try simp only [Act.put, List.setIfInBounds_toArray, List.set_cons_zero, List.set_cons_succ]
            refine held_take (i := 4) (d := (some 83)) (v := undef) rfl rfl (by kernel_rfl) (by kernel_rfl) (by kernel_rfl) (fun _ _ _ h => h) (.inr ⟨by rfl, rfl⟩) hS0 ?_
            try simp only [Act.put, List.setIfInBounds_toArray, List.set_cons_zero, List.set_cons_succ]
            refine held_take (i := 5) (d := (some 84)) (v := undef) rfl rfl (by kernel_rfl) (by kernel_rfl) (by kernel_rfl) (fun _ _ _ h => h) (.inr ⟨by rfl, rfl⟩) hS0 ?_
            try simp only [Act.put, List.setIfInBounds_toArray, List.set_cons_zero, List.set_cons_succ]
            refine held_take (i := 6) (d := (some 85)) (v := undef) rfl rfl (by kernel_rfl) (by kernel_rfl) (by kernel_rfl) (fun _ _ _ h => h) (.inr ⟨by rfl, rfl⟩) hS0 ?_
            try simp only [Act.put, List.setIfInBounds_toArray, List.set_cons_zero, List.set_cons_succ]
            refine held_take (i := 7) (d := (some 86)) (v := undef) rfl rfl (by kernel_rfl) (by kernel_rfl) (by kernel_rfl) (fun _ _ _ h => h) (.inr ⟨by rfl, rfl⟩) hS0 ?_
            try simp only [Act.put, List.setIfInBounds_toArray, List.set_cons_zero, List.set_cons_succ]
            refine held_take (i := 8) (d := (some 87)) rfl rfl (by kernel_rfl) (by kernel_rfl) (by kernel_rfl) (fun _ _ _ h => h) (.inl ⟨by rfl, fun W hW => by go_simp; rfl⟩) hS0 ?_
            try simp only [Act.put, List.setIfInBounds_toArray, List.set_cons_zero, List.set_cons_succ]
            refine held_take (i := 9) (d := (some 8)) rfl rfl (by kernel_rfl) (by kernel_rfl) (by kernel_rfl) (fun _ _ _ h => h) (.inl ⟨by rfl, fun W hW => by go_simp; rfl⟩) hS0 ?_
            try simp only [Act.put, List.setIfInBounds_toArray, List.set_cons_zero, List.set_cons_succ]
            refine wpAnyH_done (by kernel_rfl) ?_ _
            clear hS0
            go_wp2_with fail
            go_roundg (all.length - (i + 1))
            case measure => rw [HG.out]; omega
            case rel => exact ⟨i + 1, true, rfl, hlt, rfl, by go_num, by show _ ↔ _; rw [HTK.out]; simp [HQ.out.1 (by trivial)], hU7.drew, hB.drew⟩
          | false =>
            go_wp2_with fail
            have hS0 : (fun W => W.cell? ⟨b, o + i * 7, none⟩ = some (.int .i64 y.at_.n) ∧ W.cell? ⟨b, o + i * 7 + 1, none⟩ = some (.int .i64 y.at_.r) ∧ W.cell? ⟨b, o + i * 7 + 2, none⟩ = some (.int .i64 y.block.n) ∧ W.cell? ⟨b, o + i * 7 + 3, none⟩ = some (.int .i64 y.block.r) ∧ W.cell? ⟨b, o + i * 7 + 4, none⟩ = some (.int .i64 y.under.n) ∧ W.cell? ⟨b, o + i * 7 + 5, none⟩ = some (.int .i64 y.under.r) ∧ W.cell? ⟨b, o + i * 7 + 6, none⟩ = some (.string y.key) ∧ W.cell? ⟨w.heap.size, 0, none⟩ = some (.int .i64 x.at_.n) ∧ W.cell? ⟨w.heap.size, 1, none⟩ = some (.int .i64 x.at_.r) ∧ W.cell? ⟨w.heap.size, 2, none⟩ = some (.int .i64 x.block.n) ∧ W.cell? ⟨w.heap.size, 3, none⟩ = some (.int .i64 x.block.r) ∧ W.cell? ⟨w.heap.size, 4, none⟩ = some (.int .i64 x.under.n) ∧ W.cell? ⟨w.heap.size, 5, none⟩ = some (.int .i64 x.under.r) ∧ W.cell? ⟨w.heap.size, 6, none⟩ = some (.string x.key)) w6.drew := ⟨y0, y1, y2, y3, y4, y5, y6, x0, x1, x2, x3, x4, x5, x6⟩
            refine wp_region_held_drew (S := (fun W => W.cell? ⟨b, o + i * 7, none⟩ = some (.int .i64 y.at_.n) ∧ W.cell? ⟨b, o + i * 7 + 1, none⟩ = some (.int .i64 y.at_.r) ∧ W.cell? ⟨b, o + i * 7 + 2, none⟩ = some (.int .i64 y.block.n) ∧ W.cell? ⟨b, o + i * 7 + 3, none⟩ = some (.int .i64 y.block.r) ∧ W.cell? ⟨b, o + i * 7 + 4, none⟩ = some (.int .i64 y.under.n) ∧ W.cell? ⟨b, o + i * 7 + 5, none⟩ = some (.int .i64 y.under.r) ∧ W.cell? ⟨b, o + i * 7 + 6, none⟩ = some (.string y.key) ∧ W.cell? ⟨w.heap.size, 0, none⟩ = some (.int .i64 x.at_.n) ∧ W.cell? ⟨w.heap.size, 1, none⟩ = some (.int .i64 x.at_.r) ∧ W.cell? ⟨w.heap.size, 2, none⟩ = some (.int .i64 x.block.n) ∧ W.cell? ⟨w.heap.size, 3, none⟩ = some (.int .i64 x.block.r) ∧ W.cell? ⟨w.heap.size, 4, none⟩ = some (.int .i64 x.under.n) ∧ W.cell? ⟨w.heap.size, 5, none⟩ = some (.int .i64 x.under.r) ∧ W.cell? ⟨w.heap.size, 6, none⟩ = some (.string x.key))) (by kernel_rfl) hS0 (fun _ => ?_)
            refine held_take (i := 0) (d := (some 79)) rfl rfl (by kernel_rfl) (by kernel_rfl) (by kernel_rfl) (fun _ _ _ h => h) (.inl ⟨by rfl, fun W hW => by go_simp; rfl⟩) hS0 ?_
            try simp only [Act.put, List.setIfInBounds_toArray, List.set_cons_zero, List.set_cons_succ]
            refine held_take (i := 1) (d := (some 80)) rfl rfl (by kernel_rfl) (by kernel_rfl) (by kernel_rfl) (fun _ _ _ h => h) (.inl ⟨by rfl, fun W hW => by go_simp; rfl⟩) hS0 ?_
            try simp only [Act.put, List.setIfInBounds_toArray, List.set_cons_zero, List.set_cons_succ]
            refine held_take (i := 2) (d := (some 81)) rfl rfl (by kernel_rfl) (by kernel_rfl) (by kernel_rfl) (fun _ _ _ h => h) (.inl ⟨by rfl, fun W hW => by go_simp; rfl⟩) hS0 ?_
            try simp only [Act.put, List.setIfInBounds_toArray, List.set_cons_zero, List.set_cons_succ]
            refine held_take (i := 3) (d := (some 82)) rfl rfl (by kernel_rfl) (by kernel_rfl) (by kernel_rfl) (fun _ _ _ h => h) (.inl ⟨by rfl, fun W hW => by go_simp; rfl⟩) hS0 ?_
            try simp only [Act.put, List.setIfInBounds_toArray, List.set_cons_zero, List.set_cons_succ]
            refine held_take (i := 4) (d := (some 83)) rfl rfl (by kernel_rfl) (by kernel_rfl) (by kernel_rfl) (fun _ _ _ h => h) (.inl ⟨by rfl, fun W hW => by go_simp; rfl⟩) hS0 ?_
            try simp only [Act.put, List.setIfInBounds_toArray, List.set_cons_zero, List.set_cons_succ]
            refine held_take (i := 5) (d := (some 84)) rfl rfl (by kernel_rfl) (by kernel_rfl) (by kernel_rfl) (fun _ _ _ h => h) (.inl ⟨by rfl, fun W hW => by obtain ⟨q0, q1, q2, q3, q4, q5, q6, q7, q8, q9, q10, q11, q12, q13⟩ := hW; go_simp; rfl⟩) hS0 ?_
            try simp only [Act.put, List.setIfInBounds_toArray, List.set_cons_zero, List.set_cons_succ]
            refine held_take (i := 6) (d := (some 85)) rfl rfl (by kernel_rfl) (by kernel_rfl) (by kernel_rfl) (fun _ _ _ h => h) (.inl ⟨by rfl, fun W hW => by obtain ⟨q0, q1, q2, q3, q4, q5, q6, q7, q8, q9, q10, q11, q12, q13⟩ := hW; go_simp; rfl⟩) hS0 ?_
            try simp only [Act.put, List.setIfInBounds_toArray, List.set_cons_zero, List.set_cons_succ]
            refine held_take (i := 7) (d := (some 86)) rfl rfl (by kernel_rfl) (by kernel_rfl) (by kernel_rfl) (fun _ _ _ h => h) (.inl ⟨by rfl, fun W hW => op_eql rfl rfl rfl guard_rmove (eq_rmove y x W)⟩) hS0 ?_
            try simp only [Act.put, List.setIfInBounds_toArray, List.set_cons_zero, List.set_cons_succ]
            refine held_take (i := 8) (d := (some 87)) rfl rfl (by kernel_rfl) (by kernel_rfl) (by kernel_rfl) (fun _ _ _ h => h) (.inl ⟨by rfl, fun W hW => by go_simp; rfl⟩) hS0 ?_
            try simp only [Act.put, List.setIfInBounds_toArray, List.set_cons_zero, List.set_cons_succ]
            refine held_take (i := 9) (d := (some 8)) rfl rfl (by kernel_rfl) (by kernel_rfl) (by kernel_rfl) (fun _ _ _ h => h) (.inl ⟨by rfl, fun W hW => by go_simp; rfl⟩) hS0 ?_
            try simp only [Act.put, List.setIfInBounds_toArray, List.set_cons_zero, List.set_cons_succ]
            refine wpAnyH_done (by kernel_rfl) ?_ _
            clear hS0
            go_wp2_with fail
            go_roundg (all.length - (i + 1))
            case measure => rw [HG.out]; omega
            case rel =>
              refine ⟨i + 1, decide (y = x), rfl, hlt, rfl, by go_num, ?_, hU7.drew, hB.drew⟩
              show _ ↔ _
              rw [HTK.out, List.mem_append, List.mem_singleton]
              have hnx : ¬ x ∈ all.take i := fun h => by simpa using HQ.out.2 h
              simp [hnx, eq_comm]
        · have hneg : ¬ cmpS ⟨y.at_.n, y.at_.r⟩ ⟨x.at_.n, x.at_.r⟩ < 0 := fun h => hst (hlt0.1 h)
          have HST := Lib.hid hst
          clear hst hlt0 hll
          generalize cmpS ⟨y.at_.n, y.at_.r⟩ ⟨x.at_.n, x.at_.r⟩ = cq at *
          have HCM := Lib.hid hcm
          clear hcm
          go_wp2_with fail
          have hS0 : (fun W => W.cell? ⟨b, o + i * 7, none⟩ = some (.int .i64 y.at_.n) ∧ W.cell? ⟨b, o + i * 7 + 1, none⟩ = some (.int .i64 y.at_.r) ∧ W.cell? ⟨w.heap.size, 0, none⟩ = some (.int .i64 x.at_.n) ∧ W.cell? ⟨w.heap.size, 1, none⟩ = some (.int .i64 x.at_.r)) wr.drew := ⟨y0, y1, x0, x1⟩
          refine wp_region_held_drew (S := (fun W => W.cell? ⟨b, o + i * 7, none⟩ = some (.int .i64 y.at_.n) ∧ W.cell? ⟨b, o + i * 7 + 1, none⟩ = some (.int .i64 y.at_.r) ∧ W.cell? ⟨w.heap.size, 0, none⟩ = some (.int .i64 x.at_.n) ∧ W.cell? ⟨w.heap.size, 1, none⟩ = some (.int .i64 x.at_.r))) (by kernel_rfl) hS0 (fun _ => ?_)
          refine held_take (i := 0) (d := (some 48)) rfl rfl (by kernel_rfl) (by kernel_rfl) (by kernel_rfl) (fun _ _ _ h => h) (.inl ⟨by rfl, fun W hW => by go_simp; rfl⟩) hS0 ?_
          try simp only [Act.put, List.setIfInBounds_toArray, List.set_cons_zero, List.set_cons_succ]
          refine held_take (i := 1) (d := (some 49)) rfl rfl (by kernel_rfl) (by kernel_rfl) (by kernel_rfl) (fun _ _ _ h => h) (.inl ⟨by rfl, fun W hW => by go_simp; rfl⟩) hS0 ?_
          try simp only [Act.put, List.setIfInBounds_toArray, List.set_cons_zero, List.set_cons_succ]
          refine held_take (i := 2) (d := (some 50)) rfl rfl (by kernel_rfl) (by kernel_rfl) (by kernel_rfl) (fun _ _ _ h => h) (.inl ⟨by rfl, fun W hW => by go_simp; rfl⟩) hS0 ?_
          try simp only [Act.put, List.setIfInBounds_toArray, List.set_cons_zero, List.set_cons_succ]
          refine held_take (i := 3) (d := (some 51)) rfl rfl (by kernel_rfl) (by kernel_rfl) (by kernel_rfl) (fun _ _ _ h => h) (.inl ⟨by rfl, fun W hW => by go_simp; rfl⟩) hS0 ?_
          try simp only [Act.put, List.setIfInBounds_toArray, List.set_cons_zero, List.set_cons_succ]
          refine held_take (i := 4) (d := (some 52)) rfl rfl (by kernel_rfl) (by kernel_rfl) (by kernel_rfl) (fun _ _ _ h => h) (.inl ⟨by rfl, fun W hW => by obtain ⟨q0, q1, q2, q3⟩ := hW; go_simp; rfl⟩) hS0 ?_
          try simp only [Act.put, List.setIfInBounds_toArray, List.set_cons_zero, List.set_cons_succ]
          refine held_take (i := 5) (d := (some 53)) rfl rfl (by kernel_rfl) (by kernel_rfl) (by kernel_rfl) (fun _ _ _ h => h) (.inl ⟨by rfl, fun W hW => by go_simp; rfl⟩) hS0 ?_
          try simp only [Act.put, List.setIfInBounds_toArray, List.set_cons_zero, List.set_cons_succ]
          refine held_take (i := 6) (d := (some 54)) rfl rfl (by kernel_rfl) (by kernel_rfl) (by kernel_rfl) (fun _ _ _ h => h) (.inl ⟨by rfl, fun W hW => by obtain ⟨q0, q1, q2, q3⟩ := hW; go_simp; rfl⟩) hS0 ?_
          try simp only [Act.put, List.setIfInBounds_toArray, List.set_cons_zero, List.set_cons_succ]
          refine held_call (i := 7) (d := (some 55)) (by kernel_rfl) rfl rfl (by rfl) (by go_simp; first | rfl | exact ⟨rfl, rfl⟩ | exact ⟨⟨rfl, rfl⟩, rfl⟩) ?_
          refine (HCM.out _).mono ?_
          rintro e w5 ⟨rfl, b5⟩
          simp only [heap_drew, below_drew] at b5
          have hS5 : (fun W => W.cell? ⟨b, o + i * 7, none⟩ = some (.int .i64 y.at_.n) ∧ W.cell? ⟨b, o + i * 7 + 1, none⟩ = some (.int .i64 y.at_.r) ∧ W.cell? ⟨w.heap.size, 0, none⟩ = some (.int .i64 x.at_.n) ∧ W.cell? ⟨w.heap.size, 1, none⟩ = some (.int .i64 x.at_.r)) w5 := ⟨keepB b5 y0, keepB b5 y1, keepB b5 x0, keepB b5 x1⟩
          refine ⟨_, rfl, hS5, ?_⟩
          try simp only [Act.put, List.setIfInBounds_toArray, List.set_cons_zero, List.set_cons_succ]
          refine held_take (i := 8) (d := (some 56)) rfl rfl (by kernel_rfl) (by kernel_rfl) (by kernel_rfl) (fun _ _ _ h => h) (.inl ⟨by rfl, fun W hW => by go_simp; rfl⟩) hS5 ?_
          try simp only [Act.put, List.setIfInBounds_toArray, List.set_cons_zero, List.set_cons_succ]
          refine wpAnyH_done (by kernel_rfl) ?_ _
          replace hU := hU.below b5
          replace hB := hB.trans (b5.mono hB.size)
          clear hS0 hS5
          replace y0 := keepB b5 y0
          replace y1 := keepB b5 y1
          replace y2 := keepB b5 y2
          replace y3 := keepB b5 y3
          replace y4 := keepB b5 y4
          replace y5 := keepB b5 y5
          replace y6 := keepB b5 y6
          replace x0 := keepB b5 x0
          replace x1 := keepB b5 x1
          replace x2 := keepB b5 x2
          replace x3 := keepB b5 x3
          replace x4 := keepB b5 x4
          replace x5 := keepB b5 x5
          replace x6 := keepB b5 x6
          clear b5
          have hU7 : TreeHas U w5 (U + 1) U (addAll (lessL (all.take (i + 1)) x.at_)).1 := by rw [HTK.out, lessL_snoc_ge HST.out]; exact hU
          clear hU
          cases q with
          | true =>
            go_wp2_with fail
            have hS0 : (fun W => W.cell? ⟨b, o + i * 7, none⟩ = some (.int .i64 y.at_.n) ∧ W.cell? ⟨b, o + i * 7 + 1, none⟩ = some (.int .i64 y.at_.r) ∧ W.cell? ⟨b, o + i * 7 + 2, none⟩ = some (.int .i64 y.block.n) ∧ W.cell? ⟨b, o + i * 7 + 3, none⟩ = some (.int .i64 y.block.r) ∧ W.cell? ⟨b, o + i * 7 + 4, none⟩ = some (.int .i64 y.under.n) ∧ W.cell? ⟨b, o + i * 7 + 5, none⟩ = some (.int .i64 y.under.r) ∧ W.cell? ⟨b, o + i * 7 + 6, none⟩ = some (.string y.key) ∧ W.cell? ⟨w.heap.size, 0, none⟩ = some (.int .i64 x.at_.n) ∧ W.cell? ⟨w.heap.size, 1, none⟩ = some (.int .i64 x.at_.r) ∧ W.cell? ⟨w.heap.size, 2, none⟩ = some (.int .i64 x.block.n) ∧ W.cell? ⟨w.heap.size, 3, none⟩ = some (.int .i64 x.block.r) ∧ W.cell? ⟨w.heap.size, 4, none⟩ = some (.int .i64 x.under.n) ∧ W.cell? ⟨w.heap.size, 5, none⟩ = some (.int .i64 x.under.r) ∧ W.cell? ⟨w.heap.size, 6, none⟩ = some (.string x.key)) w5.drew := ⟨y0, y1, y2, y3, y4, y5, y6, x0, x1, x2, x3, x4, x5, x6⟩
            refine wp_region_held_drew (S := (fun W => W.cell? ⟨b, o + i * 7, none⟩ = some (.int .i64 y.at_.n) ∧ W.cell? ⟨b, o + i * 7 + 1, none⟩ = some (.int .i64 y.at_.r) ∧ W.cell? ⟨b, o + i * 7 + 2, none⟩ = some (.int .i64 y.block.n) ∧ W.cell? ⟨b, o + i * 7 + 3, none⟩ = some (.int .i64 y.block.r) ∧ W.cell? ⟨b, o + i * 7 + 4, none⟩ = some (.int .i64 y.under.n) ∧ W.cell? ⟨b, o + i * 7 + 5, none⟩ = some (.int .i64 y.under.r) ∧ W.cell? ⟨b, o + i * 7 + 6, none⟩ = some (.string y.key) ∧ W.cell? ⟨w.heap.size, 0, none⟩ = some (.int .i64 x.at_.n) ∧ W.cell? ⟨w.heap.size, 1, none⟩ = some (.int .i64 x.at_.r) ∧ W.cell? ⟨w.heap.size, 2, none⟩ = some (.int .i64 x.block.n) ∧ W.cell? ⟨w.heap.size, 3, none⟩ = some (.int .i64 x.block.r) ∧ W.cell? ⟨w.heap.size, 4, none⟩ = some (.int .i64 x.under.n) ∧ W.cell? ⟨w.heap.size, 5, none⟩ = some (.int .i64 x.under.r) ∧ W.cell? ⟨w.heap.size, 6, none⟩ = some (.string x.key))) (by kernel_rfl) hS0 (fun _ => ?_)
            refine held_take (i := 0) (d := (some 79)) rfl rfl (by kernel_rfl) (by kernel_rfl) (by kernel_rfl) (fun _ _ _ h => h) (.inl ⟨by rfl, fun W hW => by go_simp; rfl⟩) hS0 ?_
            try simp only [Act.put, List.setIfInBounds_toArray, List.set_cons_zero, List.set_cons_succ]
            refine held_take (i := 1) (d := (some 80)) rfl rfl (by kernel_rfl) (by kernel_rfl) (by kernel_rfl) (fun _ _ _ h => h) (.inl ⟨by rfl, fun W hW => by go_simp; rfl⟩) hS0 ?_
            try simp only [Act.put, List.setIfInBounds_toArray, List.set_cons_zero, List.set_cons_succ]
            refine held_take (i := 2) (d := (some 81)) (v := undef) rfl rfl (by kernel_rfl) (by kernel_rfl) (by kernel_rfl) (fun _ _ _ h => h) (.inr ⟨by rfl, rfl⟩) hS0 ?_
            try simp only [Act.put, List.setIfInBounds_toArray, List.set_cons_zero, List.set_cons_succ]
            refine held_take (i := 3) (d := (some 82)) (v := undef) rfl rfl (by kernel_rfl) (by kernel_rfl) (by kernel_rfl) (fun _ _ _ h => h) (.inr ⟨by rfl, rfl⟩) hS0 ?_
            try simp only [Act.put, List.setIfInBounds_toArray, List.set_cons_zero, List.set_cons_succ]
            refine held_take (i := 4) (d := (some 83)) (v := undef) rfl rfl (by kernel_rfl) (by kernel_rfl) (by kernel_rfl) (fun _ _ _ h => h) (.inr ⟨by rfl, rfl⟩) hS0 ?_
            try simp only [Act.put, List.setIfInBounds_toArray, List.set_cons_zero, List.set_cons_succ]
            refine held_take (i := 5) (d := (some 84)) (v := undef) rfl rfl (by kernel_rfl) (by kernel_rfl) (by kernel_rfl) (fun _ _ _ h => h) (.inr ⟨by rfl, rfl⟩) hS0 ?_
            try simp only [Act.put, List.setIfInBounds_toArray, List.set_cons_zero, List.set_cons_succ]
            refine held_take (i := 6) (d := (some 85)) (v := undef) rfl rfl (by kernel_rfl) (by kernel_rfl) (by kernel_rfl) (fun _ _ _ h => h) (.inr ⟨by rfl, rfl⟩) hS0 ?_
            try simp only [Act.put, List.setIfInBounds_toArray, List.set_cons_zero, List.set_cons_succ]
            refine held_take (i := 7) (d := (some 86)) (v := undef) rfl rfl (by kernel_rfl) (by kernel_rfl) (by kernel_rfl) (fun _ _ _ h => h) (.inr ⟨by rfl, rfl⟩) hS0 ?_
            try simp only [Act.put, List.setIfInBounds_toArray, List.set_cons_zero, List.set_cons_succ]
            refine held_take (i := 8) (d := (some 87)) rfl rfl (by kernel_rfl) (by kernel_rfl) (by kernel_rfl) (fun _ _ _ h => h) (.inl ⟨by rfl, fun W hW => by go_simp; rfl⟩) hS0 ?_
            try simp only [Act.put, List.setIfInBounds_toArray, List.set_cons_zero, List.set_cons_succ]
            refine held_take (i := 9) (d := (some 8)) rfl rfl (by kernel_rfl) (by kernel_rfl) (by kernel_rfl) (fun _ _ _ h => h) (.inl ⟨by rfl, fun W hW => by go_simp; rfl⟩) hS0 ?_
            try simp only [Act.put, List.setIfInBounds_toArray, List.set_cons_zero, List.set_cons_succ]
            refine wpAnyH_done (by kernel_rfl) ?_ _
            clear hS0
            go_wp2_with fail
            go_roundg (all.length - (i + 1))
            case measure => rw [HG.out]; omega
            case rel => exact ⟨i + 1, true, rfl, hlt, rfl, by go_num, by show _ ↔ _; rw [HTK.out]; simp [HQ.out.1 (by trivial)], hU7.drew, hB.drew⟩
          | false =>
            go_wp2_with fail
            have hS0 : (fun W => W.cell? ⟨b, o + i * 7, none⟩ = some (.int .i64 y.at_.n) ∧ W.cell? ⟨b, o + i * 7 + 1, none⟩ = some (.int .i64 y.at_.r) ∧ W.cell? ⟨b, o + i * 7 + 2, none⟩ = some (.int .i64 y.block.n) ∧ W.cell? ⟨b, o + i * 7 + 3, none⟩ = some (.int .i64 y.block.r) ∧ W.cell? ⟨b, o + i * 7 + 4, none⟩ = some (.int .i64 y.under.n) ∧ W.cell? ⟨b, o + i * 7 + 5, none⟩ = some (.int .i64 y.under.r) ∧ W.cell? ⟨b, o + i * 7 + 6, none⟩ = some (.string y.key) ∧ W.cell? ⟨w.heap.size, 0, none⟩ = some (.int .i64 x.at_.n) ∧ W.cell? ⟨w.heap.size, 1, none⟩ = some (.int .i64 x.at_.r) ∧ W.cell? ⟨w.heap.size, 2, none⟩ = some (.int .i64 x.block.n) ∧ W.cell? ⟨w.heap.size, 3, none⟩ = some (.int .i64 x.block.r) ∧ W.cell? ⟨w.heap.size, 4, none⟩ = some (.int .i64 x.under.n) ∧ W.cell? ⟨w.heap.size, 5, none⟩ = some (.int .i64 x.under.r) ∧ W.cell? ⟨w.heap.size, 6, none⟩ = some (.string x.key)) w5.drew := ⟨y0, y1, y2, y3, y4, y5, y6, x0, x1, x2, x3, x4, x5, x6⟩
            refine wp_region_held_drew (S := (fun W => W.cell? ⟨b, o + i * 7, none⟩ = some (.int .i64 y.at_.n) ∧ W.cell? ⟨b, o + i * 7 + 1, none⟩ = some (.int .i64 y.at_.r) ∧ W.cell? ⟨b, o + i * 7 + 2, none⟩ = some (.int .i64 y.block.n) ∧ W.cell? ⟨b, o + i * 7 + 3, none⟩ = some (.int .i64 y.block.r) ∧ W.cell? ⟨b, o + i * 7 + 4, none⟩ = some (.int .i64 y.under.n) ∧ W.cell? ⟨b, o + i * 7 + 5, none⟩ = some (.int .i64 y.under.r) ∧ W.cell? ⟨b, o + i * 7 + 6, none⟩ = some (.string y.key) ∧ W.cell? ⟨w.heap.size, 0, none⟩ = some (.int .i64 x.at_.n) ∧ W.cell? ⟨w.heap.size, 1, none⟩ = some (.int .i64 x.at_.r) ∧ W.cell? ⟨w.heap.size, 2, none⟩ = some (.int .i64 x.block.n) ∧ W.cell? ⟨w.heap.size, 3, none⟩ = some (.int .i64 x.block.r) ∧ W.cell? ⟨w.heap.size, 4, none⟩ = some (.int .i64 x.under.n) ∧ W.cell? ⟨w.heap.size, 5, none⟩ = some (.int .i64 x.under.r) ∧ W.cell? ⟨w.heap.size, 6, none⟩ = some (.string x.key))) (by kernel_rfl) hS0 (fun _ => ?_)
            refine held_take (i := 0) (d := (some 79)) rfl rfl (by kernel_rfl) (by kernel_rfl) (by kernel_rfl) (fun _ _ _ h => h) (.inl ⟨by rfl, fun W hW => by go_simp; rfl⟩) hS0 ?_
            try simp only [Act.put, List.setIfInBounds_toArray, List.set_cons_zero, List.set_cons_succ]
            refine held_take (i := 1) (d := (some 80)) rfl rfl (by kernel_rfl) (by kernel_rfl) (by kernel_rfl) (fun _ _ _ h => h) (.inl ⟨by rfl, fun W hW => by go_simp; rfl⟩) hS0 ?_
            try simp only [Act.put, List.setIfInBounds_toArray, List.set_cons_zero, List.set_cons_succ]
            refine held_take (i := 2) (d := (some 81)) rfl rfl (by kernel_rfl) (by kernel_rfl) (by kernel_rfl) (fun _ _ _ h => h) (.inl ⟨by rfl, fun W hW => by go_simp; rfl⟩) hS0 ?_
            try simp only [Act.put, List.setIfInBounds_toArray, List.set_cons_zero, List.set_cons_succ]
            refine held_take (i := 3) (d := (some 82)) rfl rfl (by kernel_rfl) (by kernel_rfl) (by kernel_rfl) (fun _ _ _ h => h) (.inl ⟨by rfl, fun W hW => by go_simp; rfl⟩) hS0 ?_
            try simp only [Act.put, List.setIfInBounds_toArray, List.set_cons_zero, List.set_cons_succ]
            refine held_take (i := 4) (d := (some 83)) rfl rfl (by kernel_rfl) (by kernel_rfl) (by kernel_rfl) (fun _ _ _ h => h) (.inl ⟨by rfl, fun W hW => by go_simp; rfl⟩) hS0 ?_
            try simp only [Act.put, List.setIfInBounds_toArray, List.set_cons_zero, List.set_cons_succ]
            refine held_take (i := 5) (d := (some 84)) rfl rfl (by kernel_rfl) (by kernel_rfl) (by kernel_rfl) (fun _ _ _ h => h) (.inl ⟨by rfl, fun W hW => by obtain ⟨q0, q1, q2, q3, q4, q5, q6, q7, q8, q9, q10, q11, q12, q13⟩ := hW; go_simp; rfl⟩) hS0 ?_
            try simp only [Act.put, List.setIfInBounds_toArray, List.set_cons_zero, List.set_cons_succ]
            refine held_take (i := 6) (d := (some 85)) rfl rfl (by kernel_rfl) (by kernel_rfl) (by kernel_rfl) (fun _ _ _ h => h) (.inl ⟨by rfl, fun W hW => by obtain ⟨q0, q1, q2, q3, q4, q5, q6, q7, q8, q9, q10, q11, q12, q13⟩ := hW; go_simp; rfl⟩) hS0 ?_
            try simp only [Act.put, List.setIfInBounds_toArray, List.set_cons_zero, List.set_cons_succ]
            refine held_take (i := 7) (d := (some 86)) rfl rfl (by kernel_rfl) (by kernel_rfl) (by kernel_rfl) (fun _ _ _ h => h) (.inl ⟨by rfl, fun W hW => op_eql rfl rfl rfl guard_rmove (eq_rmove y x W)⟩) hS0 ?_
            try simp only [Act.put, List.setIfInBounds_toArray, List.set_cons_zero, List.set_cons_succ]
            refine held_take (i := 8) (d := (some 87)) rfl rfl (by kernel_rfl) (by kernel_rfl) (by kernel_rfl) (fun _ _ _ h => h) (.inl ⟨by rfl, fun W hW => by go_simp; rfl⟩) hS0 ?_
            try simp only [Act.put, List.setIfInBounds_toArray, List.set_cons_zero, List.set_cons_succ]
            refine held_take (i := 9) (d := (some 8)) rfl rfl (by kernel_rfl) (by kernel_rfl) (by kernel_rfl) (fun _ _ _ h => h) (.inl ⟨by rfl, fun W hW => by go_simp; rfl⟩) hS0 ?_
            try simp only [Act.put, List.setIfInBounds_toArray, List.set_cons_zero, List.set_cons_succ]
            refine wpAnyH_done (by kernel_rfl) ?_ _
            clear hS0
            go_wp2_with fail
            go_roundg (all.length - (i + 1))
            case measure => rw [HG.out]; omega
            case rel =>
              refine ⟨i + 1, decide (y = x), rfl, hlt, rfl, by go_num, ?_, hU7.drew, hB.drew⟩
              show _ ↔ _
              rw [HTK.out, List.mem_append, List.mem_singleton]
              have hnx : ¬ x ∈ all.take i := fun h => by simpa using HQ.out.2 h
              simp [hnx, eq_comm]
      · obtain rfl : i = all.length := by omega
        rw [List.take_length] at hU
        have HQ2 : Hid (q = true ↔ x ∈ all) := by have := HQ.out; rwa [List.take_length] at this
        clear HQ
        obtain ⟨x0, x1, x2, x3, x4, x5, x6⟩ := HBX.out.below hB
        cases q with
        | false =>
          clear HQ2
          go_wp2_with fail
          go_ret
          have hb := HB.out.trans (hB.mono HB.out.size)
          exact ⟨rfl, hb⟩
        | true =>
          have HIN := Lib.hid (HQ2.out.1 (by trivial))
          have HLK := Lib.hid (less_kept HK.out x.at_)
          have htc := takes_all HK.out HIN.out
          have hlen2 := addAll_len (lessL all x.at_)
          have hlen3 := lessL_length all x.at_
          generalize (addAll (lessL all x.at_)).1 = cu at *
          have hcu : cu.length ≤ 60 := by omega
          have HTC := Lib.hid htc
          clear HQ2 hlen2 hlen3 HG htc
          go_wp2_with fail
          have hZ := BoxS.new wr x.under
          have hZU : U < wr.heap.size ∧ U + 1 < wr.heap.size := ⟨hU.lt.2.2.2, hU.lt.2.2.1⟩
          replace hU := hU.alloc (.cells #[.int .i64 x.under.n, .int .i64 x.under.r] 24)
          replace hB := hB.alloc hB.size (.cells #[.int .i64 x.under.n, .int .i64 x.under.r] 24)
          have hZw : w2.heap.size ≤ wr.heap.size := by rw [← HUE.out]; omega
          generalize wr.alloc (.cells #[.int .i64 x.under.n, .int .i64 x.under.r] 24) = W0 at *
          generalize wr.heap.size = Z at *
          obtain ⟨k0, hk0, hE0⟩ := hang_ends cu x.under
          have HE0 := Lib.hid hE0
          clear hE0
          go_loopg [10, 12] 61 (fun g rv nv wx => ∃ (n k : Nat) (r : Bool) (u : St), g = 61 - n ∧ n + k ≤ 60 ∧ rv = .bool r ∧ nv = .int .i64 n ∧ Hid (Ends (hang cu) k u ∧ RingIs (hang cu) x r u) ∧ BoxS wx Z u ∧ TreeHas U wx (U + 1) U cu ∧ Below w2.heap.size w2 wx)
          case atStart => exact ⟨0, k0, false, x.under, rfl, by omega, rfl, rfl, ⟨HE0.out, RingIs.start _ _⟩, hZ, hU, hB⟩
          case round =>
            clear hZ hU hB HE0 hk0 x0 x1 x2 x3 x4 x5 x6
            obtain ⟨n, k, r, u, hg, hnk, rfl, rfl, hER, hZ, hU, hB⟩ := hrel
            have HG := Lib.hid hg
            have HER := Lib.hid hER
            clear hg hER
            obtain ⟨x0, x1, x2, x3, x4, x5, x6⟩ := HBX.out.below hB
            have hZ0 := hZ.c0
            have hZ1 := hZ.c1
            go_upto_region 21 with fail
            go_cut [10] (fun rv wx => rv = .bool (r || decide (u = x.block)) ∧ wx = wr)
            case first =>
              cases r with
              | true =>
                go_wp2_with fail
                go_meet
                case rel => exact ⟨rfl, rfl⟩
              | false =>
                by_cases hub : u = x.block
                · have e1 : u.n = x.block.n := by rw [hub]
                  have e2 : u.r = x.block.r := by rw [hub]
                  have hd : decide (u = x.block) = true := by simp [hub]
                  have HD := Lib.hid hd
                  rw [e1] at hZ0
                  rw [e2] at hZ1
                  clear hub e1 e2 hd hZ
                  go_wp2_with fail
                  go_meet
                  case rel => exact ⟨by rw [HD.out]; rfl, rfl⟩
                · have hd : decide (u = x.block) = false := by simp [hub]
                  have HD := Lib.hid hd
                  clear hd
                  by_cases e1 : u.n = x.block.n
                  · have e2 : ¬ u.r = x.block.r := fun e2 => hub (st_eq e1 e2)
                    rw [e1] at hZ0
                    clear hub e1 hZ
                    go_wp2_with fail
                    go_meet
                    case rel => exact ⟨by rw [HD.out]; rfl, rfl⟩
                  · clear hub hZ
                    go_wp2_with fail
                    go_meet
                    case rel => exact ⟨by rw [HD.out]; rfl, rfl⟩
            case rest =>
              obtain ⟨rfl, rfl⟩ := hcut
              have HRB := Lib.hid HER.out.2.look
              generalize (r || decide (u = x.block)) = r2 at *
              go_wp2_with fail
              refine (parent_any _ _ _ _ hU).mono ?_
              rintro e w5 ⟨d, is, rfl, hd, b5⟩
              replace hU := hU.below b5
              replace hB := hB.trans (b5.mono hB.size)
              replace hZ := hZ.below b5
              clear hZ0 hZ1
              replace x0 := keepB b5 x0
              replace x1 := keepB b5 x1
              replace x2 := keepB b5 x2
              replace x3 := keepB b5 x3
              replace x4 := keepB b5 x4
              replace x5 := keepB b5 x5
              replace x6 := keepB b5 x6
              clear b5
              rcases hd with ⟨rfl, hd⟩ | ⟨rfl, hd, rfl⟩
              · obtain ⟨k', hk', hE'⟩ : ∃ k', k = k' + 1 ∧ Ends (hang cu) k' d.under := by
                  have he := HER.out.1
                  cases k with
                  | zero => rw [show hang cu u = none from he] at hd; cases hd
                  | succ k =>
                    obtain ⟨d', hd', hk⟩ := he
                    rw [show hang cu ⟨u.n, u.r⟩ = hang cu u from rfl, hd'] at hd; cases hd
                    exact ⟨k, rfl, hk⟩
                have HNX : Hid (Ends (hang cu) k' d.under ∧ RingIs (hang cu) x r2 d.under) := ⟨hE', HRB.out.next hd⟩
                have hZ0 := hZ.c0
                have hZ1 := hZ.c1
                have hF0 := hZ.f0
                have hF1 := hZ.f1
                have hzlt := hZ.lt
                have hx9 : Ext (· = Z) w5 ((w5.setCell ⟨Z, 0, none⟩ (.int .i64 d.under.n)).setCell ⟨Z, 1, none⟩ (.int .i64 d.under.r)) := ((Ext.refl (· = Z) w5).setCell (p := ⟨Z, 0, none⟩) (.inr rfl) _).setCell (p := ⟨Z, 1, none⟩) (.inr rfl) _
                have hU9 := hU.box hZ hx9
                have hZ9 := hZ.set d.under.n d.under.r
                have hB9 := Ext.add hB hx9 (fun i hi => by omega) (by omega)
                have hzn : ¬ Z = w5.heap.size := by omega
                have HZ9 := Lib.hid hZ9
                have HU9 := Lib.hid hU9
                have HB9 := Lib.hid hB9
                clear hZ9 hU9 hB9 hx9 hZ hd hE' HER HRB
                go_wp2_with fail
                go_roundg (61 - (n + 1))
                case measure => rw [HG.out]; omega
                case rel => exact ⟨n + 1, k', r2, d.under, rfl, by omega, rfl, by go_num, HNX, HZ9.out.alloc _, HU9.out.alloc _, HB9.out.alloc HB9.out.size _⟩
              · have hend := HRB.out.last hd
                have HEND := Lib.hid hend
                clear hend hd HER HRB hnk HG
                have hxl := cell_lt x0
                have hgood := HK.out.good x HIN.out
                have hless : ∀ z ∈ cu, stLt z.1 x.at_ := fun z hz => ((HLK.out.2 z).1 hz).2
                have HG3 := Lib.hid hgood
                have HL3 := Lib.hid hless
                clear hgood hless HLK hZ
                go_wp2_with fail
                have hB6 := hB.alloc hB.size (.cells #[.int .i64 zeroCh.block.n, .int .i64 zeroCh.block.r, .int .i64 zeroCh.under.n, .int .i64 zeroCh.under.r, .string zeroCh.key] 36)
                have hU6 := hU.alloc (.cells #[.int .i64 zeroCh.block.n, .int .i64 zeroCh.block.r, .int .i64 zeroCh.under.n, .int .i64 zeroCh.under.r, .string zeroCh.key] 36)
                have hxU : w.heap.size < U := by rw [HUE.out]; exact cell_lt HBX.out.1
                have hwU : U ≤ (w5.alloc (.cells #[.int .i64 zeroCh.block.n, .int .i64 zeroCh.block.r, .int .i64 zeroCh.under.n, .int .i64 zeroCh.under.r, .string zeroCh.key] 36)).heap.size := by have := hU.lt; simp; omega
                replace x0 := cell_alloc x0 (.cells #[.int .i64 zeroCh.block.n, .int .i64 zeroCh.block.r, .int .i64 zeroCh.under.n, .int .i64 zeroCh.under.r, .string zeroCh.key] 36)
                replace x1 := cell_alloc x1 (.cells #[.int .i64 zeroCh.block.n, .int .i64 zeroCh.block.r, .int .i64 zeroCh.under.n, .int .i64 zeroCh.under.r, .string zeroCh.key] 36)
                replace x2 := cell_alloc x2 (.cells #[.int .i64 zeroCh.block.n, .int .i64 zeroCh.block.r, .int .i64 zeroCh.under.n, .int .i64 zeroCh.under.r, .string zeroCh.key] 36)
                replace x3 := cell_alloc x3 (.cells #[.int .i64 zeroCh.block.n, .int .i64 zeroCh.block.r, .int .i64 zeroCh.under.n, .int .i64 zeroCh.under.r, .string zeroCh.key] 36)
                replace x4 := cell_alloc x4 (.cells #[.int .i64 zeroCh.block.n, .int .i64 zeroCh.block.r, .int .i64 zeroCh.under.n, .int .i64 zeroCh.under.r, .string zeroCh.key] 36)
                replace x5 := cell_alloc x5 (.cells #[.int .i64 zeroCh.block.n, .int .i64 zeroCh.block.r, .int .i64 zeroCh.under.n, .int .i64 zeroCh.under.r, .string zeroCh.key] 36)
                replace x6 := cell_alloc x6 (.cells #[.int .i64 zeroCh.block.n, .int .i64 zeroCh.block.r, .int .i64 zeroCh.under.n, .int .i64 zeroCh.under.r, .string zeroCh.key] 36)
                clear hU hB
                generalize w5.alloc (.cells #[.int .i64 zeroCh.block.n, .int .i64 zeroCh.block.r, .int .i64 zeroCh.under.n, .int .i64 zeroCh.under.r, .string zeroCh.key] 36) = w6 at *
                refine (move_any (U + 1) x.at_ x.block x.under x.key _ hU6 hwU (by omega)).mono ?_
                rintro e w7 ⟨rfl, hU7, xe⟩
                rw [less_code HG3.out HL3.out]
                rw [show (⟨x.block, x.under, x.key⟩ : Ch) = x.ch from rfl, less_add HG3.out HL3.out] at hU7
                have hnt : ¬ Touch U w6 (U + 1) U w.heap.size := by rintro (h | h | ⟨h, _⟩) <;> omega
                have hB7 := touch_below hB6 hU6 xe (by rw [HUE.out]; exact Nat.le_refl _)
                replace x0 := xe.keep x0 hnt
                replace x1 := xe.keep x1 hnt
                replace x2 := xe.keep x2 hnt
                replace x3 := xe.keep x3 hnt
                replace x4 := xe.keep x4 hnt
                replace x5 := xe.keep x5 hnt
                replace x6 := xe.keep x6 hnt
                clear hB6 hU6 xe hnt hwU hxl
                go_wp2_with fail
                refine (parent_any _ _ _ _ hU7).mono ?_
                rintro e w8 ⟨d, is, rfl, hd, b8⟩
                replace hU7 := hU7.below b8
                have hB8 := hB7.trans (b8.mono hB7.size)
                replace x0 := keepB b8 x0
                replace x1 := keepB b8 x1
                replace x2 := keepB b8 x2
                replace x3 := keepB b8 x3
                replace x4 := keepB b8 x4
                replace x5 := keepB b8 x5
                replace x6 := keepB b8 x6
                clear b8 hB7
                have hxl := cell_lt x0
                have HD := Lib.hid hd
                clear hd
                go_upto_region 29 with fail
                replace x0 := cell_alloc (cell_alloc x0 (.cells #[.int .i64 d.block.n, .int .i64 d.block.r, .int .i64 d.under.n, .int .i64 d.under.r, .string d.key] 36)) (.cells #[.int .i64 x.block.n, .int .i64 x.block.r, .int .i64 x.under.n, .int .i64 x.under.r, .string x.key] 36)
                replace x1 := cell_alloc (cell_alloc x1 (.cells #[.int .i64 d.block.n, .int .i64 d.block.r, .int .i64 d.under.n, .int .i64 d.under.r, .string d.key] 36)) (.cells #[.int .i64 x.block.n, .int .i64 x.block.r, .int .i64 x.under.n, .int .i64 x.under.r, .string x.key] 36)
                replace x2 := cell_alloc (cell_alloc x2 (.cells #[.int .i64 d.block.n, .int .i64 d.block.r, .int .i64 d.under.n, .int .i64 d.under.r, .string d.key] 36)) (.cells #[.int .i64 x.block.n, .int .i64 x.block.r, .int .i64 x.under.n, .int .i64 x.under.r, .string x.key] 36)
                replace x3 := cell_alloc (cell_alloc x3 (.cells #[.int .i64 d.block.n, .int .i64 d.block.r, .int .i64 d.under.n, .int .i64 d.under.r, .string d.key] 36)) (.cells #[.int .i64 x.block.n, .int .i64 x.block.r, .int .i64 x.under.n, .int .i64 x.under.r, .string x.key] 36)
                replace x4 := cell_alloc (cell_alloc x4 (.cells #[.int .i64 d.block.n, .int .i64 d.block.r, .int .i64 d.under.n, .int .i64 d.under.r, .string d.key] 36)) (.cells #[.int .i64 x.block.n, .int .i64 x.block.r, .int .i64 x.under.n, .int .i64 x.under.r, .string x.key] 36)
                replace x5 := cell_alloc (cell_alloc x5 (.cells #[.int .i64 d.block.n, .int .i64 d.block.r, .int .i64 d.under.n, .int .i64 d.under.r, .string d.key] 36)) (.cells #[.int .i64 x.block.n, .int .i64 x.block.r, .int .i64 x.under.n, .int .i64 x.under.r, .string x.key] 36)
                replace x6 := cell_alloc (cell_alloc x6 (.cells #[.int .i64 d.block.n, .int .i64 d.block.r, .int .i64 d.under.n, .int .i64 d.under.r, .string d.key] 36)) (.cells #[.int .i64 x.block.n, .int .i64 x.block.r, .int .i64 x.under.n, .int .i64 x.under.r, .string x.key] 36)
                have k0 : ((w8.alloc (.cells #[.int .i64 d.block.n, .int .i64 d.block.r, .int .i64 d.under.n, .int .i64 d.under.r, .string d.key] 36)).alloc (.cells #[.int .i64 x.block.n, .int .i64 x.block.r, .int .i64 x.under.n, .int .i64 x.under.r, .string x.key] 36)).cell? ⟨w8.heap.size, 0, none⟩ = some (.int .i64 d.block.n) := by go_simp
                have k1 : ((w8.alloc (.cells #[.int .i64 d.block.n, .int .i64 d.block.r, .int .i64 d.under.n, .int .i64 d.under.r, .string d.key] 36)).alloc (.cells #[.int .i64 x.block.n, .int .i64 x.block.r, .int .i64 x.under.n, .int .i64 x.under.r, .string x.key] 36)).cell? ⟨w8.heap.size, 1, none⟩ = some (.int .i64 d.block.r) := by go_simp
                have k2 : ((w8.alloc (.cells #[.int .i64 d.block.n, .int .i64 d.block.r, .int .i64 d.under.n, .int .i64 d.under.r, .string d.key] 36)).alloc (.cells #[.int .i64 x.block.n, .int .i64 x.block.r, .int .i64 x.under.n, .int .i64 x.under.r, .string x.key] 36)).cell? ⟨w8.heap.size, 2, none⟩ = some (.int .i64 d.under.n) := by go_simp
                have k3 : ((w8.alloc (.cells #[.int .i64 d.block.n, .int .i64 d.block.r, .int .i64 d.under.n, .int .i64 d.under.r, .string d.key] 36)).alloc (.cells #[.int .i64 x.block.n, .int .i64 x.block.r, .int .i64 x.under.n, .int .i64 x.under.r, .string x.key] 36)).cell? ⟨w8.heap.size, 3, none⟩ = some (.int .i64 d.under.r) := by go_simp
                have k4 : ((w8.alloc (.cells #[.int .i64 d.block.n, .int .i64 d.block.r, .int .i64 d.under.n, .int .i64 d.under.r, .string d.key] 36)).alloc (.cells #[.int .i64 x.block.n, .int .i64 x.block.r, .int .i64 x.under.n, .int .i64 x.under.r, .string x.key] 36)).cell? ⟨w8.heap.size, 4, none⟩ = some (.string d.key) := by go_simp
                have m0 : ((w8.alloc (.cells #[.int .i64 d.block.n, .int .i64 d.block.r, .int .i64 d.under.n, .int .i64 d.under.r, .string d.key] 36)).alloc (.cells #[.int .i64 x.block.n, .int .i64 x.block.r, .int .i64 x.under.n, .int .i64 x.under.r, .string x.key] 36)).cell? ⟨w8.heap.size + 1, 0, none⟩ = some (.int .i64 x.block.n) := by go_simp
                have m1 : ((w8.alloc (.cells #[.int .i64 d.block.n, .int .i64 d.block.r, .int .i64 d.under.n, .int .i64 d.under.r, .string d.key] 36)).alloc (.cells #[.int .i64 x.block.n, .int .i64 x.block.r, .int .i64 x.under.n, .int .i64 x.under.r, .string x.key] 36)).cell? ⟨w8.heap.size + 1, 1, none⟩ = some (.int .i64 x.block.r) := by go_simp
                have m2 : ((w8.alloc (.cells #[.int .i64 d.block.n, .int .i64 d.block.r, .int .i64 d.under.n, .int .i64 d.under.r, .string d.key] 36)).alloc (.cells #[.int .i64 x.block.n, .int .i64 x.block.r, .int .i64 x.under.n, .int .i64 x.under.r, .string x.key] 36)).cell? ⟨w8.heap.size + 1, 2, none⟩ = some (.int .i64 x.under.n) := by go_simp
                have m3 : ((w8.alloc (.cells #[.int .i64 d.block.n, .int .i64 d.block.r, .int .i64 d.under.n, .int .i64 d.under.r, .string d.key] 36)).alloc (.cells #[.int .i64 x.block.n, .int .i64 x.block.r, .int .i64 x.under.n, .int .i64 x.under.r, .string x.key] 36)).cell? ⟨w8.heap.size + 1, 3, none⟩ = some (.int .i64 x.under.r) := by go_simp
                have m4 : ((w8.alloc (.cells #[.int .i64 d.block.n, .int .i64 d.block.r, .int .i64 d.under.n, .int .i64 d.under.r, .string d.key] 36)).alloc (.cells #[.int .i64 x.block.n, .int .i64 x.block.r, .int .i64 x.under.n, .int .i64 x.under.r, .string x.key] 36)).cell? ⟨w8.heap.size + 1, 4, none⟩ = some (.string x.key) := by go_simp
                replace hU7 := (hU7.alloc (.cells #[.int .i64 d.block.n, .int .i64 d.block.r, .int .i64 d.under.n, .int .i64 d.under.r, .string d.key] 36)).alloc (.cells #[.int .i64 x.block.n, .int .i64 x.block.r, .int .i64 x.under.n, .int .i64 x.under.r, .string x.key] 36)
                replace hB8 := (hB8.alloc hB8.size (.cells #[.int .i64 d.block.n, .int .i64 d.block.r, .int .i64 d.under.n, .int .i64 d.under.r, .string d.key] 36)).alloc (by have := hB8.size; simp; omega) (.cells #[.int .i64 x.block.n, .int .i64 x.block.r, .int .i64 x.under.n, .int .i64 x.under.r, .string x.key] 36)
                generalize (w8.alloc (.cells #[.int .i64 d.block.n, .int .i64 d.block.r, .int .i64 d.under.n, .int .i64 d.under.r, .string d.key] 36)).alloc (.cells #[.int .i64 x.block.n, .int .i64 x.block.r, .int .i64 x.under.n, .int .i64 x.under.r, .string x.key] 36) = w9 at *
                generalize w8.heap.size = z8 at *
                go_cut [16, 18] (fun iv tv wx => ∃ th : Bool, tv = .bool th ∧ Hid (r2 = false → th = true) ∧ wx = w9)
                case first =>
                  cases r2 with
                  | true =>
                    go_wp2_with fail
                    all_goals (go_meet; case rel => exact ⟨_, rfl, fun h => (by cases h), rfl⟩)
                  | false =>
                    obtain ⟨rfl, rfl⟩ : is = true ∧ d = x.ch := by
                      have ht : tookH (hang cu) x.ch = true := HEND.out
                      have h2 := less_hang ht
                      rcases HD.out with ⟨h1, h3⟩ | ⟨_, h3, _⟩
                      · rw [show (⟨x.block.n, x.block.r⟩ : St) = x.block from rfl, h2] at h3; exact ⟨h1, (Option.some.inj h3).symm⟩
                      · rw [show (⟨x.block.n, x.block.r⟩ : St) = x.block from rfl, h2] at h3; cases h3
                    simp only [RMv.ch] at *
                    go_wp2_with fail
                    all_goals (go_meet; case rel => exact ⟨true, rfl, fun _ => rfl, rfl⟩)
                case rest =>
                  obtain ⟨th, rfl, hth, rfl⟩ := hcut
                  have htt := less_took (cu := cu) (x := x) HL3.out
                  rw [HEND.out] at htt
                  have hta : tookC c x.at_ = !r2 := HTC.out.trans HEND.out
                  have HTT := Lib.hid htt
                  have HTA := Lib.hid hta
                  clear htt hta k0 k1 k2 k3 k4 m0 m1 m2 m3 m4 HEND HTC HD
                  have hTc := HT.out.below hB8
                  have hcl2 : (cu ++ [(x.at_, x.ch)]).length ≤ 1000 := by simp; omega
                  cases r2 with
                  | true =>
                    go_wp2_with fail
                    refine (took_any _ _ _ _ hTc (by omega)).mono ?_
                    rintro e w10 ⟨rfl, b10⟩
                    rw [show (⟨x.at_.n, x.at_.r⟩ : St) = x.at_ from rfl, HTA.out]
                    replace hU7 := hU7.below b10
                    replace hB8 := hB8.trans (b10.mono hB8.size)
                    replace x0 := keepB b10 x0
                    replace x1 := keepB b10 x1
                    replace x2 := keepB b10 x2
                    replace x3 := keepB b10 x3
                    replace x4 := keepB b10 x4
                    replace x5 := keepB b10 x5
                    replace x6 := keepB b10 x6
                    clear b10 hTc
                    simp only [Bool.not_true, Bool.not_false]
                    go_wp2_with fail
                    refine (took_any _ _ _ _ hU7 hcl2).mono ?_
                    rintro e w11 ⟨rfl, b11⟩
                    rw [show (⟨x.at_.n, x.at_.r⟩ : St) = x.at_ from rfl, HTT.out]
                    replace hB8 := hB8.trans (b11.mono hB8.size)
                    clear b11 hU7
                    simp only [Bool.not_true, Bool.not_false]
                    go_wp2_with fail
                    go_ret
                    have hb := HB.out.trans (hB8.mono HB.out.size)
                    exact ⟨rfl, hb⟩
                  | false =>
                    obtain rfl := hth.out rfl
                    go_wp2_with fail
                    refine (took_any _ _ _ _ hTc (by omega)).mono ?_
                    rintro e w10 ⟨rfl, b10⟩
                    rw [show (⟨x.at_.n, x.at_.r⟩ : St) = x.at_ from rfl, HTA.out]
                    replace hU7 := hU7.below b10
                    replace hB8 := hB8.trans (b10.mono hB8.size)
                    replace x0 := keepB b10 x0
                    replace x1 := keepB b10 x1
                    replace x2 := keepB b10 x2
                    replace x3 := keepB b10 x3
                    replace x4 := keepB b10 x4
                    replace x5 := keepB b10 x5
                    replace x6 := keepB b10 x6
                    clear b10 hTc
                    simp only [Bool.not_true, Bool.not_false]
                    go_wp2_with fail
                    refine (took_any _ _ _ _ hU7 hcl2).mono ?_
                    rintro e w11 ⟨rfl, b11⟩
                    rw [show (⟨x.at_.n, x.at_.r⟩ : St) = x.at_ from rfl, HTT.out]
                    replace hB8 := hB8.trans (b11.mono hB8.size)
                    clear b11 hU7
                    simp only [Bool.not_true, Bool.not_false]
                    go_wp2_with fail
                    go_ret
                    have hb := HB.out.trans (hB8.mono HB.out.size)
                    exact ⟨rfl, hb⟩

set_option maxRecDepth 100000 in
theorem moveTakes_lifted (os : Os) (started : os.Started) (H : Type) (enc : TypeId × Value → H) :
    ReturnsInHanded {} Try.checked os 3 .any (Rows.moveTakesSpec.pre6 enc Try.prog Try.f3 Rows.moveTakesRow.domain false) (Rows.moveTakesSpec.post enc Try.prog Try.f3 false true false false) := by
  refine returnsInHanded_of_change (C := Try.checked) Try.own started (by kernel_rfl) Try.func3
    (ChangeSpec.witness6 (enc := enc) (C := Try.checked) false ⟨#[], #[.slice none 0 0, .agg #[.int .i64 0, .int .i64 0, .int .i64 0, .int .i64 0, .int .i64 0, .int .i64 0, .string ⟨#[]⟩]], []⟩ 8 (by kernel_rfl) (by kernel_rfl) (by kernel_rfl) (by kernel_rfl)) ?_
  intro W base args ds gs before hval0 hW hcnd _
  have hval : ∀ (j : Nat) t v, Try.f3.params[j]? = some t → args[j]? = some v → Value.okWide Try.prog W .any base t v := hval0
  have hW' := hW
  obtain ⟨p, q, hA0, hV, rfl, hfz, hnd⟩ := hW
  have hA : DataW.TrodAll enc Try.prog W 0 (fun _ => true) true Try.f3.params.toList args.toList ds p := hA0
  rw [Try.params3] at hA hval
  obtain ⟨v0, vs0, d0, ds0, p0, q0, hargs, rfl, rfl, h0, r0⟩ := trodAll_cons hA
  obtain ⟨v1, vs1, d1, ds1, p1, q1, rfl, rfl, rfl, h1, r1⟩ := trodAll_cons r0
  obtain ⟨rfl, rfl, rfl⟩ := trodAll_nil r1
  obtain rfl : args = #[v0, v1] := by cases args; simp_all
  obtain ⟨rfl, rfl⟩ := trodVars_none hV
  have k0 := h0
  have lt0 : ∀ x ∈ p0, x.block < W.heap.size := by obtain ⟨m, hm⟩ := k0; exact DataW.trod_lt m _ _ _ hm
  have k1 := h1
  have lt1 : ∀ x ∈ p1, x.block < W.heap.size := by obtain ⟨m, hm⟩ := k1; exact DataW.trod_lt m _ _ _ hm
  obtain ⟨l, hv⟩ := open_rmoves (hval 0 22 v0 rfl rfl) h0
  obtain ⟨x, rfl⟩ := open_rmove (hval 1 26 v1 rfl rfl) h1
  clear hA0 hval0
  refine (moveTakes_walk v0 l x W hv).mono fun e W' ⟨he, bel⟩ => ?_
  subst he
  exact ⟨_, rfl, _, _, _, [], _, [], hW', trodAll_mk1 (shut_bool Try.underlying4 _), (trodAll_cons_mk (Below.trod Try.laidOut (by kernel_rfl) (of_decide_eq_true (by kernel_rfl)) k0 bel lt0) (trodAll_cons_mk (Below.trod Try.laidOut (by kernel_rfl) (of_decide_eq_true (by kernel_rfl)) k1 bel lt1) trodAll_mk0)), rfl, bel.frame _, fun h => by cases h⟩

theorem moveTakes_holds : Rows.MoveTakesSaid :=
  OpenClaim.holds_of_wide 3 Try.f3 rfl rfl rfl rfl rfl rfl rfl ⟨rfl, rfl, rfl, rfl, rfl⟩ rfl rfl rfl rfl rfl (by kernel_rfl) Try.func3 (by kernel_rfl)
    (of_decide_eq_true (by kernel_rfl)) (by unfold Func.isWrapper; first | (rw [if_pos (by decide +kernel)]; kernel_rfl) | (rw [if_neg (by decide +kernel)]; exact ⟨rfl, rfl⟩))
    (fun os started H enc _ => moveTakes_lifted os started H enc)

#print axioms moveTakes_holds

end Go.Proofs.Ytilonmpcifohiaa
