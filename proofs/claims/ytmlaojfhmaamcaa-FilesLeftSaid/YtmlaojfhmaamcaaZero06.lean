/- append(b, make([]byte, n)...). -/
import Derived.Test.YtmlaojfhmaamcaaClone06
import Derived.Lib.AppendZerosOnto
namespace Go.Proofs.Ytmlaojfhmaamcaa
open Go.RowKit Go.Deep
set_option linter.unusedSimpArgs false
set_option linter.unusedVariables false

theorem zeroCells_list (z : Value) (hz : z.cells = #[z]) (n : Nat) : (Builtin.zeroCells z.cells n).toList = List.replicate n z := by
  rw [hz]
  simp [Builtin.zeroCells]
  apply List.ext_getElem
  · simp
  · intro i h1 h2
    simp [Nat.mod_one]
theorem zero_flat (k : Nat) : (List.replicate k (0 : UInt8)).flatMap u8c = List.replicate k (.int .u8 0) := by
  induction k with
  | zero => rfl
  | succ k ih => rw [List.replicate_succ, List.flatMap_cons, ih]; rfl
theorem flat_u8 (l : List UInt8) : (l.flatMap u8c).length = l.length := by
  rw [length_flatMap_k u8c_len, Nat.mul_one]

theorem append_zeros {base : Nat} {w : World} {v : Value} {l : List UInt8} (ty : TypeId) (hown : Own u8c 1 5 base w v l) (k : Nat) (hb : l.length + k ≤ 70368744177664) (hbase : base ≤ w.heap.size) :
    ∃ v' w', (Builtin.append_ #[23, 3] ty #[v, .int .i64 k]).run Try.prog w = .ok v' w' ∧ Own u8c 1 5 base w' v' (l ++ List.replicate k 0) ∧ Ext (fun b => v.ownBlock = some b) w w' := by
  obtain ⟨i, hi, hz0, hz1, hz2⟩ := info_parts info_u8
  have ht : Try.prog.underlying 23 = some (.slice 5) := Try.underlying23
  have htn : Try.prog.underlying 3 = some (.int .i64) := Try.underlying3
  have hzc : (Value.int .u8 0).cells = #[.int .u8 0] := rfl
  have hzl := zeroCells_list (.int .u8 0) hzc
  have hwr : IntKind.i64.wrap (k : Int) = k := by rw [IntKind.wrap_i64]; omega
  have hcells : ((l ++ List.replicate k 0).flatMap u8c) = l.flatMap u8c ++ List.replicate k (.int .u8 0) := by rw [List.flatMap_append, zero_flat]
  have hlen : ((l ++ List.replicate k 0).flatMap u8c).length = (l ++ List.replicate k 0).length * 1 := by rw [length_flatMap_k u8c_len]
  have hll : (l ++ List.replicate k (0 : UInt8)).length = l.length + k := by simp
  have grown : ∀ cap', l.length + k ≤ cap' → cap' ≤ maxLen → Own u8c 1 5 base (w.drew.alloc (.cells ((l.flatMap u8c).toArray ++ Builtin.zeroCells (Value.int .u8 0).cells k ++ Builtin.zeroCells (Value.int .u8 0).cells (cap' - (l.length + k))) 5)) (.slice (some ⟨w.heap.size, 0, none⟩) (l.length + k) cap') (l ++ List.replicate k 0) := fun cap' h1 h2 => by
    refine ⟨hlen, .inr ⟨w.heap.size, cap', _, by rw [hll], hbase, heap_alloc_new w.drew _, by rw [hll]; exact h1, h2, ?_, ?_⟩⟩
    · simp only [Array.size_append, List.size_toArray, size_zeroCells, hzc, flat_u8]
      simp
      omega
    · rw [hcells, hll]
      simp only [Array.toList_append, List.toList_toArray, hzl]
      rw [List.take_left' (by rw [List.length_append, flat_u8, List.length_replicate, Nat.mul_one])]
  have hxt : ∀ o : Obj, Ext (fun b => v.ownBlock = some b) w (w.drew.alloc o) := fun o => (Ext.refl _ w).drew.alloc o
  rcases hown.eq_slice with ⟨rfl, rfl⟩ | ⟨g, cap, rfl, hg1, hg2⟩
  · by_cases hk : k = 0
    · subst hk
      refine ⟨.slice none 0 0, w, ?_, by simpa using hown, Ext.refl _ _⟩
      simp [Builtin.append_, run_underlying ht, run_underlying htn, sizeOf, typeInfo, hi, asInt, asIntOf, IntKind.wrap_i64]
    · have hr := Lib.run_append_nil_zeros (P := Try.prog) w 23 3 ty 5 i (.int .u8 0) .i64 .i64 ht htn hi hz0 k (by omega) (by omega) (by omega) (by rw [hz2]; simp at hb; omega)
      have hg := grown (grownCap w k 0 5) (by have := grownCap_ge w k 0 5; simpa using this) (grownCap_le_maxLen w k 0 5 (by unfold maxLen; simp at hb; omega))
      simp only [List.length_nil, Nat.zero_add, List.flatMap_nil, List.nil_append, Array.empty_append] at hg
      exact ⟨_, _, hr, by simpa using hg, hxt _⟩
  · have hsl := hown.slice u8c_len
    obtain ⟨_, _, e1, hn1, hn2, hcs⟩ := hsl
    simp only [Value.slice.injEq] at e1
    obtain ⟨e1, _, rfl⟩ := e1
    have hcell : ∀ j u, (l.flatMap u8c)[j]? = some u → w.cell? ((⟨g, 0, none⟩ : Addr).add j) = some u := World.ownsRow.cells (g := g) hown rfl
    by_cases hroom : l.length + k ≤ cap
    · obtain ⟨h1, h2⟩ := hown
      rcases h2 with ⟨e3, _⟩ | ⟨g', cap', cur, e3, hb', hg', hn', hm', hs', ht'⟩
      · cases e3
      · cases e3
        have hnews : ∀ u ∈ List.replicate k (Value.int .u8 0), u.oneCell' = true := fun u hu => by rw [List.eq_of_mem_replicate hu]; rfl
        have hst := run_storeCells_at Try.prog g (l.length * i.size) 5 (List.replicate k (Value.int .u8 0)) 0 cur w hg' (by rw [hz1]; simp; omega) hnews
        simp only [Nat.add_zero] at hst
        refine ⟨.slice (some ⟨g, 0, none⟩) (l.length + k) cap, w.setRow g (cur.toList.take (l.length * i.size) ++ List.replicate k (Value.int .u8 0) ++ cur.toList.drop (l.length * i.size + (List.replicate k (Value.int .u8 0)).length)).toArray, ?_, ?_, ?_⟩
        · have hneg : ¬ ((k : Int) < 0) := by omega
          have h48 : ¬ (281474976710656 < (k : Int) * (i.bytes : Int)) := by rw [hz2]; omega
          by_cases hk0 : k = 0
          · subst hk0
            have e5 : w.setRow g (cur.toList.take (l.length * i.size) ++ List.replicate 0 (Value.int .u8 0) ++ cur.toList.drop (l.length * i.size + (List.replicate 0 (Value.int .u8 0)).length)).toArray = w := by
              simp only [List.replicate_zero, List.append_nil, List.length_nil, Nat.add_zero, List.take_append_drop, Array.toArray_toList]
              exact setRow_self w g cur 5 (0, 0) hg'
            rw [e5]
            simp [Builtin.append_, run_underlying ht, run_underlying htn, sizeOf, typeInfo, hi, asInt, asIntOf, IntKind.wrap_i64, hn1, storeCells]
          · have hne : ¬ (k * i.size = 0) := by rw [hz1]; omega
            simp [Builtin.append_, run_underlying ht, run_underlying htn, sizeOf, typeInfo, hi, asInt, asIntOf, hwr, hneg, h48, hroom, hne, zeroValue, hz0, Addr.add_lit, hzl, hst]
        · refine ⟨hlen, .inr ⟨g, cap, _, by rw [hll], hb', setRow_heap w g cur _ 5 _ hg', by rw [hll]; exact hroom, hm', ?_, ?_⟩⟩
          · simp only [List.size_toArray, List.length_append, List.length_take, List.length_drop, Array.length_toList, List.length_replicate]
            rw [hz1]
            omega
          · rw [hcells, hll, hz1]
            simp only [List.toList_toArray]
            rw [← ht', Nat.mul_one]
            have hcl : cur.toList.length = cur.size := by simp
            rw [List.take_left' (by rw [List.length_append, List.length_take, List.length_replicate]; omega)]
        · exact ⟨rfl, rfl, rfl, by simp, fun b _ hb => setRow_other w g b _ (fun e => hb (by simp [Value.ownBlock, e]))⟩
    · have hf := run_firstCells_some (P := Try.prog) w.drew i.size l.length ⟨g, 0, none⟩ l.length cap (l.flatMap u8c) (by rw [hz1, flat_u8, Nat.mul_one]) (by simpa using hcell)
      have hr := Lib.run_append_grow_zeros (P := Try.prog) w 23 3 ty 5 i (.int .u8 0) .i64 .i64 ht htn hi hz0 (some ⟨g, 0, none⟩) l.length cap (l.flatMap u8c) hf k (by omega) (by omega) (by omega) (by omega) (by rw [hz2]; omega) (growslice_fits (by omega) (by rw [hz2]; omega))
      have hg := grown (grownCap w (l.length + k) cap 5) (grownCap_ge w _ _ _) (grownCap_le_maxLen w _ _ _ (by unfold maxLen; omega))
      exact ⟨_, _, hr, hg, hxt _⟩

end Go.Proofs.Ytmlaojfhmaamcaa
