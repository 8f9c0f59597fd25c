/- column.Runs: a contract. -/
import Derived.Test.YtdlnokbeadkdfaaGreatDoorIterI08
import Derived.Test.YtdlnokbeadkdfaaGreatDoorBits08
import Derived.Test.YtdlnokbeadkdfaaGreatDoorVar08
import Derived.Laws.EntriesVeiled
import Derived.Outline
namespace Go.Proofs.YtdlnokbeadkdfaaGreatDoor
open Go.RowKit
set_option linter.unusedSimpArgs false
set_option linter.unusedVariables false
attribute [local go_sem] Oper.semAt_some

set_option maxRecDepth 100000 in
set_option maxHeartbeats 4000000 in
theorem cruns_any (v : Value) (l : List Int) (w : World) (h : SliceIs intc 1 w v l) (hn : l.length ≤ 1000000000000) (hin : ∀ x ∈ l, -9223372036854775808 ≤ x ∧ x ≤ 9223372036854775807) : Calls Tryz.prog 20 #[v] w fun e w' => BytesPost w (runsB l) e w' := by
  obtain ⟨va, vc, rfl, hcap, hmax, hcs⟩ := id h
  unfold maxLen at hmax
  have HL := Lib.hid (runsB_len _ l rfl (by omega) (fun x hx => zigN_lt (hin x hx).1 (hin x hx).2))
  have HIN := Lib.hid hin
  refine (callsIn_wide (n := 5)).1 ?_
  refine callsIn_of_wp_marks Tryz.func20 rfl trivial ?_ rfl
  simp only [Tryz.ntmps20, List.size_toArray, List.length_cons, List.length_nil, Nat.reduceAdd, Nat.reduceSub, Array.replicate_succ, Array.replicate_zero, List.push_toArray, List.append_toArray, List.nil_append, List.cons_append]
  gi_wp2
  refine ⟨trivial, ?_⟩
  refine (callsIn_wide.2 (runs_int_any va l.length vc _)).mono ?_
  rintro e w' ⟨rfl, rfl⟩
  gi_wp2
  have hB0 : Below w.heap.size w ((w.alloc (.cells #[.slice none 0 0] 34)).alloc (.cells #[.slice va l.length vc] 53)) := ((Below.refl _ _).alloc (Nat.le_refl _) _).alloc (by simp) _
  have z0 : ((w.alloc (.cells #[.slice none 0 0] 34)).alloc (.cells #[.slice va l.length vc] 53)).heap.size = w.heap.size + 2 := by simp
  have o0 : ((w.alloc (.cells #[.slice none 0 0] 34)).alloc (.cells #[.slice va l.length vc] 53)).heap[w.heap.size]? = some (.cells #[.slice none 0 0] 34 (0, 0)) := by
    rw [Below.heap_alloc _ _ _ (by simp)]
    exact World.alloc_heap_new w _
  have s0 : ((w.alloc (.cells #[.slice none 0 0] 34)).alloc (.cells #[.slice va l.length vc] 53)).heap[w.heap.size + 1]? = some (.cells #[.slice va l.length vc] 53 (0, 0)) := by
    have := World.alloc_heap_new (w.alloc (.cells #[.slice none 0 0] 34)) (.cells #[.slice va l.length vc] 53)
    rwa [World.size_alloc] at this
  generalize ((w.alloc (.cells #[.slice none 0 0] 34)).alloc (.cells #[.slice va l.length vc] 53)) = W0 at *
  have hl0 := h.below hB0
  refine range_preS (U := Nat × Int) (by omega) (gf := 73) (lb := #[.pointer (some ⟨w.heap.size + 1, 0, none⟩)]) rfl (enters_of Tryz.func73 (by kernel_rfl) rfl)
    (fun x : Nat × Int => #[.int .i64 x.1, .int .i64 x.2]) (fun _ => rfl) (fun k => k = w.heap.size ∨ W0.heap.size + 1 < k) (· = w.heap.size + 1) (fun k e => by omega) (fun k e => by omega) (runsL l)
    (fun pre A => ∃ v, A.heap[w.heap.size]? = some (.cells #[v] 34 (0, 0)) ∧ Own u8c 1 5 (w.heap.size + 4) A v (putR pre) ∧ Ext (fun k => k = w.heap.size ∨ k = w.heap.size + 1) W0 A)
    (fun pre A A' hh hx => ?_)
    (runs_int_gives 4 (by omega) (w.heap.size + 1) _ l (fun k => k = w.heap.size ∨ W0.heap.size + 1 < k) W0 hl0 s0 (by omega) (fun hne b o m c e => ?_)) ⟨_, o0, Own.nil, Ext.refl _ _⟩ ?_ ?_
  · obtain ⟨v, h1, h2, h3⟩ := hh
    have hlt := (Array.getElem?_eq_some_iff.1 h1).1
    exact ⟨v, (hx.block _ hlt (by omega)).trans h1, h2.ext hx (fun b hb e => by have := (h2.blk b hb).1; omega), h3.andThen hx (fun i hi e => by omega)⟩
  · cases e
    obtain ⟨b', o', e2, h5⟩ := hcs hne
    cases e2
    obtain ⟨x, hx⟩ : ∃ x, l[0]? = some x := by
      cases l with
      | nil => exact absurd rfl hne
      | cons x r => exact ⟨x, rfl⟩
    have := cell_lt (h5 0 x hx 0 _ rfl)
    refine ⟨?_, ?_, ?_⟩ <;> omega
  · rintro lb pre x A ⟨v, ho, hown, hx⟩ hpx hlt
    have HLE := Lib.hid (putR_le hpx)
    obtain ⟨hx1, hx2, hx3⟩ := runsL_pos _ l rfl x (hpx.mem (List.mem_append_right pre (List.mem_singleton.2 rfl)))
    have hxin := HIN.out x.2 hx3
    obtain ⟨k, y⟩ := x
    dsimp only at hx1 hx2 hx3 hxin ⊢
    gi_wp2
    refine ⟨Ext.refl _ _, ⟨v, ho, hown, hx⟩, fun W2 ⟨v2, ho2, hown2, hxW2⟩ hxx => ?_⟩
    obtain ⟨⟨va2, vn2, vc2⟩, e2⟩ := hown2.sl
    dsimp only at e2
    subst e2
    have hk64 : k < 18446744073709551616 := by omega
    have hsz2 := hxW2.size
    have hsz3 := hxx.size
    have hz64 := zigN_lt hxin.1 hxin.2
    have b0 := cell_of_one ho2
    have HF : Hid (W2.drew.heap[w.heap.size]? = some (.cells #[.slice va2 vn2 vc2] 34 (0, 0)) ∧ Own u8c 1 5 (w.heap.size + 4) W2.drew (.slice va2 vn2 vc2) (putR pre) ∧ Ext (fun k => k = w.heap.size ∨ k = w.heap.size + 1) W0 W2.drew ∧ Ext (fun _ => False) W2 W2.drew) := Lib.hid ⟨ho2, hown2, hxW2.drew, (Ext.refl _ _).drew⟩
    have hS0 : (fun W : World => W.cell? ⟨w.heap.size, 0, none⟩ = some (.slice va2 vn2 vc2)) W2.drew := b0
    clear b0 ho2 hown2 hxW2 ho hown hx hxx
    refine wpIn_block ?_
    refine wpIn_region_s (fun W : World => W.cell? ⟨w.heap.size, 0, none⟩ = some (.slice va2 vn2 vc2)) (fun i => i == 9) (by kernel_rfl) (by kernel_rfl) ?_ ?_
    · rintro ⟨_, _, h⟩; exact h
    have hszd : W2.drew.heap.size = W2.heap.size := rfl
    generalize W2.drew = W3 at hS0 HF hszd ⊢
    have hkw : IntKind.u64.wrap (k : Int) = (k : Int) := by rw [u64_wrap]; omega
    refine wpAnyS_take (i := 0) (d := some 10) (v := (.slice va2 vn2 vc2)) rfl rfl rfl (by kernel_rfl) (by kernel_rfl) (by kernel_rfl) (by kernel_rfl) (fun _ _ _ h => h) (.inl ⟨by rfl, fun W hW => by go_simp; try rfl⟩) hS0 ?_
    try simp only [Act.put, List.setIfInBounds_toArray, List.set_cons_zero, List.set_cons_succ]
    refine wpAnyS_take (i := 1) (d := some 11) (v := .int .i64 k) rfl rfl rfl (by kernel_rfl) (by kernel_rfl) (by kernel_rfl) (by kernel_rfl) (fun _ _ _ h => h) (.inl ⟨by rfl, fun W hW => by go_simp; try rfl⟩) hS0 ?_
    try simp only [Act.put, List.setIfInBounds_toArray, List.set_cons_zero, List.set_cons_succ]
    refine wpAnyS_take (i := 2) (d := some 12) (v := .int .u64 k) rfl rfl rfl (by kernel_rfl) (by kernel_rfl) (by kernel_rfl) (by kernel_rfl) (fun _ _ _ h => h) (.inl ⟨by rfl, fun W hW => by go_simp; try rfl⟩) hS0 ?_
    try simp only [Act.put, List.setIfInBounds_toArray, List.set_cons_zero, List.set_cons_succ]
    refine wpAnyS_take (i := 5) (d := some 15) (v := .int .i64 y) rfl rfl rfl (by kernel_rfl) (by kernel_rfl) (by kernel_rfl) (by kernel_rfl) (fun _ _ _ h => h) (.inl ⟨by rfl, fun W hW => by go_simp; try rfl⟩) hS0 ?_
    try simp only [Act.put, List.setIfInBounds_toArray, List.set_cons_zero, List.set_cons_succ]
    refine wpAnyS_call (i := 3) (d := some 13) (f := 15) (args := #[.int .u64 k]) (w' := W3) (by kernel_rfl) rfl rfl (by rfl) (by go_simp; try rfl) ?_
    refine (put_any k _ hk64).mono ?_
    rintro e w5 ⟨v5, rfl, hown5, b5⟩
    have hS5 : w5.cell? ⟨w.heap.size, 0, none⟩ = some (.slice va2 vn2 vc2) := keepB b5 hS0
    refine ⟨_, rfl, fun _ => hS5, ?_⟩
    try simp only [Act.put, List.setIfInBounds_toArray, List.set_cons_zero, List.set_cons_succ]
    have hlen : (putR pre).length + (putB k).length ≤ 140737488355328 ∧ (putR pre ++ putB k).length + (putB (zigN y)).length ≤ 140737488355328 := by
      have h1 := HLE.out
      rw [putR_snoc, ← runsB_runsL _ l rfl] at h1
      have h2 := HL.out
      simp only [List.length_append] at h1 ⊢
      omega
    have hb35 : Below (w.heap.size + 4) W3 w5 := b5.mono (by omega)
    obtain ⟨⟨ta, tn, tc⟩, w6, hr6, own6, b6, hsz6⟩ := bytes_append (HF.out.2.1.below1 b5) hb35 (hown5.slice u8c_len) (by have := b5.size; omega) hlen.1
    have hS6 : w6.cell? ⟨w.heap.size, 0, none⟩ = some (.slice va2 vn2 vc2) := below_keep1 b6 hS0 (by omega)
    refine wpAnyS_ran (i := 4) (d := some 14) (v := .slice ta tn tc) (w' := w6) (by kernel_rfl) rfl rfl (by rfl) (exec_append rfl rfl rfl hr6) (fun _ => hS6) ?_
    try simp only [Act.put, List.setIfInBounds_toArray, List.set_cons_zero, List.set_cons_succ]
    refine wpAnyS_call (i := 6) (d := some 16) (f := 50) (args := #[.int .i64 y]) (w' := w6) (by kernel_rfl) rfl rfl (by rfl) (by go_simp; try rfl) ?_
    refine (zig_any y _ hxin.1 hxin.2).mono ?_
    rintro e w7 ⟨rfl, e7⟩
    rw [← e7]
    clear e7 w7
    refine ⟨_, rfl, fun _ => hS6, ?_⟩
    try simp only [Act.put, List.setIfInBounds_toArray, List.set_cons_zero, List.set_cons_succ]
    refine wpAnyS_call (i := 7) (d := some 17) (f := 15) (args := #[.int .u64 (zigN y)]) (w' := w6) (by kernel_rfl) rfl rfl (by rfl) (by go_simp; try rfl) ?_
    refine (put_any _ _ hz64).mono ?_
    rintro e w8 ⟨v8, rfl, hown8, b8⟩
    have hS8 : w8.cell? ⟨w.heap.size, 0, none⟩ = some (.slice va2 vn2 vc2) := keepB b8 hS6
    refine ⟨_, rfl, fun _ => hS8, ?_⟩
    try simp only [Act.put, List.setIfInBounds_toArray, List.set_cons_zero, List.set_cons_succ]
    have hb38 : Below (w.heap.size + 4) W3 w8 := b6.trans (b8.mono hsz6)
    obtain ⟨⟨ua, un, uc⟩, w9, hr9, own9, b9, hsz9⟩ := bytes_append (own6.below1 b8) hb38 (hown8.slice u8c_len) (Nat.le_trans hsz6 b8.size) hlen.2
    have hS9 : w9.cell? ⟨w.heap.size, 0, none⟩ = some (.slice va2 vn2 vc2) := below_keep1 b9 hS0 (by omega)
    refine wpAnyS_ran (i := 8) (d := some 18) (v := .slice ua un uc) (w' := w9) (by kernel_rfl) rfl rfl (by rfl) (exec_append rfl rfl rfl hr9) (fun _ => hS9) ?_
    try simp only [Act.put, List.setIfInBounds_toArray, List.set_cons_zero, List.set_cons_succ]
    have ho9 : w9.heap[w.heap.size]? = some (.cells #[.slice va2 vn2 vc2] 34 (0, 0)) := (b9.block _ (by omega)).trans HF.out.1
    have f9 := free_of_one ho9
    refine wpAnyS_mute (i := 9) (d := none) (w' := w9.setCell ⟨w.heap.size, 0, none⟩ (.slice ua un uc)) (by kernel_rfl) rfl rfl (by rfl) (by go_simp; try rfl) (fun h => by cases h) ?_
    try simp only [Act.put, List.setIfInBounds_toArray, List.set_cons_zero, List.set_cons_succ]
    refine wpAnyS_done (by kernel_rfl) ?_ _
    have hx10 : Ext (· = w.heap.size) w9 (w9.setCell ⟨w.heap.size, 0, none⟩ (.slice ua un uc)) := (Ext.refl (· = w.heap.size) w9).setCell (p := ⟨w.heap.size, 0, none⟩) (.inr rfl) (.slice ua un uc)
    have hE9 : Ext (fun k => w.heap.size + 4 ≤ k) W3 w9 := ext_of_below9 b9
    refine ⟨⟨_, one_setCell ho9, ?_, ?_⟩, ?_⟩
    · rw [putR_snoc]
      exact own9.ext hx10 (fun b hb e => by have := (own9.blk b hb).1; omega)
    · exact (HF.out.2.2.1.andThen hE9 (fun i hi e => by omega)).andThen hx10 (fun i hi e => .inl e)
    · exact ((HF.out.2.2.2.mono (fun _ _ f => f.elim)).andThen (S := fun k => k = w.heap.size ∨ W0.heap.size + 1 < k) hE9 (fun i hi e => .inr (by omega))).andThen hx10 (fun i hi e => .inl e)
  · rintro A ⟨v, ho, hown, hx⟩ hK
    have hc : A.cell? ⟨w.heap.size, 0, none⟩ = some v := by simp [World.cell?, ho]
    have HX := Lib.hid hx
    have HW := Lib.hid (hx.size)
    have HK := Lib.hid hK
    have HOWN := Lib.hid hown
    have HB0 := Lib.hid hB0
    have HE := Lib.hid (runsB_runsL _ l rfl)
    clear ho hx hK hown hB0 hl0 o0 s0 h
    gi_wp2
    have hx7 : Ext (· = W0.heap.size) A (A.putObj W0.heap.size (.deferred none)) := ext_putObjP _ _ _
    have hsz := HW.out
    refine ⟨by simp, .inl ⟨_, _, rfl, run_takeDeferred HK.out, ?_⟩⟩
    refine ⟨_, results_tmp rfl _ _ _, v, rfl, ?_, ?_⟩
    · rw [HE.out]
      exact (HOWN.out.ext hx7 (fun b hb e => by have := (HOWN.out.blk b hb).1; omega)).mono (by omega)
    · exact Ext.new (Ext.new HB0.out HX.out (fun i hi _ e => by omega) (by omega)) hx7 (fun i hi _ e => by omega) (by omega)

end Go.Proofs.YtdlnokbeadkdfaaGreatDoor
