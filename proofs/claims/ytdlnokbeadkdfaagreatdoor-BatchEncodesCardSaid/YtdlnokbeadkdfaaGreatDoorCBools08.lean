/- column.Bools: a contract. -/
import Derived.Test.YtdlnokbeadkdfaaGreatDoorIterB08
import Derived.Test.YtdlnokbeadkdfaaGreatDoorRowIn
import Derived.Sort.CutIn
import Derived.Test.YtdlnokbeadkdfaaGreatDoorBits08
import Derived.Test.YtdlnokbeadkdfaaGreatDoorVar08
import Derived.Laws.EntriesVeiled
import Derived.Outline
namespace Go.Proofs.YtdlnokbeadkdfaaGreatDoor
open Go.RowKit
set_option linter.unusedSimpArgs false
set_option linter.unusedVariables false
attribute [local go_sem] Oper.semAt_some

set_option maxRecDepth 100000 in
set_option maxHeartbeats 4000000 in
theorem cbools_any (v : Value) (l : List Bool) (w : World) (h : SliceIs btc 1 w v l) (hn : l.length ≤ 1000000000000) : Calls Tryz.prog 22 #[v] w fun e w' => BytesPost w (boolsB l) e w' := by
  obtain ⟨va, vc, rfl, hcap, hmax, hcs⟩ := id h
  unfold maxLen at hmax
  have HL := Lib.hid (boolsB_len (l := l) (by omega))
  refine (callsIn_wide (n := 5)).1 ?_
  refine callsIn_of_wp_marks Tryz.func22 rfl trivial ?_ rfl
  simp only [Tryz.ntmps22, List.size_toArray, List.length_cons, List.length_nil, Nat.reduceAdd, Nat.reduceSub, Array.replicate_succ, Array.replicate_zero, List.push_toArray, List.append_toArray, List.nil_append, List.cons_append]
  gi_wp2
  refine ⟨trivial, ?_⟩
  refine (callsIn_wide.2 (runs_bool_any va l.length vc _)).mono ?_
  rintro e w' ⟨rfl, rfl⟩
  gi_wp2
  have hB0 : Below w.heap.size w ((w.alloc (.cells #[.slice none 0 0] 34)).alloc (.cells #[.slice va l.length vc] 47)) := ((Below.refl _ _).alloc (Nat.le_refl _) _).alloc (by simp) _
  have z0 : ((w.alloc (.cells #[.slice none 0 0] 34)).alloc (.cells #[.slice va l.length vc] 47)).heap.size = w.heap.size + 2 := by simp
  have o0 : ((w.alloc (.cells #[.slice none 0 0] 34)).alloc (.cells #[.slice va l.length vc] 47)).heap[w.heap.size]? = some (.cells #[.slice none 0 0] 34 (0, 0)) := by
    rw [Below.heap_alloc _ _ _ (by simp)]
    exact World.alloc_heap_new w _
  have s0 : ((w.alloc (.cells #[.slice none 0 0] 34)).alloc (.cells #[.slice va l.length vc] 47)).heap[w.heap.size + 1]? = some (.cells #[.slice va l.length vc] 47 (0, 0)) := by
    have := World.alloc_heap_new (w.alloc (.cells #[.slice none 0 0] 34)) (.cells #[.slice va l.length vc] 47)
    rwa [World.size_alloc] at this
  generalize ((w.alloc (.cells #[.slice none 0 0] 34)).alloc (.cells #[.slice va l.length vc] 47)) = W0 at *
  have hl0 := h.below hB0
  refine range_preS (U := Nat × Bool) (by omega) (gf := 74) (lb := #[.pointer (some ⟨w.heap.size + 1, 0, none⟩)]) rfl (enters_of Tryz.func74 (by kernel_rfl) rfl)
    (fun x : Nat × Bool => #[.int .i64 x.1, .bool x.2]) (fun _ => rfl) (fun k => k = w.heap.size ∨ W0.heap.size + 1 < k) (· = w.heap.size + 1) (fun k e => by omega) (fun k e => by omega) (runsL l)
    (fun pre A => ∃ v, A.heap[w.heap.size]? = some (.cells #[v] 34 (0, 0)) ∧ Own u8c 1 5 (w.heap.size + 4) A v (putT pre) ∧ Ext (fun k => k = w.heap.size ∨ k = w.heap.size + 1) W0 A)
    (fun pre A A' hh hx => ?_)
    (runs_bool_gives 4 (by omega) (w.heap.size + 1) _ l (fun k => k = w.heap.size ∨ W0.heap.size + 1 < k) W0 hl0 s0 (by omega) (fun hne b o m c e => ?_)) ⟨_, o0, Own.nil, Ext.refl _ _⟩ ?_ ?_
  · obtain ⟨v, h1, h2, h3⟩ := hh
    have hlt := (Array.getElem?_eq_some_iff.1 h1).1
    exact ⟨v, (hx.block _ hlt (by omega)).trans h1, h2.ext hx (fun b hb e => by have := (h2.blk b hb).1; omega), h3.andThen hx (fun i hi e => by omega)⟩
  · cases e
    obtain ⟨b', o', e2, h5⟩ := hcs hne
    cases e2
    obtain ⟨x, hx⟩ : ∃ x, l[0]? = some x := by
      cases l with
      | nil => exact absurd rfl hne
      | cons x r => exact ⟨x, rfl⟩
    have := cell_lt (h5 0 x hx 0 _ rfl)
    refine ⟨?_, ?_, ?_⟩ <;> omega
  · rintro lb pre x A ⟨v, ho, hown, hx⟩ hpx hlt
    have HLE := Lib.hid (putT_le hpx)
    obtain ⟨hx1, hx2, hx3⟩ := runsL_pos _ l rfl x (hpx.mem (List.mem_append_right pre (List.mem_singleton.2 rfl)))
    obtain ⟨k, y⟩ := x
    dsimp only at hx1 hx2 hx3 ⊢
    gi_wp2
    refine ⟨Ext.refl _ _, ⟨v, ho, hown, hx⟩, fun W2 ⟨v2, ho2, hown2, hxW2⟩ hxx => ?_⟩
    obtain ⟨⟨va2, vn2, vc2⟩, e2⟩ := hown2.sl
    dsimp only at e2
    subst e2
    have hk64 : k < 18446744073709551616 := by omega
    have hsz2 := hxW2.size
    have hsz3 := hxx.size
    have hvn : vn2 = (putT pre).length := (hown2.nlen u8c_len).1
    have hkw : IntKind.u64.wrap (k : Int) = (k : Int) := by rw [u64_wrap]; omega
    have hxA : Ext (fun k => k = w.heap.size ∨ W0.heap.size + 1 < k) W2 W2 := Ext.refl _ _
    have hb2 := cell_of_one ho2
    cases y with
    | false =>
      have HOUT : Hid (putT (pre ++ [(k, false)]) = putT pre ++ putB k) := Lib.hid (by rw [putT_snoc]; simp)
      clear ho hown hx hxx hvn
      have HF : Hid (W2.drew.heap[w.heap.size]? = some (.cells #[.slice va2 vn2 vc2] 34 (0, 0)) ∧ Own u8c 1 5 (w.heap.size + 4) W2.drew (.slice va2 vn2 vc2) (putT pre) ∧ Ext (fun k => k = w.heap.size ∨ k = w.heap.size + 1) W0 W2.drew ∧ Ext (fun k => k = w.heap.size ∨ W0.heap.size + 1 < k) W2 W2.drew) := Lib.hid ⟨ho2, hown2, (hxW2).drew, (hxA).drew⟩
      have hS0 : (fun W : World => W.cell? ⟨w.heap.size, 0, none⟩ = some (.slice va2 vn2 vc2)) W2.drew := cell_of_one ho2
      have hszd : W2.heap.size ≤ W2.drew.heap.size := (hxA).size
      gi_upto_region 7 with fail
      refine wpIn_region_s (fun W : World => W.cell? ⟨w.heap.size, 0, none⟩ = some (.slice va2 vn2 vc2)) (fun i => i == 5) (by kernel_rfl) (by kernel_rfl) ?_ ?_
      · rintro ⟨_, _, h⟩; exact h
      generalize W2.drew = W3 at hS0 HF hszd ⊢
      refine wpAnyS_take (i := 0) (d := some 19) (v := (.slice va2 vn2 vc2)) rfl rfl rfl (by kernel_rfl) (by kernel_rfl) (by kernel_rfl) (by kernel_rfl) (fun _ _ _ h => h) (.inl ⟨by rfl, fun W hW => by go_simp; try rfl⟩) hS0 ?_
      try simp only [Act.put, List.setIfInBounds_toArray, List.set_cons_zero, List.set_cons_succ]
      refine wpAnyS_take (i := 1) (d := some 20) (v := .int .i64 k) rfl rfl rfl (by kernel_rfl) (by kernel_rfl) (by kernel_rfl) (by kernel_rfl) (fun _ _ _ h => h) (.inl ⟨by rfl, fun W hW => by go_simp; try rfl⟩) hS0 ?_
      try simp only [Act.put, List.setIfInBounds_toArray, List.set_cons_zero, List.set_cons_succ]
      refine wpAnyS_take (i := 2) (d := some 21) (v := .int .u64 k) rfl rfl rfl (by kernel_rfl) (by kernel_rfl) (by kernel_rfl) (by kernel_rfl) (fun _ _ _ h => h) (.inl ⟨by rfl, fun W hW => by go_simp; try rfl⟩) hS0 ?_
      try simp only [Act.put, List.setIfInBounds_toArray, List.set_cons_zero, List.set_cons_succ]
      refine wpAnyS_call (i := 3) (d := some 22) (f := 15) (args := #[.int .u64 k]) (w' := W3) (by kernel_rfl) rfl rfl (by rfl) (by go_simp; try rfl) ?_
      refine (put_any k _ hk64).mono ?_
      rintro e w5 ⟨v5, rfl, hown5, b5⟩
      have hS5 : w5.cell? ⟨w.heap.size, 0, none⟩ = some (.slice va2 vn2 vc2) := keepB b5 hS0
      refine ⟨_, rfl, fun _ => hS5, ?_⟩
      try simp only [Act.put, List.setIfInBounds_toArray, List.set_cons_zero, List.set_cons_succ]
      have hlen : (putT pre).length + (putB k).length ≤ 140737488355328 := by
        have h1 := HLE.out
        rw [HOUT.out, ← boolsB_runsL l] at h1
        have h2 := HL.out
        simp only [List.length_append] at h1 ⊢
        omega
      have hb35 : Below (w.heap.size + 4) W3 w5 := b5.mono (by omega)
      obtain ⟨⟨ua, un, uc⟩, w9, hr9, own9, b9, hsz9⟩ := bytes_append (HF.out.2.1.below1 b5) hb35 (hown5.slice u8c_len) (by have := b5.size; omega) hlen
      have hS9 : w9.cell? ⟨w.heap.size, 0, none⟩ = some (.slice va2 vn2 vc2) := below_keep1 b9 hS0 (by omega)
      refine wpAnyS_ran (i := 4) (d := some 23) (v := .slice ua un uc) (w' := w9) (by kernel_rfl) rfl rfl (by rfl) (exec_append rfl rfl rfl hr9) (fun _ => hS9) ?_
      try simp only [Act.put, List.setIfInBounds_toArray, List.set_cons_zero, List.set_cons_succ]
      have ho9 : w9.heap[w.heap.size]? = some (.cells #[.slice va2 vn2 vc2] 34 (0, 0)) := (b9.block _ (by omega)).trans HF.out.1
      have f9 := free_of_one ho9
      refine wpAnyS_mute (i := 5) (d := none) (w' := w9.setCell ⟨w.heap.size, 0, none⟩ (.slice ua un uc)) (by kernel_rfl) rfl rfl (by rfl) (by go_simp; try rfl) (fun h => by cases h) ?_
      try simp only [Act.put, List.setIfInBounds_toArray, List.set_cons_zero, List.set_cons_succ]
      refine wpAnyS_done (by kernel_rfl) ?_ _
      have hx10 : Ext (· = w.heap.size) w9 (w9.setCell ⟨w.heap.size, 0, none⟩ (.slice ua un uc)) := (Ext.refl (· = w.heap.size) w9).setCell (p := ⟨w.heap.size, 0, none⟩) (.inr rfl) (.slice ua un uc)
      have hE9 : Ext (fun k => w.heap.size + 4 ≤ k) W3 w9 := ext_of_below9 b9
      refine ⟨⟨_, one_setCell ho9, ?_, ?_⟩, ?_⟩
      · rw [HOUT.out]
        exact own9.ext hx10 (fun b hb e => by have := (own9.blk b hb).1; omega)
      · exact (HF.out.2.2.1.andThen hE9 (fun i hi e => by omega)).andThen hx10 (fun i hi e => .inl e)
      · exact (HF.out.2.2.2.andThen (S := fun k => k = w.heap.size ∨ W0.heap.size + 1 < k) hE9 (fun i hi e => .inr (by omega))).andThen hx10 (fun i hi e => .inl e)
    | true =>
      by_cases hp : pre = []
      · subst hp
        have hv0 : vn2 = 0 := by rw [hvn]; rfl
        have hv1 : ((vn2 : Int) == 0) = true := by rw [hv0]; rfl
        have HOUT : Hid (putT ([] ++ [(k, true)]) = [0] ++ putB k) := Lib.hid (by rw [putT_snoc]; simp [putT])
        obtain ⟨i0, hi, hz0, hz1, hz2⟩ := info_parts info_u8
        have f2 := free_of_one ho2
        have hnw : ∀ j u, (u8c 0)[j]? = some u → (W2.alloc (.cells #[.int .u8 0] 5)).cell? ⟨W2.heap.size, j, none⟩ = some u := u8_new W2 0
        clear ho hown hx hxx hvn hv0
        gi_wp2_with (gi_at_builtin; refine wpListIn_append_struct rfl _ _ _ rfl i0 _ 1 Tryz.underlying34 hi hz0 hz1 hz2 rfl (by omega) u8c_len u8c_one rfl (hown2.alloc _) (0 : UInt8) W2.heap.size 1 rfl hnw (by simp [putT]; unfold maxLen; omega) (by simp [putT]) (by simp; omega) ?_)
        intro v' w4 hown4 hx4
        obtain ⟨⟨va3, vn3, vc3⟩, e4⟩ := hown4.sl
        dsimp only at e4
        subst e4
        have hne4 : ∀ b, (Value.slice va2 vn2 vc2).ownBlock = some b → w.heap.size + 4 ≤ b := fun b hb => (hown2.blk b hb).1
        have hlt2 := (Array.getElem?_eq_some_iff.1 ho2).1
        have ho4 : w4.heap[w.heap.size]? = some (.cells #[.slice va2 vn2 vc2] 34 (0, 0)) := (hx4.block _ (by simp; omega) (fun e => by have := hne4 _ e; omega)).trans ((Below.heap_alloc _ _ _ hlt2).trans ho2)
        have c4 := cell_of_one ho4
        have f4 := free_of_one ho4
        have hx5 : Ext (· = w.heap.size) w4 (w4.setCell ⟨w.heap.size, 0, none⟩ (.slice va3 vn3 vc3)) := (Ext.refl (· = w.heap.size) w4).setCell (p := ⟨w.heap.size, 0, none⟩) (.inr rfl) (.slice va3 vn3 vc3)
        have r1 := one_setCell (u := .slice va3 vn3 vc3) ho4
        have r2 : Own u8c 1 5 (w.heap.size + 4) (w4.setCell ⟨w.heap.size, 0, none⟩ (.slice va3 vn3 vc3)) (.slice va3 vn3 vc3) [0] := hown4.ext hx5 (fun b hb e => by have := (hown4.blk b hb).1; omega)
        have r3 : Ext (fun k => k = w.heap.size ∨ k = w.heap.size + 1) W0 (w4.setCell ⟨w.heap.size, 0, none⟩ (.slice va3 vn3 vc3)) := ((hxW2.alloc _).andThen hx4 (fun i hi e => by have := hne4 _ e; omega)).andThen hx5 (fun i hi e => .inl e)
        have r4 : Ext (fun k => k = w.heap.size ∨ W0.heap.size + 1 < k) W2 (w4.setCell ⟨w.heap.size, 0, none⟩ (.slice va3 vn3 vc3)) := ((hxA.alloc _).andThen (S := fun k => k = w.heap.size ∨ W0.heap.size + 1 < k) hx4 (fun i hi e => by have := hne4 _ e; omega)).andThen hx5 (fun i hi e => .inl e)
        have R := Lib.hid (And.intro r1 (And.intro r2 (And.intro r3 r4)))
        clear r1 r2 r3 r4 hx5 hx4 hown4 hown2 ho2 hxW2 hb2 f2 hnw hne4 hv1
        gi_wp2
        generalize w4.setCell ⟨w.heap.size, 0, none⟩ (.slice va3 vn3 vc3) = W5 at R ⊢
        obtain ⟨r1, r2, r3, r4⟩ := R.out
        clear R ho4 c4 f4
        have HF : Hid (W5.drew.heap[w.heap.size]? = some (.cells #[.slice va3 vn3 vc3] 34 (0, 0)) ∧ Own u8c 1 5 (w.heap.size + 4) W5.drew (.slice va3 vn3 vc3) ([0]) ∧ Ext (fun k => k = w.heap.size ∨ k = w.heap.size + 1) W0 W5.drew ∧ Ext (fun k => k = w.heap.size ∨ W0.heap.size + 1 < k) W2 W5.drew) := Lib.hid ⟨r1, r2, (r3).drew, (r4).drew⟩
        have hS0 : (fun W : World => W.cell? ⟨w.heap.size, 0, none⟩ = some (.slice va3 vn3 vc3)) W5.drew := cell_of_one r1
        have hszd : W2.heap.size ≤ W5.drew.heap.size := (r4).size
        gi_upto_region 7 with fail
        refine wpIn_region_s (fun W : World => W.cell? ⟨w.heap.size, 0, none⟩ = some (.slice va3 vn3 vc3)) (fun i => i == 5) (by kernel_rfl) (by kernel_rfl) ?_ ?_
        · rintro ⟨_, _, h⟩; exact h
        generalize W5.drew = W3 at hS0 HF hszd ⊢
        refine wpAnyS_take (i := 0) (d := some 19) (v := (.slice va3 vn3 vc3)) rfl rfl rfl (by kernel_rfl) (by kernel_rfl) (by kernel_rfl) (by kernel_rfl) (fun _ _ _ h => h) (.inl ⟨by rfl, fun W hW => by go_simp; try rfl⟩) hS0 ?_
        try simp only [Act.put, List.setIfInBounds_toArray, List.set_cons_zero, List.set_cons_succ]
        refine wpAnyS_take (i := 1) (d := some 20) (v := .int .i64 k) rfl rfl rfl (by kernel_rfl) (by kernel_rfl) (by kernel_rfl) (by kernel_rfl) (fun _ _ _ h => h) (.inl ⟨by rfl, fun W hW => by go_simp; try rfl⟩) hS0 ?_
        try simp only [Act.put, List.setIfInBounds_toArray, List.set_cons_zero, List.set_cons_succ]
        refine wpAnyS_take (i := 2) (d := some 21) (v := .int .u64 k) rfl rfl rfl (by kernel_rfl) (by kernel_rfl) (by kernel_rfl) (by kernel_rfl) (fun _ _ _ h => h) (.inl ⟨by rfl, fun W hW => by go_simp; try rfl⟩) hS0 ?_
        try simp only [Act.put, List.setIfInBounds_toArray, List.set_cons_zero, List.set_cons_succ]
        refine wpAnyS_call (i := 3) (d := some 22) (f := 15) (args := #[.int .u64 k]) (w' := W3) (by kernel_rfl) rfl rfl (by rfl) (by go_simp; try rfl) ?_
        refine (put_any k _ hk64).mono ?_
        rintro e w5 ⟨v5, rfl, hown5, b5⟩
        have hS5 : w5.cell? ⟨w.heap.size, 0, none⟩ = some (.slice va3 vn3 vc3) := keepB b5 hS0
        refine ⟨_, rfl, fun _ => hS5, ?_⟩
        try simp only [Act.put, List.setIfInBounds_toArray, List.set_cons_zero, List.set_cons_succ]
        have hlen : ([0]).length + (putB k).length ≤ 140737488355328 := by
          have h1 := HLE.out
          rw [HOUT.out, ← boolsB_runsL l] at h1
          have h2 := HL.out
          simp only [List.length_append] at h1 ⊢
          omega
        have hb35 : Below (w.heap.size + 4) W3 w5 := b5.mono (by omega)
        obtain ⟨⟨ua, un, uc⟩, w9, hr9, own9, b9, hsz9⟩ := bytes_append (HF.out.2.1.below1 b5) hb35 (hown5.slice u8c_len) (by have := b5.size; omega) hlen
        have hS9 : w9.cell? ⟨w.heap.size, 0, none⟩ = some (.slice va3 vn3 vc3) := below_keep1 b9 hS0 (by omega)
        refine wpAnyS_ran (i := 4) (d := some 23) (v := .slice ua un uc) (w' := w9) (by kernel_rfl) rfl rfl (by rfl) (exec_append rfl rfl rfl hr9) (fun _ => hS9) ?_
        try simp only [Act.put, List.setIfInBounds_toArray, List.set_cons_zero, List.set_cons_succ]
        have ho9 : w9.heap[w.heap.size]? = some (.cells #[.slice va3 vn3 vc3] 34 (0, 0)) := (b9.block _ (by omega)).trans HF.out.1
        have f9 := free_of_one ho9
        refine wpAnyS_mute (i := 5) (d := none) (w' := w9.setCell ⟨w.heap.size, 0, none⟩ (.slice ua un uc)) (by kernel_rfl) rfl rfl (by rfl) (by go_simp; try rfl) (fun h => by cases h) ?_
        try simp only [Act.put, List.setIfInBounds_toArray, List.set_cons_zero, List.set_cons_succ]
        refine wpAnyS_done (by kernel_rfl) ?_ _
        have hx10 : Ext (· = w.heap.size) w9 (w9.setCell ⟨w.heap.size, 0, none⟩ (.slice ua un uc)) := (Ext.refl (· = w.heap.size) w9).setCell (p := ⟨w.heap.size, 0, none⟩) (.inr rfl) (.slice ua un uc)
        have hE9 : Ext (fun k => w.heap.size + 4 ≤ k) W3 w9 := ext_of_below9 b9
        refine ⟨⟨_, one_setCell ho9, ?_, ?_⟩, ?_⟩
        · rw [HOUT.out]
          exact own9.ext hx10 (fun b hb e => by have := (own9.blk b hb).1; omega)
        · exact (HF.out.2.2.1.andThen hE9 (fun i hi e => by omega)).andThen hx10 (fun i hi e => .inl e)
        · exact (HF.out.2.2.2.andThen (S := fun k => k = w.heap.size ∨ W0.heap.size + 1 < k) hE9 (fun i hi e => .inr (by omega))).andThen hx10 (fun i hi e => .inl e)
      · have hv0 : ¬ vn2 = 0 := by rw [hvn]; exact fun e => putT_ne hp (List.eq_nil_of_length_eq_zero e)
        have hv1 : ((vn2 : Int) == 0) = false := by simpa using hv0
        have HOUT : Hid (putT (pre ++ [(k, true)]) = putT pre ++ putB k) := Lib.hid (by rw [putT_snoc, if_neg (fun e => hp e.2)])
        clear ho hown hx hxx hvn hv0
        have HF : Hid (W2.drew.heap[w.heap.size]? = some (.cells #[.slice va2 vn2 vc2] 34 (0, 0)) ∧ Own u8c 1 5 (w.heap.size + 4) W2.drew (.slice va2 vn2 vc2) (putT pre) ∧ Ext (fun k => k = w.heap.size ∨ k = w.heap.size + 1) W0 W2.drew ∧ Ext (fun k => k = w.heap.size ∨ W0.heap.size + 1 < k) W2 W2.drew) := Lib.hid ⟨ho2, hown2, (hxW2).drew, (hxA).drew⟩
        have hS0 : (fun W : World => W.cell? ⟨w.heap.size, 0, none⟩ = some (.slice va2 vn2 vc2)) W2.drew := cell_of_one ho2
        have hszd : W2.heap.size ≤ W2.drew.heap.size := (hxA).size
        gi_upto_region 7 with fail
        refine wpIn_region_s (fun W : World => W.cell? ⟨w.heap.size, 0, none⟩ = some (.slice va2 vn2 vc2)) (fun i => i == 5) (by kernel_rfl) (by kernel_rfl) ?_ ?_
        · rintro ⟨_, _, h⟩; exact h
        generalize W2.drew = W3 at hS0 HF hszd ⊢
        refine wpAnyS_take (i := 0) (d := some 19) (v := (.slice va2 vn2 vc2)) rfl rfl rfl (by kernel_rfl) (by kernel_rfl) (by kernel_rfl) (by kernel_rfl) (fun _ _ _ h => h) (.inl ⟨by rfl, fun W hW => by go_simp; try rfl⟩) hS0 ?_
        try simp only [Act.put, List.setIfInBounds_toArray, List.set_cons_zero, List.set_cons_succ]
        refine wpAnyS_take (i := 1) (d := some 20) (v := .int .i64 k) rfl rfl rfl (by kernel_rfl) (by kernel_rfl) (by kernel_rfl) (by kernel_rfl) (fun _ _ _ h => h) (.inl ⟨by rfl, fun W hW => by go_simp; try rfl⟩) hS0 ?_
        try simp only [Act.put, List.setIfInBounds_toArray, List.set_cons_zero, List.set_cons_succ]
        refine wpAnyS_take (i := 2) (d := some 21) (v := .int .u64 k) rfl rfl rfl (by kernel_rfl) (by kernel_rfl) (by kernel_rfl) (by kernel_rfl) (fun _ _ _ h => h) (.inl ⟨by rfl, fun W hW => by go_simp; try rfl⟩) hS0 ?_
        try simp only [Act.put, List.setIfInBounds_toArray, List.set_cons_zero, List.set_cons_succ]
        refine wpAnyS_call (i := 3) (d := some 22) (f := 15) (args := #[.int .u64 k]) (w' := W3) (by kernel_rfl) rfl rfl (by rfl) (by go_simp; try rfl) ?_
        refine (put_any k _ hk64).mono ?_
        rintro e w5 ⟨v5, rfl, hown5, b5⟩
        have hS5 : w5.cell? ⟨w.heap.size, 0, none⟩ = some (.slice va2 vn2 vc2) := keepB b5 hS0
        refine ⟨_, rfl, fun _ => hS5, ?_⟩
        try simp only [Act.put, List.setIfInBounds_toArray, List.set_cons_zero, List.set_cons_succ]
        have hlen : (putT pre).length + (putB k).length ≤ 140737488355328 := by
          have h1 := HLE.out
          rw [HOUT.out, ← boolsB_runsL l] at h1
          have h2 := HL.out
          simp only [List.length_append] at h1 ⊢
          omega
        have hb35 : Below (w.heap.size + 4) W3 w5 := b5.mono (by omega)
        obtain ⟨⟨ua, un, uc⟩, w9, hr9, own9, b9, hsz9⟩ := bytes_append (HF.out.2.1.below1 b5) hb35 (hown5.slice u8c_len) (by have := b5.size; omega) hlen
        have hS9 : w9.cell? ⟨w.heap.size, 0, none⟩ = some (.slice va2 vn2 vc2) := below_keep1 b9 hS0 (by omega)
        refine wpAnyS_ran (i := 4) (d := some 23) (v := .slice ua un uc) (w' := w9) (by kernel_rfl) rfl rfl (by rfl) (exec_append rfl rfl rfl hr9) (fun _ => hS9) ?_
        try simp only [Act.put, List.setIfInBounds_toArray, List.set_cons_zero, List.set_cons_succ]
        have ho9 : w9.heap[w.heap.size]? = some (.cells #[.slice va2 vn2 vc2] 34 (0, 0)) := (b9.block _ (by omega)).trans HF.out.1
        have f9 := free_of_one ho9
        refine wpAnyS_mute (i := 5) (d := none) (w' := w9.setCell ⟨w.heap.size, 0, none⟩ (.slice ua un uc)) (by kernel_rfl) rfl rfl (by rfl) (by go_simp; try rfl) (fun h => by cases h) ?_
        try simp only [Act.put, List.setIfInBounds_toArray, List.set_cons_zero, List.set_cons_succ]
        refine wpAnyS_done (by kernel_rfl) ?_ _
        have hx10 : Ext (· = w.heap.size) w9 (w9.setCell ⟨w.heap.size, 0, none⟩ (.slice ua un uc)) := (Ext.refl (· = w.heap.size) w9).setCell (p := ⟨w.heap.size, 0, none⟩) (.inr rfl) (.slice ua un uc)
        have hE9 : Ext (fun k => w.heap.size + 4 ≤ k) W3 w9 := ext_of_below9 b9
        refine ⟨⟨_, one_setCell ho9, ?_, ?_⟩, ?_⟩
        · rw [HOUT.out]
          exact own9.ext hx10 (fun b hb e => by have := (own9.blk b hb).1; omega)
        · exact (HF.out.2.2.1.andThen hE9 (fun i hi e => by omega)).andThen hx10 (fun i hi e => .inl e)
        · exact (HF.out.2.2.2.andThen (S := fun k => k = w.heap.size ∨ W0.heap.size + 1 < k) hE9 (fun i hi e => .inr (by omega))).andThen hx10 (fun i hi e => .inl e)
  · rintro A ⟨v, ho, hown, hx⟩ hK
    have hc : A.cell? ⟨w.heap.size, 0, none⟩ = some v := by simp [World.cell?, ho]
    have HX := Lib.hid hx
    have HW := Lib.hid (hx.size)
    have HK := Lib.hid hK
    have HOWN := Lib.hid hown
    have HB0 := Lib.hid hB0
    have HE := Lib.hid (boolsB_runsL l)
    clear ho hx hK hown hB0 hl0 o0 s0 h
    gi_wp2
    have hx7 : Ext (· = W0.heap.size) A (A.putObj W0.heap.size (.deferred none)) := ext_putObjP _ _ _
    have hsz := HW.out
    refine ⟨by simp, .inl ⟨_, _, rfl, run_takeDeferred HK.out, ?_⟩⟩
    refine ⟨_, results_tmp rfl _ _ _, v, rfl, ?_, ?_⟩
    · rw [HE.out]
      exact (HOWN.out.ext hx7 (fun b hb e => by have := (HOWN.out.blk b hb).1; omega)).mono (by omega)
    · exact Ext.new (Ext.new HB0.out HX.out (fun i hi _ e => by omega) (by omega)) hx7 (fun i hi _ e => by omega) (by omega)

end Go.Proofs.YtdlnokbeadkdfaaGreatDoor
