/- batch.taker.truths: a contract. batch.taker.texts: a contract. batch.Encode's rows of numbers: what its inner function keeps. A range over a function whose rounds may write blocks of the caller's own: what has come so far, and the world. A range over a function whose iterator writes blocks of its own; a drawn region in a round, walked as outside. Runs of a list, plain. column.runs at int: the iterator. column.Runs: a contract. -/
import Derived.Test.YtgmdimbiipemhaaGreatDoorSyUA
import Derived.Test.YtgmdimbiipemhaaGreatDoorTT08
import Derived.Test.YtgmdimbiipemhaaGreatDoorInts08
import Derived.Test.YtgmdimbiipemhaaGreatDoorTkP08
import Derived.RangeFuncNested
import Derived.RangeFuncBound
import Derived.RangeFuncCalls
import Derived.RangeFuncLeaves
import Derived.Test.YtgmdimbiipemhaaGreatDoorMaps
import Derived.Test.YtgmdimbiipemhaaGreatDoorHeldT
import Derived.OrdersIn
import Derived.Test.YtgmdimbiipemhaaGreatDoorColP08
import Derived.Shelf.Abstract
import Derived.Shelf.RegionOpen
import Derived.WalkKit
import Derived.OwnWalkIn
import Derived.TacticsInMore
import Derived.LoopNIn
import Derived.LoopIn
import Derived.OneCell
import Derived.Deep.LoopGhost
import Derived.Deep.QuietTactic
import Derived.Deep.CutBlock
import Derived.Deep.DeepCutAuto
import Derived.Test.YtgmdimbiipemhaaGreatDoorBits08
import Derived.Test.YtgmdimbiipemhaaGreatDoorVar08
import Derived.Laws.EntriesVeiled
import Derived.Outline
namespace Go.Proofs.YtgmdimbiipemhaaGreatDoor
open Go.RowKit Go.Deep
set_option linter.unusedSimpArgs false
set_option linter.unusedVariables false
def TakPost (w0 : World) (T : Nat) (tl : Value) (res : Option (List OpD × List UInt8)) (e : Ending) (w' : World) : Prop :=
  (∃ l2 r2 tb', res = some (l2, r2) ∧ e = .returned .nilIface ∧ TKS w0 T w' tb' r2 tl l2) ∨ (res = none ∧ (∃ s m, e = .returned (atErr s m)) ∧ Kp w0 T w')
theorem run_indexT (b off : Nat) : ∀ {c : Nat}, c < 2 → ∀ w : World, (Instr.index 168 (.agg #[.pointer (some ⟨b, off + 22, none⟩), .pointer (some ⟨b, off + 25, none⟩)]) (.int .i64 (c : Int))).run Tryz.prog w = .ok (.pointer (some ⟨b, off + offT c, none⟩)) w
  | 0, _, w => by kernel_rfl
  | 1, _, w => by kernel_rfl
  | n + 2, h, _ => absurd h (by omega)
theorem Own.notg {α β : Type} {ea : α → List Value} {q : Nat} {t : TypeId} {base base2 g : Nat} {W : World} {v v2 : Value} {m : List α} {eb : β → List Value} {q2 : Nat} {t2 : TypeId} {l : List β} (h : Own ea q t base W v m) (h2 : Own eb q2 t2 base2 W v2 l) (ht : t ≠ t2) (hg : v2.ownBlock = some g) (off : Nat) (u : Value) : Own ea q t base (W.setCell ⟨g, off, none⟩ u) v m :=
  h.ext ((Ext.refl (· = g) W).setCell (p := ⟨g, off, none⟩) (.inr rfl) _) (fun b hb e => by
    obtain ⟨c1, g1⟩ := h.tag hb
    obtain ⟨c2, g2⟩ := h2.tag hg
    rw [e, g2] at g1
    cases g1
    exact ht rfl)
theorem Own.notT {α : Type} {ea : α → List Value} {q : Nat} {t : TypeId} {base : Nat} {w0 : World} {T : Nat} {W : World} {tb tl : Value} {r : List UInt8} {ls : List OpD} {v : Value} {m : List α} (h : Own ea q t base W v m) (h2 : TKS w0 T W tb r tl ls) (ht : t ≠ 90) (off : Nat) (u : Value) : Own ea q t base (W.setCell ⟨T, off, none⟩ u) v m :=
  h.ext ((Ext.refl (· = T) W).setCell (p := ⟨T, off, none⟩) (.inr rfl) _) (fun b hb e => by
    obtain ⟨c1, g1⟩ := h.tag hb
    have g2 := h2.cell
    rw [e, g2] at g1
    cases g1
    exact ht rfl)
set_option maxRecDepth 20000 in
set_option maxHeartbeats 4000000 in
theorem taketruths_any (w0 : World) (T : Nat) (w : World) (tb tl : Value) (r : List UInt8) (ls : List OpD) (h : TKS w0 T w tb r tl ls) (hn : ls.length ≤ 200) : Calls Tryz.prog 105 #[.pointer (some ⟨T, 0, none⟩)] w fun e w' => TakPost w0 T tl (tkT ls.length 2 (ls, r)) e w' := by
  obtain ⟨⟨la, ln, lc⟩, el⟩ := h.own.sl
  dsimp only at el
  subst el
  obtain rfl : ln = ls.length := (h.own.nlen OpD.len).1
  have HT := Lib.hid h
  clear h
  go_enter Tryz.func105, Tryz.ntmps105
  go_wp2_with fail
  go_loopg [8] 2 (fun g kv wx => ∃ (k : Nat) (tb : Value) (ls2 : List OpD) (r2 : List UInt8), g = 2 - k ∧ kv = .int .i64 k ∧ k ≤ 2 ∧ Hid (tkT ls.length k (ls, r) = some (ls2, r2) ∧ TKS w0 T wx tb r2 (.slice la ls.length lc) ls2))
  case atStart => exact ⟨0, tb, ls, r, rfl, rfl, by omega, Lib.hid ⟨rfl, HT.out⟩⟩
  case round =>
    clear HT
    obtain ⟨k, tb1, ls2, r2, hg, rfl, hk, HR⟩ := hrel
    have HG := Lib.hid hg
    clear hg
    by_cases hlt : k < 2
    · have hk1 : (k : Int) < 2 := by omega
      obtain ⟨ta, tcap, rfl, htc, htm, -⟩ := id HR.out.2.byt
      unfold maxLen at htm
      have hc0 := HR.out.2.cell
      have HLN : Hid (ls2.length = ls.length) := Lib.hid (tkT_len HR.out.1)
      have hSW : (fun W : World => W.cell? ⟨T, 0, none⟩ = some (.slice ta r2.length tcap) ∧ W.cell? ⟨T, 1, none⟩ = some (.slice la ls.length lc)) wr.drew := ⟨by show World.cell? wr _ = _; simp [World.cell?, hc0], by show World.cell? wr _ = _; simp [World.cell?, hc0]⟩
      clear hc0
      go_upto_region 4 with fail
      refine wp_region_s (fun W : World => W.cell? ⟨T, 0, none⟩ = some (.slice ta r2.length tcap) ∧ W.cell? ⟨T, 1, none⟩ = some (.slice la ls.length lc)) (fun i => i == 16) (by kernel_rfl) ?_
      have HR1 : Hid (TKS w0 T wr.drew (.slice ta r2.length tcap) r2 (.slice la ls.length lc) ls2) := Lib.hid (HR.out.2.below (Below.refl _ _).drew)
      have HB1 : Hid (SliceIs u8c 1 wr.drew (.slice ta r2.length tcap) r2) := Lib.hid HR1.out.bytes
      generalize wr.drew = W1 at hSW HR1 HB1 ⊢
      refine wpAnyS_take (i := 0) (d := some 12) rfl rfl rfl (by kernel_rfl) (by kernel_rfl) (by kernel_rfl) (by kernel_rfl) (fun _ _ _ h => h) (.inl ⟨by rfl, fun W hW => by obtain ⟨q0, q1⟩ := hW; go_simp; try rfl⟩) hSW ?_
      try simp only [Act.put, List.setIfInBounds_toArray, List.set_cons_zero, List.set_cons_succ]
      refine wpAnyS_take (i := 1) (d := some 13) (v := .pointer (some ⟨T, 0, none⟩)) rfl rfl rfl (by kernel_rfl) (by kernel_rfl) (by kernel_rfl) (by kernel_rfl) (fun _ _ _ h => h) (.inl ⟨by rfl, fun W hW => by obtain ⟨q0, q1⟩ := hW; go_simp; try rfl⟩) hSW ?_
      try simp only [Act.put, List.setIfInBounds_toArray, List.set_cons_zero, List.set_cons_succ]
      refine wpAnyS_take (i := 2) (d := some 14) (v := .pointer (some ⟨T, 0, none⟩)) rfl rfl rfl (by kernel_rfl) (by kernel_rfl) (by kernel_rfl) (by kernel_rfl) (fun _ _ _ h => h) (.inl ⟨by rfl, fun W hW => by obtain ⟨q0, q1⟩ := hW; go_simp; try rfl⟩) hSW ?_
      try simp only [Act.put, List.setIfInBounds_toArray, List.set_cons_zero, List.set_cons_succ]
      refine wpAnyS_take (i := 3) (d := some 15) (v := .slice ta r2.length tcap) rfl rfl rfl (by kernel_rfl) (by kernel_rfl) (by kernel_rfl) (by kernel_rfl) (fun _ _ _ h => h) (.inl ⟨by rfl, fun W hW => by obtain ⟨q0, q1⟩ := hW; go_simp; try rfl⟩) hSW ?_
      try simp only [Act.put, List.setIfInBounds_toArray, List.set_cons_zero, List.set_cons_succ]
      refine wpAnyS_take (i := 4) (d := some 16) rfl rfl rfl (by kernel_rfl) (by kernel_rfl) (by kernel_rfl) (by kernel_rfl) (fun _ _ _ h => h) (.inl ⟨by rfl, fun W hW => by obtain ⟨q0, q1⟩ := hW; go_simp; try rfl⟩) hSW ?_
      try simp only [Act.put, List.setIfInBounds_toArray, List.set_cons_zero, List.set_cons_succ]
      refine wpAnyS_take (i := 5) (d := some 17) (v := .pointer (some ⟨T, 0, none⟩)) rfl rfl rfl (by kernel_rfl) (by kernel_rfl) (by kernel_rfl) (by kernel_rfl) (fun _ _ _ h => h) (.inl ⟨by rfl, fun W hW => by obtain ⟨q0, q1⟩ := hW; go_simp; try rfl⟩) hSW ?_
      try simp only [Act.put, List.setIfInBounds_toArray, List.set_cons_zero, List.set_cons_succ]
      refine wpAnyS_take (i := 6) (d := some 18) (v := .pointer (some ⟨T, 1, none⟩)) rfl rfl rfl (by kernel_rfl) (by kernel_rfl) (by kernel_rfl) (by kernel_rfl) (fun _ _ _ h => h) (.inl ⟨by rfl, fun W hW => by obtain ⟨q0, q1⟩ := hW; go_simp; try rfl⟩) hSW ?_
      try simp only [Act.put, List.setIfInBounds_toArray, List.set_cons_zero, List.set_cons_succ]
      refine wpAnyS_take (i := 7) (d := some 19) (v := .slice la ls.length lc) rfl rfl rfl (by kernel_rfl) (by kernel_rfl) (by kernel_rfl) (by kernel_rfl) (fun _ _ _ h => h) (.inl ⟨by rfl, fun W hW => by obtain ⟨q0, q1⟩ := hW; go_simp; try rfl⟩) hSW ?_
      try simp only [Act.put, List.setIfInBounds_toArray, List.set_cons_zero, List.set_cons_succ]
      refine wpAnyS_take (i := 8) (d := some 20) (v := .int .i64 ls.length) rfl rfl rfl (by kernel_rfl) (by kernel_rfl) (by kernel_rfl) (by kernel_rfl) (fun _ _ _ h => h) (.inl ⟨by rfl, fun W hW => by obtain ⟨q0, q1⟩ := hW; go_simp; try rfl⟩) hSW ?_
      try simp only [Act.put, List.setIfInBounds_toArray, List.set_cons_zero, List.set_cons_succ]
      refine wpAnyS_call (i := 9) (d := some 21) (f := 156) (args := #[.slice ta r2.length tcap, .int .i64 ls.length]) (w' := W1) (by kernel_rfl) rfl rfl (by rfl) (by go_simp; try rfl) ?_
      refine (takebools_any _ r2 ls.length _ HB1.out (by omega)).mono ?_
      rintro e w3 (⟨V, u, v, hdec, rfl, hown, hb⟩ | ⟨hdec, rfl, hb⟩)
      · have hS3 : (fun W : World => W.cell? ⟨T, 0, none⟩ = some (.slice ta r2.length tcap) ∧ W.cell? ⟨T, 1, none⟩ = some (.slice la ls.length lc)) w3 := ⟨(hb.cell (p := ⟨T, 0, none⟩) (cell_lt hSW.1)).trans hSW.1, (hb.cell (p := ⟨T, 1, none⟩) (cell_lt hSW.2)).trans hSW.2⟩
        have HR3 := Lib.hid (HR1.out.below hb)
        refine ⟨_, rfl, fun _ => hS3, ?_⟩
        try simp only [Act.put, List.setIfInBounds_toArray, List.set_cons_zero, List.set_cons_succ]
        refine wpAnyS_take (i := 10) (d := some 11) (v := .tuple #[v, .int .i64 (u : Nat), .int .i64 0]) rfl rfl rfl (by kernel_rfl) (by kernel_rfl) (by kernel_rfl) (by kernel_rfl) (fun _ _ _ h => h) (.inl ⟨by rfl, fun W hW => by obtain ⟨q0, q1⟩ := hW; go_simp; try rfl⟩) hS3 ?_
        try simp only [Act.put, List.setIfInBounds_toArray, List.set_cons_zero, List.set_cons_succ]
        refine wpAnyS_take (i := 11) (d := some 22) (v := v) rfl rfl rfl (by kernel_rfl) (by kernel_rfl) (by kernel_rfl) (by kernel_rfl) (fun _ _ _ h => h) (.inl ⟨by rfl, fun W hW => by obtain ⟨q0, q1⟩ := hW; go_simp; try rfl⟩) hS3 ?_
        try simp only [Act.put, List.setIfInBounds_toArray, List.set_cons_zero, List.set_cons_succ]
        refine wpAnyS_take (i := 12) (d := some 23) (v := .int .i64 (u : Nat)) rfl rfl rfl (by kernel_rfl) (by kernel_rfl) (by kernel_rfl) (by kernel_rfl) (fun _ _ _ h => h) (.inl ⟨by rfl, fun W hW => by obtain ⟨q0, q1⟩ := hW; go_simp; try rfl⟩) hS3 ?_
        try simp only [Act.put, List.setIfInBounds_toArray, List.set_cons_zero, List.set_cons_succ]
        refine wpAnyS_take (i := 13) (d := some 24) (v := .int .i64 0) rfl rfl rfl (by kernel_rfl) (by kernel_rfl) (by kernel_rfl) (by kernel_rfl) (fun _ _ _ h => h) (.inl ⟨by rfl, fun W hW => by obtain ⟨q0, q1⟩ := hW; go_simp; try rfl⟩) hS3 ?_
        try simp only [Act.put, List.setIfInBounds_toArray, List.set_cons_zero, List.set_cons_succ]
        refine wpAnyS_take (i := 14) (d := some 4) (v := v) rfl rfl rfl (by kernel_rfl) (by kernel_rfl) (by kernel_rfl) (by kernel_rfl) (fun _ _ _ h => h) (.inl ⟨by rfl, fun W hW => by obtain ⟨q0, q1⟩ := hW; go_simp; try rfl⟩) hS3 ?_
        try simp only [Act.put, List.setIfInBounds_toArray, List.set_cons_zero, List.set_cons_succ]
        refine wpAnyS_take (i := 15) (d := some 5) (v := .int .i64 (u : Nat)) rfl rfl rfl (by kernel_rfl) (by kernel_rfl) (by kernel_rfl) (by kernel_rfl) (fun _ _ _ h => h) (.inl ⟨by rfl, fun W hW => by obtain ⟨q0, q1⟩ := hW; go_simp; try rfl⟩) hS3 ?_
        try simp only [Act.put, List.setIfInBounds_toArray, List.set_cons_zero, List.set_cons_succ]
        refine wpAnyS_ran (i := 16) (d := some 6) (v := .int .i64 0) (w' := w3) (by kernel_rfl) rfl rfl (by rfl) (by go_simp; try rfl) (fun h => by cases h) ?_
        try simp only [Act.put, List.setIfInBounds_toArray, List.set_cons_zero, List.set_cons_succ]
        refine wpAnyS_done (by kernel_rfl) ?_ _
        clear hS3 hSW
        have HDEC := Lib.hid hdec
        clear hdec
        have hcf := decT_facts (by omega) HDEC.out
        have hul := hcf.2
        obtain ⟨⟨pa, pn, pc⟩, ep⟩ := hown.sl
        dsimp only at ep
        subst ep
        obtain rfl : pn = ls.length := by have h := (hown.nlen btc_len).1; rw [hcf.1] at h; exact h
        have HVL : Hid (V.length = ls.length) := Lib.hid hcf.1
        have HOWN : Hid (Own btc 1 4 w0.heap.size w3 (.slice pa ls.length pc) V) := Lib.hid (hown.mono HR1.out.bel.size)
        obtain ⟨a1, c1, hsl, hS1, -⟩ := slice_from (P := Tryz.prog) (ea := u8c) Tryz.underlying22 size_u8 ta r2.length tcap u htc hul
        have HBY := Lib.hid (hS1 w0 r2 rfl HR3.out.byt)
        have hc3 := HR3.out.cell
        have cT : w3.cell? ⟨T, 0, none⟩ = some (.slice ta r2.length tcap) := by simp [World.cell?, hc3]
        have cT1 : w3.cell? ⟨T, 1, none⟩ = some (.slice la ls.length lc) := by simp [World.cell?, hc3]
        have fT : w3.frozen? ⟨T, 0, none⟩ = false := by simp [World.frozen?, hc3]
        have HN0 : Hid (TKS w0 T (w3.setCell ⟨T, 0, none⟩ (.slice a1 (r2.length - u) c1)) (.slice a1 (r2.length - u) c1) (r2.drop u) (.slice la ls.length lc) (mixT k V 0 ls2) ∧ Own btc 1 4 w0.heap.size (w3.setCell ⟨T, 0, none⟩ (.slice a1 (r2.length - u) c1)) (.slice pa ls.length pc) V) := Lib.hid ⟨by unfold mixT; rw [mixG_zero]; exact HR3.out.setB HBY.out, HOWN.out.notT HR3.out (by decide) _ _⟩
        have HST := Lib.hid (tkT_step HR.out.1 HDEC.out)
        clear hown hcf hS1 hc3 HOWN HR HR1 HB1 HR3 HBY
        go_wp2_with fail
        clear cT cT1 fT hsl
        go_loopg [45] ls.length (fun g kv wx => ∃ i : Nat, g = ls.length - i ∧ kv = .int .i64 i ∧ i ≤ ls.length ∧ Hid (TKS w0 T wx (.slice a1 (r2.length - u) c1) (r2.drop u) (.slice la ls.length lc) (mixT k V i ls2) ∧ Own btc 1 4 w0.heap.size wx (.slice pa ls.length pc) V))
        case atStart => exact ⟨0, rfl, rfl, by omega, HN0⟩
        case round =>
          clear HN0
          obtain ⟨i, hg2, rfl, hi, HI⟩ := hrel
          have HG2 := Lib.hid hg2
          clear hg2
          by_cases hli : i < ls.length
          · have hi1 : (i : Int) < (ls.length : Int) := by omega
            have hi0 : (0 : Int) ≤ (i : Int) := by omega
            obtain ⟨x, hx⟩ : ∃ x, ls2[i]? = some x := ⟨_, List.getElem?_eq_getElem (by rw [HLN.out]; exact hli)⟩
            have HX := Lib.hid hx
            clear hx
            obtain ⟨y, hy⟩ : ∃ y, V[i]? = some y := ⟨_, List.getElem?_eq_getElem (by rw [HVL.out]; exact hli)⟩
            have HY := Lib.hid hy
            clear hy
            obtain ⟨g, cap, e, hg1, hg3⟩ := HI.out.1.own.eq_slice.resolve_left (fun e => by have h2 := e.2; have h3 := mixG_len (fun j o => o.setT k (V.getD j false)) i ls2; rw [show mixG (fun j o => o.setT k (V.getD j false)) i ls2 = [] from h2, HLN.out] at h3; simp at h3; omega)
            injection e with e1 e2 e3
            subst e1 e3
            clear e2
            obtain ⟨vb, vo, ev, cv⟩ := (HI.out.2.slice btc_len).at1 HY.out rfl
            cases ev
            have hc0 := HI.out.1.cell
            have hSW : (fun W : World => W.cell? ⟨T, 1, none⟩ = some (.slice (some ⟨g, 0, none⟩) ls.length lc) ∧ W.cell? ⟨vb, vo + i, none⟩ = some (.bool y)) wr.drew := ⟨by show World.cell? wr _ = _; simp [World.cell?, hc0], cv⟩
            have hix := fun W : World => run_indexT g (i * 26) hlt W
            clear hc0 cv
            go_upto_region 11 with fail
            refine wp_region_s (fun W : World => W.cell? ⟨T, 1, none⟩ = some (.slice (some ⟨g, 0, none⟩) ls.length lc) ∧ W.cell? ⟨vb, vo + i, none⟩ = some (.bool y)) (fun i => i == 14) (by kernel_rfl) ?_
            have HI1 : Hid (TKS w0 T wr.drew (.slice a1 (r2.length - u) c1) (r2.drop u) (.slice (some ⟨g, 0, none⟩) ls.length lc) (mixT k V i ls2) ∧ Own btc 1 4 w0.heap.size wr.drew (.slice (some ⟨vb, vo, none⟩) ls.length pc) V) := Lib.hid ⟨HI.out.1.below (Below.refl _ _).drew, HI.out.2.below1 (Below.refl _ _).drew⟩
            generalize wr.drew = W2 at hSW HI1 ⊢
            refine wpAnyS_take (i := 0) (d := some 48) rfl rfl rfl (by kernel_rfl) (by kernel_rfl) (by kernel_rfl) (by kernel_rfl) (fun _ _ _ h => h) (.inl ⟨by rfl, fun W hW => by obtain ⟨q0, q1⟩ := hW; go_simp; try rfl⟩) hSW ?_
            try simp only [Act.put, List.setIfInBounds_toArray, List.set_cons_zero, List.set_cons_succ]
            refine wpAnyS_take (i := 1) (d := some 49) (v := .pointer (some ⟨T, 0, none⟩)) rfl rfl rfl (by kernel_rfl) (by kernel_rfl) (by kernel_rfl) (by kernel_rfl) (fun _ _ _ h => h) (.inl ⟨by rfl, fun W hW => by obtain ⟨q0, q1⟩ := hW; go_simp; try rfl⟩) hSW ?_
            try simp only [Act.put, List.setIfInBounds_toArray, List.set_cons_zero, List.set_cons_succ]
            refine wpAnyS_take (i := 2) (d := some 50) (v := .pointer (some ⟨T, 1, none⟩)) rfl rfl rfl (by kernel_rfl) (by kernel_rfl) (by kernel_rfl) (by kernel_rfl) (fun _ _ _ h => h) (.inl ⟨by rfl, fun W hW => by obtain ⟨q0, q1⟩ := hW; go_simp; try rfl⟩) hSW ?_
            try simp only [Act.put, List.setIfInBounds_toArray, List.set_cons_zero, List.set_cons_succ]
            refine wpAnyS_take (i := 3) (d := some 51) (v := .slice (some ⟨g, 0, none⟩) ls.length lc) rfl rfl rfl (by kernel_rfl) (by kernel_rfl) (by kernel_rfl) (by kernel_rfl) (fun _ _ _ h => h) (.inl ⟨by rfl, fun W hW => by obtain ⟨q0, q1⟩ := hW; go_simp; try rfl⟩) hSW ?_
            try simp only [Act.put, List.setIfInBounds_toArray, List.set_cons_zero, List.set_cons_succ]
            refine wpAnyS_take (i := 4) (d := some 52) (v := .int .i64 i) rfl rfl rfl (by kernel_rfl) (by kernel_rfl) (by kernel_rfl) (by kernel_rfl) (fun _ _ _ h => h) (.inl ⟨by rfl, fun W hW => by obtain ⟨q0, q1⟩ := hW; go_simp; try rfl⟩) hSW ?_
            try simp only [Act.put, List.setIfInBounds_toArray, List.set_cons_zero, List.set_cons_succ]
            refine wpAnyS_take (i := 5) (d := some 53) (v := .pointer (some ⟨g, i * 26, none⟩)) rfl rfl rfl (by kernel_rfl) (by kernel_rfl) (by kernel_rfl) (by kernel_rfl) (fun _ _ _ h => h) (.inl ⟨by rfl, fun W hW => by obtain ⟨q0, q1⟩ := hW; go_simp; try rfl⟩) hSW ?_
            try simp only [Act.put, List.setIfInBounds_toArray, List.set_cons_zero, List.set_cons_succ]
            refine wpAnyS_take (i := 7) (d := some 55) (v := .int .i64 k) rfl rfl rfl (by kernel_rfl) (by kernel_rfl) (by kernel_rfl) (by kernel_rfl) (fun _ _ _ h => h) (.inl ⟨by rfl, fun W hW => by obtain ⟨q0, q1⟩ := hW; go_simp; try rfl⟩) hSW ?_
            try simp only [Act.put, List.setIfInBounds_toArray, List.set_cons_zero, List.set_cons_succ]
            refine wpAnyS_take (i := 9) (d := some 57) (v := .slice (some ⟨vb, vo, none⟩) ls.length pc) rfl rfl rfl (by kernel_rfl) (by kernel_rfl) (by kernel_rfl) (by kernel_rfl) (fun _ _ _ h => h) (.inl ⟨by rfl, fun W hW => by obtain ⟨q0, q1⟩ := hW; go_simp; try rfl⟩) hSW ?_
            try simp only [Act.put, List.setIfInBounds_toArray, List.set_cons_zero, List.set_cons_succ]
            refine wpAnyS_take (i := 10) (d := some 58) (v := .int .i64 i) rfl rfl rfl (by kernel_rfl) (by kernel_rfl) (by kernel_rfl) (by kernel_rfl) (fun _ _ _ h => h) (.inl ⟨by rfl, fun W hW => by obtain ⟨q0, q1⟩ := hW; go_simp; try rfl⟩) hSW ?_
            try simp only [Act.put, List.setIfInBounds_toArray, List.set_cons_zero, List.set_cons_succ]
            refine wpAnyS_take (i := 11) (d := some 59) (v := .pointer (some ⟨vb, vo + i, none⟩)) rfl rfl rfl (by kernel_rfl) (by kernel_rfl) (by kernel_rfl) (by kernel_rfl) (fun _ _ _ h => h) (.inl ⟨by rfl, fun W hW => by obtain ⟨q0, q1⟩ := hW; go_simp; try rfl⟩) hSW ?_
            try simp only [Act.put, List.setIfInBounds_toArray, List.set_cons_zero, List.set_cons_succ]
            refine wpAnyS_take (i := 12) (d := some 60) (v := .bool y) rfl rfl rfl (by kernel_rfl) (by kernel_rfl) (by kernel_rfl) (by kernel_rfl) (fun _ _ _ h => h) (.inl ⟨by rfl, fun W hW => by obtain ⟨q0, q1⟩ := hW; go_simp; try rfl⟩) hSW ?_
            try simp only [Act.put, List.setIfInBounds_toArray, List.set_cons_zero, List.set_cons_succ]
            refine wpAnyS_call (i := 6) (d := some 54) (f := 96) (args := #[.pointer (some ⟨g, i * 26, none⟩)]) (w' := W2) (by kernel_rfl) rfl rfl (by rfl) (by go_simp; try rfl) ?_
            refine (truths_any g (i * 26) W2).mono ?_
            rintro e w4 ⟨rfl, hb4⟩
            have hS4 : (fun W : World => W.cell? ⟨T, 1, none⟩ = some (.slice (some ⟨g, 0, none⟩) ls.length lc) ∧ W.cell? ⟨vb, vo + i, none⟩ = some (.bool y)) w4 := ⟨(hb4.cell (p := ⟨T, 1, none⟩) (cell_lt hSW.1)).trans hSW.1, (hb4.cell (p := ⟨vb, vo + i, none⟩) (cell_lt hSW.2)).trans hSW.2⟩
            have HI4 := Lib.hid (And.intro (HI1.out.1.below hb4) (HI1.out.2.below1 hb4))
            refine ⟨_, rfl, fun _ => hS4, ?_⟩
            try simp only [Act.put, List.setIfInBounds_toArray, List.set_cons_zero, List.set_cons_succ]
            refine wpAnyS_take (i := 8) (d := some 56) (v := .pointer (some ⟨g, i * 26 + offT k, none⟩)) rfl rfl rfl (by kernel_rfl) (by kernel_rfl) (by kernel_rfl) (by kernel_rfl) (fun _ _ _ h => h) (.inl ⟨by rfl, fun W hW => by obtain ⟨q0, q1⟩ := hW; go_simp; try rfl⟩) hS4 ?_
            try simp only [Act.put, List.setIfInBounds_toArray, List.set_cons_zero, List.set_cons_succ]
            refine wpAnyS_take (i := 13) (d := some 61) (v := .pointer (some ⟨g, i * 26 + offT k, none⟩)) rfl rfl rfl (by kernel_rfl) (by kernel_rfl) (by kernel_rfl) (by kernel_rfl) (fun _ _ _ h => h) (.inl ⟨by rfl, fun W hW => by obtain ⟨q0, q1⟩ := hW; go_simp; try rfl⟩) hS4 ?_
            try simp only [Act.put, List.setIfInBounds_toArray, List.set_cons_zero, List.set_cons_succ]
            have hln : ls.length = (mixT k V i ls2).length := by unfold mixT; rw [mixG_len]; exact HLN.out.symm
            have hk4 := HI4.out.1
            rw [hln] at hk4
            obtain ⟨u0, hu0⟩ : ∃ u0, x.cells[offT k]? = some u0 := ⟨_, List.getElem?_eq_getElem (by rw [OpD.len]; exact offT_lt k)⟩
            have c4 := hk4.own.cellAt OpD.len (mixG_at _ i HX.out) hu0
            have f4 := hk4.own.free (i * 26 + offT k)
            have hst := hk4.setOp (mixG_at _ i HX.out) (offT_lt k) (setT_cells x k y)
            have HN : Hid (TKS w0 T (w4.setCell ⟨g, i * 26 + offT k, none⟩ (.bool y)) (.slice a1 (r2.length - u) c1) (r2.drop u) (.slice (some ⟨g, 0, none⟩) ls.length lc) (mixT k V (i + 1) ls2) ∧ Own btc 1 4 w0.heap.size (w4.setCell ⟨g, i * 26 + offT k, none⟩ (.bool y)) (.slice (some ⟨vb, vo, none⟩) ls.length pc) V) := Lib.hid (by
              refine ⟨?_, HI4.out.2.notg HI4.out.1.own (by decide) rfl _ _⟩
              have e : mixT k V (i + 1) ls2 = (mixT k V i ls2).set i (x.setT k y) := by
                have hyg : V.getD i false = y := by rw [List.getD_eq_getElem?_getD, HY.out]; rfl
                unfold mixT
                rw [mixG_succ _ _ i HX.out (fun _ _ => rfl), hyg]
              rw [e, hln]
              exact hst)
            clear hk4 hst hu0 hln
            refine wpAnyS_mute (i := 14) (d := none) (w' := w4.setCell ⟨g, i * 26 + offT k, none⟩ (.bool y)) (by kernel_rfl) rfl rfl (by rfl) (by go_simp; try rfl) (fun h => by cases h) ?_
            try simp only [Act.put, List.setIfInBounds_toArray, List.set_cons_zero, List.set_cons_succ]
            refine wpAnyS_done (by kernel_rfl) ?_ _
            clear hS4 hSW HI4 HI1 HI c4 f4 hix
            go_wp2_with fail
            go_roundg (ls.length - (i + 1))
            case measure => rw [HG2.out]; omega
            case rel => exact ⟨i + 1, rfl, by simp, by omega, HN⟩
          · obtain rfl : i = ls.length := by omega
            have hi1 : ¬ (ls.length : Int) < (ls.length : Int) := by omega
            have HN : Hid (tkT ls.length (k + 1) (ls, r) = some (mixT k V ls.length ls2, r2.drop u) ∧ TKS w0 T wr (.slice a1 (r2.length - u) c1) (r2.drop u) (.slice la ls.length lc) (mixT k V ls.length ls2)) := Lib.hid ⟨HST.out, HI.out.1⟩
            clear HI HST
            go_wp2_with fail
            go_roundg (2 - (k + 1))
            case measure => rw [HG.out]; omega
            case rel => exact ⟨k + 1, _, _, _, rfl, by simp, by omega, HN⟩
      · have hS3 : (fun W : World => W.cell? ⟨T, 0, none⟩ = some (.slice ta r2.length tcap) ∧ W.cell? ⟨T, 1, none⟩ = some (.slice la ls.length lc)) w3 := ⟨(hb.cell (p := ⟨T, 0, none⟩) (cell_lt hSW.1)).trans hSW.1, (hb.cell (p := ⟨T, 1, none⟩) (cell_lt hSW.2)).trans hSW.2⟩
        have HR3 := Lib.hid (HR1.out.below hb)
        refine ⟨_, rfl, fun _ => hS3, ?_⟩
        try simp only [Act.put, List.setIfInBounds_toArray, List.set_cons_zero, List.set_cons_succ]
        refine wpAnyS_take (i := 10) (d := some 11) (v := .tuple #[.slice none 0 0, .int .i64 0, .int .i64 41]) rfl rfl rfl (by kernel_rfl) (by kernel_rfl) (by kernel_rfl) (by kernel_rfl) (fun _ _ _ h => h) (.inl ⟨by rfl, fun W hW => by obtain ⟨q0, q1⟩ := hW; go_simp; try rfl⟩) hS3 ?_
        try simp only [Act.put, List.setIfInBounds_toArray, List.set_cons_zero, List.set_cons_succ]
        refine wpAnyS_take (i := 11) (d := some 22) (v := .slice none 0 0) rfl rfl rfl (by kernel_rfl) (by kernel_rfl) (by kernel_rfl) (by kernel_rfl) (fun _ _ _ h => h) (.inl ⟨by rfl, fun W hW => by obtain ⟨q0, q1⟩ := hW; go_simp; try rfl⟩) hS3 ?_
        try simp only [Act.put, List.setIfInBounds_toArray, List.set_cons_zero, List.set_cons_succ]
        refine wpAnyS_take (i := 12) (d := some 23) (v := .int .i64 0) rfl rfl rfl (by kernel_rfl) (by kernel_rfl) (by kernel_rfl) (by kernel_rfl) (fun _ _ _ h => h) (.inl ⟨by rfl, fun W hW => by obtain ⟨q0, q1⟩ := hW; go_simp; try rfl⟩) hS3 ?_
        try simp only [Act.put, List.setIfInBounds_toArray, List.set_cons_zero, List.set_cons_succ]
        refine wpAnyS_take (i := 13) (d := some 24) (v := .int .i64 41) rfl rfl rfl (by kernel_rfl) (by kernel_rfl) (by kernel_rfl) (by kernel_rfl) (fun _ _ _ h => h) (.inl ⟨by rfl, fun W hW => by obtain ⟨q0, q1⟩ := hW; go_simp; try rfl⟩) hS3 ?_
        try simp only [Act.put, List.setIfInBounds_toArray, List.set_cons_zero, List.set_cons_succ]
        refine wpAnyS_take (i := 14) (d := some 4) (v := .slice none 0 0) rfl rfl rfl (by kernel_rfl) (by kernel_rfl) (by kernel_rfl) (by kernel_rfl) (fun _ _ _ h => h) (.inl ⟨by rfl, fun W hW => by obtain ⟨q0, q1⟩ := hW; go_simp; try rfl⟩) hS3 ?_
        try simp only [Act.put, List.setIfInBounds_toArray, List.set_cons_zero, List.set_cons_succ]
        refine wpAnyS_take (i := 15) (d := some 5) (v := .int .i64 0) rfl rfl rfl (by kernel_rfl) (by kernel_rfl) (by kernel_rfl) (by kernel_rfl) (fun _ _ _ h => h) (.inl ⟨by rfl, fun W hW => by obtain ⟨q0, q1⟩ := hW; go_simp; try rfl⟩) hS3 ?_
        try simp only [Act.put, List.setIfInBounds_toArray, List.set_cons_zero, List.set_cons_succ]
        refine wpAnyS_ran (i := 16) (d := some 6) (v := .int .i64 41) (w' := w3) (by kernel_rfl) rfl rfl (by rfl) (by go_simp; try rfl) (fun h => by cases h) ?_
        try simp only [Act.put, List.setIfInBounds_toArray, List.set_cons_zero, List.set_cons_succ]
        refine wpAnyS_done (by kernel_rfl) ?_ _
        clear hS3 hSW
        have HBAD : Hid (tkT ls.length 2 (ls, r) = none) := Lib.hid (tkT_bad HR.out.1 hdec hlt)
        clear hdec
        go_wp2_with fail
        go_ret
        exact Or.inr ⟨HBAD.out, ⟨_, _, rfl⟩, HR3.out.kp⟩
    · obtain rfl : k = 2 := by omega
      have hk1 : ¬ (2 : Int) < 2 := by omega
      clear hk hlt
      go_wp2_with fail
      go_ret
      exact Or.inl ⟨_, _, _, HR.out.1, rfl, HR.out.2⟩
end Go.Proofs.YtgmdimbiipemhaaGreatDoor
namespace Go.Proofs.YtgmdimbiipemhaaGreatDoor
open Go.RowKit Go.Deep
set_option linter.unusedSimpArgs false
set_option linter.unusedVariables false
theorem slice_to {P : Program} {α : Type} {ea : α → List Value} {q : Nat} {t e : TypeId} (ht : P.underlying t = some (.slice e)) (hsz : (P.info? e).map (·.size) = some q) (a : Option Addr) (n cap p : Nat) (hn : n ≤ cap) (hp : p ≤ n) :
    ∃ a', (∀ W, (Instr.slice t (.slice a n cap) none (some (.int .i64 (p : Int))) none).run P W = .ok (.slice a' p cap) W) ∧ (∀ W (l : List α), l.length = n → SliceIs ea q W (.slice a n cap) l → SliceIs ea q W (.slice a' p cap) (l.take p)) := by
  obtain ⟨i, hi, hq⟩ : ∃ i, P.info? e = some i ∧ i.size = q := by
    cases h : P.info? e with
    | none => rw [h] at hsz; cases hsz
    | some i => rw [h] at hsz; exact ⟨i, rfl, Option.some.inj hsz⟩
  have hpc : p ≤ cap := by omega
  refine ⟨if cap = 0 then a else a.map (·.add 0), fun W => ?_, fun W l hl h => ?_⟩
  · simp [Instr.slice, Instr.sliceBounds, Instr.sliceBound, asIntOf, run_underlying ht, sizeOf, typeInfo, hi, hq, hpc, hn, eq_comm]
  · by_cases hl0 : l = []
    · subst hl0
      simp at hl
      obtain ⟨a2, c2, e2, h1, h2, h3⟩ := h
      cases e2
      have hp0 : p = 0 := by omega
      subst hp0
      exact ⟨_, _, rfl, Nat.zero_le _, h2, fun hne => absurd rfl hne⟩
    · have h5 := SliceIs.take1 (k := p) h (by omega)
      have e : (if cap = 0 then a else a.map (·.add 0)) = a := by
        obtain ⟨a2, c2, e2, h1, h2, h3⟩ := h
        cases e2
        obtain ⟨b, off, rfl, _⟩ := h3 hl0
        split
        · rfl
        · simp [addr_add8]
      rw [e]
      exact h5
theorem run_indexX (b off : Nat) : ∀ {c : Nat}, c < 3 → ∀ w : World, (Instr.index 172 (.agg #[.pointer (some ⟨b, off + 17, none⟩), .pointer (some ⟨b, off + 18, none⟩), .pointer (some ⟨b, off + 19, none⟩)]) (.int .i64 (c : Int))).run Tryz.prog w = .ok (.pointer (some ⟨b, off + offX c, none⟩)) w
  | 0, _, w => by kernel_rfl
  | 1, _, w => by kernel_rfl
  | 2, _, w => by kernel_rfl
  | n + 3, h, _ => absurd h (by omega)
theorem mixX_succ (c i : Nat) {X : List ByteArray} {ls : List OpD} {x : OpD} {s : ByteArray} (hX : X.length = i) (hx : ls[i]? = some x) : mixX c (X ++ [s]) (i + 1) ls = (mixX c X i ls).set i (x.setX c s) := by
  have h1 : (X ++ [s]).getD i noText = s := by rw [List.getD_eq_getElem?_getD, List.getElem?_append_right (by omega), hX, Nat.sub_self]; rfl
  unfold mixX
  rw [mixG_succ (fun j o => o.setX c (X.getD j noText)) (fun j o => o.setX c ((X ++ [s]).getD j noText)) i hx (fun j hj => by
    funext o
    congr 1
    rw [List.getD_eq_getElem?_getD, List.getD_eq_getElem?_getD, List.getElem?_append_left (by omega)]), h1]
set_option maxRecDepth 20000 in
set_option maxHeartbeats 4000000 in
theorem taketexts_any (w0 : World) (T : Nat) (w : World) (tb tl : Value) (r : List UInt8) (ls : List OpD) (c : Nat) (hc : c < 3) (h : TKS w0 T w tb r tl ls) (hn : ls.length ≤ 200) : Calls Tryz.prog 106 #[.pointer (some ⟨T, 0, none⟩), .int .i64 c] w fun e w' => TakPost w0 T tl (tkX1 ls.length c (ls, r)) e w' := by
  obtain ⟨⟨la, ln, lc⟩, el⟩ := h.own.sl
  dsimp only at el
  subst el
  obtain rfl : ln = ls.length := (h.own.nlen OpD.len).1
  obtain ⟨ta, tcap, rfl, htc, htm, -⟩ := id h.byt
  unfold maxLen at htm
  have hc0 := h.cell
  have HT := Lib.hid h
  clear h
  have hSW : (fun W : World => W.cell? ⟨T, 0, none⟩ = some (.slice ta r.length tcap) ∧ W.cell? ⟨T, 1, none⟩ = some (.slice la ls.length lc)) w.drew := ⟨by show World.cell? w _ = _; simp [World.cell?, hc0], by show World.cell? w _ = _; simp [World.cell?, hc0]⟩
  clear hc0
  go_enter Tryz.func106, Tryz.ntmps106
  go_upto_region 1 with fail
  refine wp_region_s (fun W : World => W.cell? ⟨T, 0, none⟩ = some (.slice ta r.length tcap) ∧ W.cell? ⟨T, 1, none⟩ = some (.slice la ls.length lc)) (fun i => i == 16) (by kernel_rfl) ?_
  have HR1 : Hid (TKS w0 T w.drew (.slice ta r.length tcap) r (.slice la ls.length lc) ls) := Lib.hid (HT.out.below (Below.refl _ _).drew)
  have HB1 : Hid (SliceIs u8c 1 w.drew (.slice ta r.length tcap) r) := Lib.hid HR1.out.bytes
  generalize w.drew = W1 at hSW HR1 HB1 ⊢
  refine wpAnyS_take (i := 0) (d := some 11) rfl rfl rfl (by kernel_rfl) (by kernel_rfl) (by kernel_rfl) (by kernel_rfl) (fun _ _ _ h => h) (.inl ⟨by rfl, fun W hW => by obtain ⟨q0, q1⟩ := hW; go_simp; try rfl⟩) hSW ?_
  try simp only [Act.put, List.setIfInBounds_toArray, List.set_cons_zero, List.set_cons_succ]
  refine wpAnyS_take (i := 1) (d := some 12) (v := .pointer (some ⟨T, 0, none⟩)) rfl rfl rfl (by kernel_rfl) (by kernel_rfl) (by kernel_rfl) (by kernel_rfl) (fun _ _ _ h => h) (.inl ⟨by rfl, fun W hW => by obtain ⟨q0, q1⟩ := hW; go_simp; try rfl⟩) hSW ?_
  try simp only [Act.put, List.setIfInBounds_toArray, List.set_cons_zero, List.set_cons_succ]
  refine wpAnyS_take (i := 2) (d := some 13) (v := .pointer (some ⟨T, 0, none⟩)) rfl rfl rfl (by kernel_rfl) (by kernel_rfl) (by kernel_rfl) (by kernel_rfl) (fun _ _ _ h => h) (.inl ⟨by rfl, fun W hW => by obtain ⟨q0, q1⟩ := hW; go_simp; try rfl⟩) hSW ?_
  try simp only [Act.put, List.setIfInBounds_toArray, List.set_cons_zero, List.set_cons_succ]
  refine wpAnyS_take (i := 3) (d := some 14) (v := .slice ta r.length tcap) rfl rfl rfl (by kernel_rfl) (by kernel_rfl) (by kernel_rfl) (by kernel_rfl) (fun _ _ _ h => h) (.inl ⟨by rfl, fun W hW => by obtain ⟨q0, q1⟩ := hW; go_simp; try rfl⟩) hSW ?_
  try simp only [Act.put, List.setIfInBounds_toArray, List.set_cons_zero, List.set_cons_succ]
  refine wpAnyS_take (i := 4) (d := some 15) rfl rfl rfl (by kernel_rfl) (by kernel_rfl) (by kernel_rfl) (by kernel_rfl) (fun _ _ _ h => h) (.inl ⟨by rfl, fun W hW => by obtain ⟨q0, q1⟩ := hW; go_simp; try rfl⟩) hSW ?_
  try simp only [Act.put, List.setIfInBounds_toArray, List.set_cons_zero, List.set_cons_succ]
  refine wpAnyS_take (i := 5) (d := some 16) (v := .pointer (some ⟨T, 0, none⟩)) rfl rfl rfl (by kernel_rfl) (by kernel_rfl) (by kernel_rfl) (by kernel_rfl) (fun _ _ _ h => h) (.inl ⟨by rfl, fun W hW => by obtain ⟨q0, q1⟩ := hW; go_simp; try rfl⟩) hSW ?_
  try simp only [Act.put, List.setIfInBounds_toArray, List.set_cons_zero, List.set_cons_succ]
  refine wpAnyS_take (i := 6) (d := some 17) (v := .pointer (some ⟨T, 1, none⟩)) rfl rfl rfl (by kernel_rfl) (by kernel_rfl) (by kernel_rfl) (by kernel_rfl) (fun _ _ _ h => h) (.inl ⟨by rfl, fun W hW => by obtain ⟨q0, q1⟩ := hW; go_simp; try rfl⟩) hSW ?_
  try simp only [Act.put, List.setIfInBounds_toArray, List.set_cons_zero, List.set_cons_succ]
  refine wpAnyS_take (i := 7) (d := some 18) (v := .slice la ls.length lc) rfl rfl rfl (by kernel_rfl) (by kernel_rfl) (by kernel_rfl) (by kernel_rfl) (fun _ _ _ h => h) (.inl ⟨by rfl, fun W hW => by obtain ⟨q0, q1⟩ := hW; go_simp; try rfl⟩) hSW ?_
  try simp only [Act.put, List.setIfInBounds_toArray, List.set_cons_zero, List.set_cons_succ]
  refine wpAnyS_take (i := 8) (d := some 19) (v := .int .i64 ls.length) rfl rfl rfl (by kernel_rfl) (by kernel_rfl) (by kernel_rfl) (by kernel_rfl) (fun _ _ _ h => h) (.inl ⟨by rfl, fun W hW => by obtain ⟨q0, q1⟩ := hW; go_simp; try rfl⟩) hSW ?_
  try simp only [Act.put, List.setIfInBounds_toArray, List.set_cons_zero, List.set_cons_succ]
  refine wpAnyS_call (i := 9) (d := some 20) (f := 153) (args := #[.slice ta r.length tcap, .int .i64 ls.length]) (w' := W1) (by kernel_rfl) rfl rfl (by rfl) (by go_simp; try rfl) ?_
  refine (takeruns_any _ r ls.length _ HB1.out (by omega)).mono ?_
  rintro e w3 (⟨V, u, v, hdec, rfl, hown, hb⟩ | ⟨hdec, rfl, hb⟩)
  · have hS3 : (fun W : World => W.cell? ⟨T, 0, none⟩ = some (.slice ta r.length tcap) ∧ W.cell? ⟨T, 1, none⟩ = some (.slice la ls.length lc)) w3 := ⟨(hb.cell (p := ⟨T, 0, none⟩) (cell_lt hSW.1)).trans hSW.1, (hb.cell (p := ⟨T, 1, none⟩) (cell_lt hSW.2)).trans hSW.2⟩
    have HR3 := Lib.hid (HR1.out.below hb)
    refine ⟨_, rfl, fun _ => hS3, ?_⟩
    try simp only [Act.put, List.setIfInBounds_toArray, List.set_cons_zero, List.set_cons_succ]
    refine wpAnyS_take (i := 10) (d := some 10) (v := .tuple #[v, .int .i64 (u : Nat), .int .i64 0]) rfl rfl rfl (by kernel_rfl) (by kernel_rfl) (by kernel_rfl) (by kernel_rfl) (fun _ _ _ h => h) (.inl ⟨by rfl, fun W hW => by obtain ⟨q0, q1⟩ := hW; go_simp; try rfl⟩) hS3 ?_
    try simp only [Act.put, List.setIfInBounds_toArray, List.set_cons_zero, List.set_cons_succ]
    refine wpAnyS_take (i := 11) (d := some 21) (v := v) rfl rfl rfl (by kernel_rfl) (by kernel_rfl) (by kernel_rfl) (by kernel_rfl) (fun _ _ _ h => h) (.inl ⟨by rfl, fun W hW => by obtain ⟨q0, q1⟩ := hW; go_simp; try rfl⟩) hS3 ?_
    try simp only [Act.put, List.setIfInBounds_toArray, List.set_cons_zero, List.set_cons_succ]
    refine wpAnyS_take (i := 12) (d := some 22) (v := .int .i64 (u : Nat)) rfl rfl rfl (by kernel_rfl) (by kernel_rfl) (by kernel_rfl) (by kernel_rfl) (fun _ _ _ h => h) (.inl ⟨by rfl, fun W hW => by obtain ⟨q0, q1⟩ := hW; go_simp; try rfl⟩) hS3 ?_
    try simp only [Act.put, List.setIfInBounds_toArray, List.set_cons_zero, List.set_cons_succ]
    refine wpAnyS_take (i := 13) (d := some 23) (v := .int .i64 0) rfl rfl rfl (by kernel_rfl) (by kernel_rfl) (by kernel_rfl) (by kernel_rfl) (fun _ _ _ h => h) (.inl ⟨by rfl, fun W hW => by obtain ⟨q0, q1⟩ := hW; go_simp; try rfl⟩) hS3 ?_
    try simp only [Act.put, List.setIfInBounds_toArray, List.set_cons_zero, List.set_cons_succ]
    refine wpAnyS_take (i := 14) (d := some 5) (v := v) rfl rfl rfl (by kernel_rfl) (by kernel_rfl) (by kernel_rfl) (by kernel_rfl) (fun _ _ _ h => h) (.inl ⟨by rfl, fun W hW => by obtain ⟨q0, q1⟩ := hW; go_simp; try rfl⟩) hS3 ?_
    try simp only [Act.put, List.setIfInBounds_toArray, List.set_cons_zero, List.set_cons_succ]
    refine wpAnyS_take (i := 15) (d := some 6) (v := .int .i64 (u : Nat)) rfl rfl rfl (by kernel_rfl) (by kernel_rfl) (by kernel_rfl) (by kernel_rfl) (fun _ _ _ h => h) (.inl ⟨by rfl, fun W hW => by obtain ⟨q0, q1⟩ := hW; go_simp; try rfl⟩) hS3 ?_
    try simp only [Act.put, List.setIfInBounds_toArray, List.set_cons_zero, List.set_cons_succ]
    refine wpAnyS_ran (i := 16) (d := some 7) (v := .int .i64 0) (w' := w3) (by kernel_rfl) rfl rfl (by rfl) (by go_simp; try rfl) (fun h => by cases h) ?_
    try simp only [Act.put, List.setIfInBounds_toArray, List.set_cons_zero, List.set_cons_succ]
    refine wpAnyS_done (by kernel_rfl) ?_ _
    clear hS3 hSW
    have HDEC := Lib.hid hdec
    clear hdec
    have hcf := decR_facts (by omega) HDEC.out
    have hul := hcf.2
    obtain ⟨⟨pa, pn, pc⟩, ep⟩ := hown.sl
    dsimp only at ep
    subst ep
    obtain rfl : pn = ls.length := by have h := (hown.nlen intc_len).1; rw [hcf.1] at h; exact h
    have HVL : Hid (V.length = ls.length) := Lib.hid hcf.1
    have HOWN : Hid (Own intc 1 3 w0.heap.size w3 (.slice pa ls.length pc) V) := Lib.hid (hown.mono HR1.out.bel.size)
    obtain ⟨a1, c1, hsl, hS1, -⟩ := slice_from (P := Tryz.prog) (ea := u8c) Tryz.underlying22 size_u8 ta r.length tcap u htc hul
    have HBY := Lib.hid (hS1 w0 r rfl HR3.out.byt)
    have hc3 := HR3.out.cell
    have cT : w3.cell? ⟨T, 0, none⟩ = some (.slice ta r.length tcap) := by simp [World.cell?, hc3]
    have fT : w3.frozen? ⟨T, 0, none⟩ = false := by simp [World.frozen?, hc3]
    have HN0 : Hid (TKS w0 T (w3.setCell ⟨T, 0, none⟩ (.slice a1 (r.length - u) c1)) (.slice a1 (r.length - u) c1) (r.drop u) (.slice la ls.length lc) (mixX c [] 0 ls) ∧ Own intc 1 3 w0.heap.size (w3.setCell ⟨T, 0, none⟩ (.slice a1 (r.length - u) c1)) (.slice pa ls.length pc) V) := Lib.hid ⟨by unfold mixX; rw [mixG_zero]; exact HR3.out.setB HBY.out, HOWN.out.notT HR3.out (by decide) _ _⟩
    clear hown hcf hS1 hc3 HOWN HR1 HB1 HR3 HBY HT
    go_wp2_with fail
    clear cT fT hsl
    go_loopg [41] ls.length (fun g kv wx => ∃ (i : Nat) (X : List ByteArray) (r3 : List UInt8) (tb3 : Value), g = ls.length - i ∧ kv = .int .i64 i ∧ i ≤ ls.length ∧ Hid (cutX V i (r.drop u) = some (X, r3) ∧ TKS w0 T wx tb3 r3 (.slice la ls.length lc) (mixX c X i ls) ∧ Own intc 1 3 w0.heap.size wx (.slice pa ls.length pc) V))
    case atStart => exact ⟨0, [], _, _, rfl, rfl, by omega, Lib.hid ⟨rfl, HN0.out.1, HN0.out.2⟩⟩
    case round =>
      clear HN0 hul htc htm
      obtain ⟨i, X, r3, tb3, hg2, rfl, hi, HI⟩ := hrel
      have HG2 := Lib.hid hg2
      clear hg2
      by_cases hli : i < ls.length
      · have hi1 : (i : Int) < (ls.length : Int) := by omega
        have hi0 : (0 : Int) ≤ (i : Int) := by omega
        obtain ⟨x, hx⟩ : ∃ x, ls[i]? = some x := ⟨_, List.getElem?_eq_getElem hli⟩
        have HX := Lib.hid hx
        clear hx
        obtain ⟨y, hy⟩ : ∃ y, V[i]? = some y := ⟨_, List.getElem?_eq_getElem (by rw [HVL.out]; exact hli)⟩
        have HY := Lib.hid hy
        clear hy
        obtain ⟨vb, vo, ev, cv⟩ := (HI.out.2.2.slice intc_len).at1 HY.out rfl
        cases ev
        obtain ⟨t3, c3, rfl, ht3, hm3, -⟩ := id HI.out.2.1.byt
        unfold maxLen at hm3
        have hc0 := HI.out.2.1.cell
        have cT : wr.cell? ⟨T, 0, none⟩ = some (.slice t3 r3.length c3) := by simp [World.cell?, hc0]
        by_cases hbad : y < 0 ∨ (r3.length : Int) < y
        · have HBAD : Hid (tkX1 ls.length c (ls, r) = none) := Lib.hid (by unfold tkX1; dsimp only; rw [HDEC.out, Option.bind_some]; dsimp only; rw [cutX_bad HI.out.1 HY.out hbad hli]; rfl)
          have HBL := Lib.hid HI.out.2.1.kp
          clear hc0 HI
          by_cases hy0 : y < 0
          · clear hbad
            go_wp2_with fail
            go_ret
            exact Or.inr ⟨HBAD.out, ⟨_, _, rfl⟩, HBL.out⟩
          · have hy1 : (r3.length : Int) < y := hbad.resolve_left hy0
            clear hbad
            go_wp2_with fail
            go_ret
            exact Or.inr ⟨HBAD.out, ⟨_, _, rfl⟩, HBL.out⟩
        · obtain ⟨m, rfl⟩ : ∃ m : Nat, y = (m : Int) := Int.eq_ofNat_of_zero_le (by omega)
          have hy0 : ¬ (m : Int) < 0 := by omega
          have hy1 : ¬ (r3.length : Int) < (m : Int) := by omega
          have hmr : m ≤ r3.length := by omega
          clear hbad
          obtain ⟨g, cap, e, hg1, hg3⟩ := HI.out.2.1.own.eq_slice.resolve_left (fun e => by have h2 := e.2; have h3 := mixG_len (fun j o => o.setX c (X.getD j noText)) i ls; rw [show mixG (fun j o => o.setX c (X.getD j noText)) i ls = [] from h2] at h3; simp at h3; omega)
          injection e with e1 e2 e3
          subst e1 e3
          clear e2
          obtain ⟨a4, hs4, hS4⟩ := slice_to (P := Tryz.prog) (ea := u8c) Tryz.underlying22 size_u8 t3 r3.length c3 m ht3 hmr
          have hby4 := hS4 wr.drew r3 rfl ((HI.out.2.1.below (Below.refl _ _).drew).bytes)
          clear hS4
          obtain ⟨a5, c5, hs5, hS5, -⟩ := slice_from (P := Tryz.prog) (ea := u8c) Tryz.underlying22 size_u8 t3 r3.length c3 m ht3 hmr
          have HBY := Lib.hid (hS5 w0 r3 rfl HI.out.2.1.byt)
          clear hS5
          have hSW : (fun W : World => W.cell? ⟨T, 0, none⟩ = some (.slice t3 r3.length c3) ∧ W.cell? ⟨T, 1, none⟩ = some (.slice (some ⟨g, 0, none⟩) ls.length lc) ∧ SliceIs u8c 1 W (.slice a4 m c3) (r3.take m)) wr.drew := ⟨cT, by show World.cell? wr _ = _; simp [World.cell?, hc0], hby4⟩
          have hix := fun W : World => run_indexX g (i * 26) hc W
          clear hc0 hby4
          go_upto_region 10 with fail
          clear cT cv
          refine wp_region_s (fun W : World => W.cell? ⟨T, 0, none⟩ = some (.slice t3 r3.length c3) ∧ W.cell? ⟨T, 1, none⟩ = some (.slice (some ⟨g, 0, none⟩) ls.length lc) ∧ SliceIs u8c 1 W (.slice a4 m c3) (r3.take m)) (fun i => i == 17) (by kernel_rfl) ?_
          have HI1 : Hid (TKS w0 T wr.drew (.slice t3 r3.length c3) r3 (.slice (some ⟨g, 0, none⟩) ls.length lc) (mixX c X i ls) ∧ Own intc 1 3 w0.heap.size wr.drew (.slice (some ⟨vb, vo, none⟩) ls.length pc) V) := Lib.hid ⟨HI.out.2.1.below (Below.refl _ _).drew, HI.out.2.2.below1 (Below.refl _ _).drew⟩
          have HCUT := Lib.hid HI.out.1
          clear HI
          generalize wr.drew = W2 at hSW HI1 ⊢
          refine wpAnyS_take (i := 0) (d := some 60) rfl rfl rfl (by kernel_rfl) (by kernel_rfl) (by kernel_rfl) (by kernel_rfl) (fun _ _ _ h => h) (.inl ⟨by rfl, fun W hW => by obtain ⟨q0, q1, q2⟩ := hW; go_simp; try rfl⟩) hSW ?_
          try simp only [Act.put, List.setIfInBounds_toArray, List.set_cons_zero, List.set_cons_succ]
          refine wpAnyS_take (i := 1) (d := some 61) (v := .pointer (some ⟨T, 0, none⟩)) rfl rfl rfl (by kernel_rfl) (by kernel_rfl) (by kernel_rfl) (by kernel_rfl) (fun _ _ _ h => h) (.inl ⟨by rfl, fun W hW => by obtain ⟨q0, q1, q2⟩ := hW; go_simp; try rfl⟩) hSW ?_
          try simp only [Act.put, List.setIfInBounds_toArray, List.set_cons_zero, List.set_cons_succ]
          refine wpAnyS_take (i := 2) (d := some 62) (v := .pointer (some ⟨T, 1, none⟩)) rfl rfl rfl (by kernel_rfl) (by kernel_rfl) (by kernel_rfl) (by kernel_rfl) (fun _ _ _ h => h) (.inl ⟨by rfl, fun W hW => by obtain ⟨q0, q1, q2⟩ := hW; go_simp; try rfl⟩) hSW ?_
          try simp only [Act.put, List.setIfInBounds_toArray, List.set_cons_zero, List.set_cons_succ]
          refine wpAnyS_take (i := 3) (d := some 63) (v := .slice (some ⟨g, 0, none⟩) ls.length lc) rfl rfl rfl (by kernel_rfl) (by kernel_rfl) (by kernel_rfl) (by kernel_rfl) (fun _ _ _ h => h) (.inl ⟨by rfl, fun W hW => by obtain ⟨q0, q1, q2⟩ := hW; go_simp; try rfl⟩) hSW ?_
          try simp only [Act.put, List.setIfInBounds_toArray, List.set_cons_zero, List.set_cons_succ]
          refine wpAnyS_take (i := 4) (d := some 64) (v := .int .i64 i) rfl rfl rfl (by kernel_rfl) (by kernel_rfl) (by kernel_rfl) (by kernel_rfl) (fun _ _ _ h => h) (.inl ⟨by rfl, fun W hW => by obtain ⟨q0, q1, q2⟩ := hW; go_simp; try rfl⟩) hSW ?_
          try simp only [Act.put, List.setIfInBounds_toArray, List.set_cons_zero, List.set_cons_succ]
          refine wpAnyS_take (i := 5) (d := some 65) (v := .pointer (some ⟨g, i * 26, none⟩)) rfl rfl rfl (by kernel_rfl) (by kernel_rfl) (by kernel_rfl) (by kernel_rfl) (fun _ _ _ h => h) (.inl ⟨by rfl, fun W hW => by obtain ⟨q0, q1, q2⟩ := hW; go_simp; try rfl⟩) hSW ?_
          try simp only [Act.put, List.setIfInBounds_toArray, List.set_cons_zero, List.set_cons_succ]
          refine wpAnyS_take (i := 7) (d := some 67) (v := .int .i64 c) rfl rfl rfl (by kernel_rfl) (by kernel_rfl) (by kernel_rfl) (by kernel_rfl) (fun _ _ _ h => h) (.inl ⟨by rfl, fun W hW => by obtain ⟨q0, q1, q2⟩ := hW; go_simp; try rfl⟩) hSW ?_
          try simp only [Act.put, List.setIfInBounds_toArray, List.set_cons_zero, List.set_cons_succ]
          refine wpAnyS_take (i := 9) (d := some 69) rfl rfl rfl (by kernel_rfl) (by kernel_rfl) (by kernel_rfl) (by kernel_rfl) (fun _ _ _ h => h) (.inl ⟨by rfl, fun W hW => by obtain ⟨q0, q1, q2⟩ := hW; go_simp; try rfl⟩) hSW ?_
          try simp only [Act.put, List.setIfInBounds_toArray, List.set_cons_zero, List.set_cons_succ]
          refine wpAnyS_take (i := 10) (d := some 70) (v := .pointer (some ⟨T, 0, none⟩)) rfl rfl rfl (by kernel_rfl) (by kernel_rfl) (by kernel_rfl) (by kernel_rfl) (fun _ _ _ h => h) (.inl ⟨by rfl, fun W hW => by obtain ⟨q0, q1, q2⟩ := hW; go_simp; try rfl⟩) hSW ?_
          try simp only [Act.put, List.setIfInBounds_toArray, List.set_cons_zero, List.set_cons_succ]
          refine wpAnyS_take (i := 11) (d := some 71) (v := .pointer (some ⟨T, 0, none⟩)) rfl rfl rfl (by kernel_rfl) (by kernel_rfl) (by kernel_rfl) (by kernel_rfl) (fun _ _ _ h => h) (.inl ⟨by rfl, fun W hW => by obtain ⟨q0, q1, q2⟩ := hW; go_simp; try rfl⟩) hSW ?_
          try simp only [Act.put, List.setIfInBounds_toArray, List.set_cons_zero, List.set_cons_succ]
          refine wpAnyS_take (i := 12) (d := some 72) (v := .slice t3 r3.length c3) rfl rfl rfl (by kernel_rfl) (by kernel_rfl) (by kernel_rfl) (by kernel_rfl) (fun _ _ _ h => h) (.inl ⟨by rfl, fun W hW => by obtain ⟨q0, q1, q2⟩ := hW; go_simp; try rfl⟩) hSW ?_
          try simp only [Act.put, List.setIfInBounds_toArray, List.set_cons_zero, List.set_cons_succ]
          refine wpAnyS_take (i := 13) (d := some 73) (v := .int .i64 m) rfl rfl rfl (by kernel_rfl) (by kernel_rfl) (by kernel_rfl) (by kernel_rfl) (fun _ _ _ h => h) (.inl ⟨by rfl, fun W hW => by obtain ⟨q0, q1, q2⟩ := hW; go_simp; try rfl⟩) hSW ?_
          try simp only [Act.put, List.setIfInBounds_toArray, List.set_cons_zero, List.set_cons_succ]
          refine wpAnyS_take (i := 14) (d := some 74) (v := .slice a4 m c3) rfl rfl rfl (by kernel_rfl) (by kernel_rfl) (by kernel_rfl) (by kernel_rfl) (fun _ _ _ h => h) (.inl ⟨by rfl, fun W hW => by obtain ⟨q0, q1, q2⟩ := hW; go_simp; try rfl⟩) hSW ?_
          try simp only [Act.put, List.setIfInBounds_toArray, List.set_cons_zero, List.set_cons_succ]
          refine wpAnyS_take (i := 15) (d := some 75) (v := .string ⟨(r3.take m).toArray⟩) rfl rfl rfl (by kernel_rfl) (by kernel_rfl) (by kernel_rfl) (by kernel_rfl) (fun _ _ _ h => h) (.inl ⟨by rfl, fun W hW => by obtain ⟨q0, q1, q2⟩ := hW; have q3 := conv_bytes q2; go_simp; try rfl⟩) hSW ?_
          try simp only [Act.put, List.setIfInBounds_toArray, List.set_cons_zero, List.set_cons_succ]
          refine wpAnyS_call (i := 6) (d := some 66) (f := 98) (args := #[.pointer (some ⟨g, i * 26, none⟩)]) (w' := W2) (by kernel_rfl) rfl rfl (by rfl) (by go_simp; try rfl) ?_
          refine (texts_any g (i * 26) W2).mono ?_
          rintro e w4 ⟨rfl, hb4⟩
          have hS4 : (fun W : World => W.cell? ⟨T, 0, none⟩ = some (.slice t3 r3.length c3) ∧ W.cell? ⟨T, 1, none⟩ = some (.slice (some ⟨g, 0, none⟩) ls.length lc) ∧ SliceIs u8c 1 W (.slice a4 m c3) (r3.take m)) w4 := ⟨(hb4.cell (p := ⟨T, 0, none⟩) (cell_lt hSW.1)).trans hSW.1, (hb4.cell (p := ⟨T, 1, none⟩) (cell_lt hSW.2.1)).trans hSW.2.1, hSW.2.2.below hb4⟩
          have HI4 := Lib.hid (And.intro (HI1.out.1.below hb4) (HI1.out.2.below1 hb4))
          refine ⟨_, rfl, fun _ => hS4, ?_⟩
          try simp only [Act.put, List.setIfInBounds_toArray, List.set_cons_zero, List.set_cons_succ]
          refine wpAnyS_take (i := 8) (d := some 68) (v := .pointer (some ⟨g, i * 26 + offX c, none⟩)) rfl rfl rfl (by kernel_rfl) (by kernel_rfl) (by kernel_rfl) (by kernel_rfl) (fun _ _ _ h => h) (.inl ⟨by rfl, fun W hW => by obtain ⟨q0, q1, q2⟩ := hW; go_simp; try rfl⟩) hS4 ?_
          try simp only [Act.put, List.setIfInBounds_toArray, List.set_cons_zero, List.set_cons_succ]
          refine wpAnyS_take (i := 16) (d := some 76) (v := .pointer (some ⟨g, i * 26 + offX c, none⟩)) rfl rfl rfl (by kernel_rfl) (by kernel_rfl) (by kernel_rfl) (by kernel_rfl) (fun _ _ _ h => h) (.inl ⟨by rfl, fun W hW => by obtain ⟨q0, q1, q2⟩ := hW; go_simp; try rfl⟩) hS4 ?_
          try simp only [Act.put, List.setIfInBounds_toArray, List.set_cons_zero, List.set_cons_succ]
          have hln : ls.length = (mixX c X i ls).length := by unfold mixX; rw [mixG_len]
          have hk4 := HI4.out.1
          have hk5 := hk4
          rw [hln] at hk4
          obtain ⟨u0, hu0⟩ : ∃ u0, x.cells[offX c]? = some u0 := ⟨_, List.getElem?_eq_getElem (by rw [OpD.len]; exact offX_lt c)⟩
          have c4 := hk4.own.cellAt OpD.len (mixG_at _ i HX.out) hu0
          have f4 := hk4.own.free (i * 26 + offX c)
          have hst := hk4.setOp (mixG_at _ i HX.out) (offX_lt c) (setX_cells x c ⟨(r3.take m).toArray⟩)
          have HN1 : Hid (TKS w0 T (w4.setCell ⟨g, i * 26 + offX c, none⟩ (.string ⟨(r3.take m).toArray⟩)) (.slice t3 r3.length c3) r3 (.slice (some ⟨g, 0, none⟩) ls.length lc) (mixX c (X ++ [⟨(r3.take m).toArray⟩]) (i + 1) ls) ∧ Own intc 1 3 w0.heap.size (w4.setCell ⟨g, i * 26 + offX c, none⟩ (.string ⟨(r3.take m).toArray⟩)) (.slice (some ⟨vb, vo, none⟩) ls.length pc) V) := Lib.hid (by
            refine ⟨?_, HI4.out.2.notg HI4.out.1.own (by decide) rfl _ _⟩
            rw [mixX_succ c i (cutX_len HCUT.out).1 HX.out]
            have hq := hst
            rw [← hln] at hq
            exact hq)
          clear hk4 hk5 hst hu0 hln
          refine wpAnyS_mute (i := 17) (d := none) (w' := w4.setCell ⟨g, i * 26 + offX c, none⟩ (.string ⟨(r3.take m).toArray⟩)) (by kernel_rfl) rfl rfl (by rfl) (by go_simp; try rfl) (fun h => by cases h) ?_
          try simp only [Act.put, List.setIfInBounds_toArray, List.set_cons_zero, List.set_cons_succ]
          refine wpAnyS_done (by kernel_rfl) ?_ _
          clear hS4 hSW HI4 HI1 c4 f4 hix hs4
          generalize (w4.setCell ⟨g, i * 26 + offX c, none⟩ (.string ⟨(r3.take m).toArray⟩)) = w5 at HN1 ⊢
          have hc5 := HN1.out.1.cell
          have cT5 : w5.cell? ⟨T, 0, none⟩ = some (.slice t3 r3.length c3) := by simp [World.cell?, hc5]
          have fT5 : w5.frozen? ⟨T, 0, none⟩ = false := by simp [World.frozen?, hc5]
          clear hc5
          have HN : Hid (cutX V (i + 1) (r.drop u) = some (X ++ [⟨(r3.take m).toArray⟩], r3.drop m) ∧ TKS w0 T (w5.setCell ⟨T, 0, none⟩ (.slice a5 (r3.length - m) c5)) (.slice a5 (r3.length - m) c5) (r3.drop m) (.slice (some ⟨g, 0, none⟩) ls.length lc) (mixX c (X ++ [⟨(r3.take m).toArray⟩]) (i + 1) ls) ∧ Own intc 1 3 w0.heap.size (w5.setCell ⟨T, 0, none⟩ (.slice a5 (r3.length - m) c5)) (.slice (some ⟨vb, vo, none⟩) ls.length pc) V) := Lib.hid ⟨cutX_step HCUT.out HY.out hmr, HN1.out.1.setB HBY.out, HN1.out.2.notT HN1.out.1 (by decide) _ _⟩
          clear HN1 HBY HCUT
          go_wp2_with fail
          go_roundg (ls.length - (i + 1))
          case measure => rw [HG2.out]; omega
          case rel => exact ⟨i + 1, _, _, _, rfl, by simp, by omega, HN⟩
      · obtain rfl : i = ls.length := by omega
        have hi1 : ¬ (ls.length : Int) < (ls.length : Int) := by omega
        have HN : Hid (tkX1 ls.length c (ls, r) = some (mixX c X ls.length ls, r3) ∧ TKS w0 T wr tb3 r3 (.slice la ls.length lc) (mixX c X ls.length ls)) := Lib.hid ⟨by unfold tkX1; dsimp only; rw [HDEC.out, Option.bind_some]; dsimp only; rw [HI.out.1]; rfl, HI.out.2.1⟩
        clear HI
        go_wp2_with fail
        go_ret
        exact Or.inl ⟨_, _, _, HN.out.1, rfl, HN.out.2⟩
  · have hS3 : (fun W : World => W.cell? ⟨T, 0, none⟩ = some (.slice ta r.length tcap) ∧ W.cell? ⟨T, 1, none⟩ = some (.slice la ls.length lc)) w3 := ⟨(hb.cell (p := ⟨T, 0, none⟩) (cell_lt hSW.1)).trans hSW.1, (hb.cell (p := ⟨T, 1, none⟩) (cell_lt hSW.2)).trans hSW.2⟩
    have HR3 := Lib.hid (HR1.out.below hb)
    refine ⟨_, rfl, fun _ => hS3, ?_⟩
    try simp only [Act.put, List.setIfInBounds_toArray, List.set_cons_zero, List.set_cons_succ]
    refine wpAnyS_take (i := 10) (d := some 10) (v := .tuple #[.slice none 0 0, .int .i64 0, .int .i64 41]) rfl rfl rfl (by kernel_rfl) (by kernel_rfl) (by kernel_rfl) (by kernel_rfl) (fun _ _ _ h => h) (.inl ⟨by rfl, fun W hW => by obtain ⟨q0, q1⟩ := hW; go_simp; try rfl⟩) hS3 ?_
    try simp only [Act.put, List.setIfInBounds_toArray, List.set_cons_zero, List.set_cons_succ]
    refine wpAnyS_take (i := 11) (d := some 21) (v := .slice none 0 0) rfl rfl rfl (by kernel_rfl) (by kernel_rfl) (by kernel_rfl) (by kernel_rfl) (fun _ _ _ h => h) (.inl ⟨by rfl, fun W hW => by obtain ⟨q0, q1⟩ := hW; go_simp; try rfl⟩) hS3 ?_
    try simp only [Act.put, List.setIfInBounds_toArray, List.set_cons_zero, List.set_cons_succ]
    refine wpAnyS_take (i := 12) (d := some 22) (v := .int .i64 0) rfl rfl rfl (by kernel_rfl) (by kernel_rfl) (by kernel_rfl) (by kernel_rfl) (fun _ _ _ h => h) (.inl ⟨by rfl, fun W hW => by obtain ⟨q0, q1⟩ := hW; go_simp; try rfl⟩) hS3 ?_
    try simp only [Act.put, List.setIfInBounds_toArray, List.set_cons_zero, List.set_cons_succ]
    refine wpAnyS_take (i := 13) (d := some 23) (v := .int .i64 41) rfl rfl rfl (by kernel_rfl) (by kernel_rfl) (by kernel_rfl) (by kernel_rfl) (fun _ _ _ h => h) (.inl ⟨by rfl, fun W hW => by obtain ⟨q0, q1⟩ := hW; go_simp; try rfl⟩) hS3 ?_
    try simp only [Act.put, List.setIfInBounds_toArray, List.set_cons_zero, List.set_cons_succ]
    refine wpAnyS_take (i := 14) (d := some 5) (v := .slice none 0 0) rfl rfl rfl (by kernel_rfl) (by kernel_rfl) (by kernel_rfl) (by kernel_rfl) (fun _ _ _ h => h) (.inl ⟨by rfl, fun W hW => by obtain ⟨q0, q1⟩ := hW; go_simp; try rfl⟩) hS3 ?_
    try simp only [Act.put, List.setIfInBounds_toArray, List.set_cons_zero, List.set_cons_succ]
    refine wpAnyS_take (i := 15) (d := some 6) (v := .int .i64 0) rfl rfl rfl (by kernel_rfl) (by kernel_rfl) (by kernel_rfl) (by kernel_rfl) (fun _ _ _ h => h) (.inl ⟨by rfl, fun W hW => by obtain ⟨q0, q1⟩ := hW; go_simp; try rfl⟩) hS3 ?_
    try simp only [Act.put, List.setIfInBounds_toArray, List.set_cons_zero, List.set_cons_succ]
    refine wpAnyS_ran (i := 16) (d := some 7) (v := .int .i64 41) (w' := w3) (by kernel_rfl) rfl rfl (by rfl) (by go_simp; try rfl) (fun h => by cases h) ?_
    try simp only [Act.put, List.setIfInBounds_toArray, List.set_cons_zero, List.set_cons_succ]
    refine wpAnyS_done (by kernel_rfl) ?_ _
    clear hS3 hSW
    have HBAD : Hid (tkX1 ls.length c (ls, r) = none) := Lib.hid (by unfold tkX1; dsimp only; rw [hdec]; rfl)
    clear hdec
    go_wp2_with fail
    go_ret
    exact Or.inr ⟨HBAD.out, ⟨_, _, rfl⟩, HR3.out.kp⟩
end Go.Proofs.YtgmdimbiipemhaaGreatDoor
namespace Go.Proofs.YtgmdimbiipemhaaGreatDoor
open Go.RowKit Go.Deep
set_option linter.unusedSimpArgs false
set_option linter.unusedVariables false
def rowAt (Ls : Nat → List Int) (o : OpD) (c q : Nat) : List Int := if q < c then Ls q ++ [fld o q] else Ls q
structure RowsIn (R base : Nat) (Ls : Nat → List Int) (A : Nat → Prop) (W : World) : Prop where
  ex : ∃ cs : Array Value, cs.size = 21 ∧ W.heap[R]? = some (.cells cs 100 (0, 0)) ∧ (∀ q, q < 21 → Own intc 1 3 base W (cs.getD q undef) (Ls q)) ∧
    (∀ q r, q < 21 → r < 21 → q ≠ r → ∀ k, (cs.getD q undef).ownBlock = some k → ¬ (cs.getD r undef).ownBlock = some k) ∧ (∀ q, q < 21 → ∀ k, (cs.getD q undef).ownBlock = some k → ¬ A k)
theorem RowsIn.ext {R base : Nat} {Ls : Nat → List Int} {A A' : Nat → Prop} {W W' : World} {S : Nat → Prop} (h : RowsIn R base Ls A W) (hx : Ext S W W') (hR : ¬ S R) (hS : ∀ k, S k → A k ∨ W.heap.size ≤ k) (hA : ∀ k, A' k → A k ∨ W.heap.size ≤ k) : RowsIn R base Ls A' W' := by
  obtain ⟨cs, h1, h2, h3, h4, h5⟩ := h.ex
  have hlt := (Array.getElem?_eq_some_iff.1 h2).1
  refine ⟨cs, h1, (hx.block _ hlt hR).trans h2, fun q hq => (h3 q hq).ext hx (fun k hk e => ?_), h4, fun q hq k hk ha => ?_⟩
  · rcases hS k e with e | e
    · exact h5 q hq k hk e
    · have := ((h3 q hq).blk k hk).2; omega
  · rcases hA k ha with e | e
    · exact h5 q hq k hk e
    · have := ((h3 q hq).blk k hk).2; omega
def JE (R Br Bc base : Nat) (Ls : Nat → List Int) (o : OpD) (c : Nat) (A : Nat → Prop) (W : World) : Prop :=
  RowsIn R base (rowAt Ls o c) A W ∧ W.heap[Br]? = some (.cells #[.slice (some ⟨R, 0, none⟩) 21 21] 161 (0, 0)) ∧ W.heap[Bc]? = some (.cells #[.int .i64 c] 3 (0, 0)) ∧
  (¬ A R ∧ ¬ A Br ∧ ¬ A Bc) ∧ (R ≠ Br ∧ R ≠ Bc ∧ Br ≠ Bc ∧ R < base ∧ Br < base ∧ Bc < W.heap.size) ∧ base ≤ W.heap.size ∧ (∀ k, A k → k < W.heap.size) ∧ (∀ cs, W.heap[R]? = some (.cells cs 100 (0, 0)) → ∀ q, q < 21 → ¬ (cs.getD q undef).ownBlock = some Bc)
theorem JE.jok (R Br Bc base b : Nat) (Ls : Nat → List Int) (o : OpD) : JOK b (JE R Br Bc base Ls o) := by
  rintro c A A' W W' ⟨h1, h2, h3, ⟨h4, h5, h6⟩, h7, h8, h9, h10⟩ hx hA hb
  have l1 := (Array.getElem?_eq_some_iff.1 h2).1
  have l2 := (Array.getElem?_eq_some_iff.1 h3).1
  obtain ⟨cs0, _, hR0, _⟩ := h1.ex
  have l0 := (Array.getElem?_eq_some_iff.1 hR0).1
  have hs := hx.size
  have nb : ∀ {x : Nat}, ¬ A x → ¬ x = b := fun h e => h (by rw [e]; exact hb)
  have nA : ∀ {x : Nat}, ¬ A x → x < W.heap.size → ¬ A' x := fun h hl ha => (hA _ ha).elim h (fun e => by omega)
  refine ⟨h1.ext hx (nb h4) (fun k e => .inl (by rw [e]; exact hb)) (fun k ha => (hA k ha).imp id (fun e => e.1)), (hx.block _ l1 (nb h5)).trans h2, (hx.block _ l2 (nb h6)).trans h3, ⟨nA h4 l0, nA h5 l1, nA h6 l2⟩, ⟨h7.1, h7.2.1, h7.2.2.1, h7.2.2.2.1, h7.2.2.2.2.1, by omega⟩, by omega, fun k hk => (hA k hk).elim (fun e => by have := h9 k e; omega) (fun e => e.2), fun cs hcs => h10 cs ((hx.block _ l0 (nb h4)).symm.trans hcs)⟩
theorem getD_set (cs : Array Value) (c q : Nat) (v : Value) (hc : c < cs.size) : (cs.setIfInBounds c v).getD q undef = if q = c then v else cs.getD q undef := by
  simp only [Array.getD_eq_getD_getElem?]
  by_cases h : q = c
  · subst h; simp [hc]
  · rw [if_neg h, Array.getElem?_setIfInBounds_ne (Ne.symm h)]
set_option maxRecDepth 20000 in
set_option maxHeartbeats 1000000 in
theorem rows_use (R Br Bc base : Nat) (Ls : Nat → List Int) (o : OpD) (hln : ∀ q, (Ls q).length ≤ 1000000) : UseOK Tryz.prog 93 #[.pointer (some ⟨Br, 0, none⟩), .pointer (some ⟨Bc, 0, none⟩)] (fld o) (fld o) (JE R Br Bc base Ls o) := by
  rintro c A W pb po hc ⟨hr, hBr, hBc, ⟨nR, nBr, nBc⟩, ⟨d1, d2, d3, d4, d5, d6⟩, hbs, hAl, hnc⟩ hcell hfree hA
  show Calls Tryz.prog 93 #[.pointer (some ⟨pb, po, none⟩), .bool (dlt c), .pointer (some ⟨Br, 0, none⟩), .pointer (some ⟨Bc, 0, none⟩)] W _
  obtain ⟨cs, hcs, hR, hown, hdis, hnA⟩ := hr.ex
  obtain ⟨x, hx⟩ : ∃ x, fld o c = x := ⟨_, rfl⟩
  rw [hx] at hcell
  have hoc := hown c hc
  have hrc : rowAt Ls o c c = Ls c := by unfold rowAt; rw [if_neg (by omega)]
  rw [hrc] at hoc
  obtain ⟨⟨sa, sn, sc⟩, e⟩ := hoc.sl
  dsimp only at e
  rw [e] at hoc
  have hRc : W.cell? ⟨R, c, none⟩ = some (.slice sa sn sc) := by
    unfold World.cell?
    rw [hR]
    rw [← e, Array.getD_eq_getD_getElem?]
    simp [hcs, hc]
  have nO : ∀ k, (Value.slice sa sn sc).ownBlock = some k → ¬ A k ∧ base ≤ k ∧ k < W.heap.size ∧ k ≠ Bc := fun k hk => ⟨hnA c hc k (by rw [e]; exact hk), (hoc.blk k hk).1, (hoc.blk k hk).2, fun e2 => hnc cs hR c hc (by rw [e, ← e2]; exact hk)⟩
  have lR := (Array.getElem?_eq_some_iff.1 hR).1
  have lBr := (Array.getElem?_eq_some_iff.1 hBr).1
  have lpb := cell_lt hcell
  have hpR : pb ≠ R := fun e => nR (by rw [← e]; exact hA)
  have hpc : pb ≠ Bc := fun e => nBc (by rw [← e]; exact hA)
  have hpB : pb ≠ Br := fun e => nBr (by rw [← e]; exact hA)
  have hll := hln c
  have hW0 : Ext (fun _ => False) W W.drew := (Ext.refl _ _).drew
  have HOLD := Lib.hid (And.intro hR (And.intro hBr (And.intro hBc (And.intro hcell (And.intro hoc hown)))))
  have b0 := cell_of_one hBr
  have b1 := cell_of_one hBc
  have HFR := Lib.hid hfree
  have HDIS := Lib.hid hdis
  have HNA := Lib.hid hnA
  have HAL := Lib.hid hAl
  have HE := Lib.hid e
  have HNC := Lib.hid hnc
  have HX := Lib.hid hx
  clear hfree hdis hnA hAl e hnc hx hown hrc hln
  go_enter Tryz.func93, Tryz.ntmps93
  go_upto_region 0 with fail
  have hS0 : (fun W : World => W.cell? ⟨Br, 0, none⟩ = some (.slice (some ⟨R, 0, none⟩) 21 21) ∧ W.cell? ⟨Bc, 0, none⟩ = some (.int .i64 c) ∧ W.cell? ⟨R, c, none⟩ = some (.slice sa sn sc) ∧ W.cell? ⟨pb, po, none⟩ = some (.int .i64 x)) W.drew := ⟨b0, b1, hRc, hcell⟩
  have hoc1 : Own intc 1 3 base W.drew (.slice sa sn sc) (Ls c) := hoc
  have hsz1 : W.drew.heap.size = W.heap.size := rfl
  clear b0 b1 hRc hcell hoc hR hBr hBc hr
  refine wp_region_s (fun W : World => W.cell? ⟨Br, 0, none⟩ = some (.slice (some ⟨R, 0, none⟩) 21 21) ∧ W.cell? ⟨Bc, 0, none⟩ = some (.int .i64 c) ∧ W.cell? ⟨R, c, none⟩ = some (.slice sa sn sc) ∧ W.cell? ⟨pb, po, none⟩ = some (.int .i64 x)) (fun i => i == 12) (by kernel_rfl) ?_
  generalize W.drew = W1 at hS0 hW0 hoc1 hsz1 ⊢
  have hc21 : (c : Int) < 21 := by omega
  have hc0 : (0 : Int) ≤ (c : Int) := by omega
  refine wpAnyS_take (i := 0) (d := some 6) (v := .slice (some ⟨R, 0, none⟩) 21 21) rfl rfl rfl (by kernel_rfl) (by kernel_rfl) (by kernel_rfl) (by kernel_rfl) (fun _ _ _ h => h) (.inl ⟨by rfl, fun W hW => by obtain ⟨q0, q1, q2, q3⟩ := hW; go_simp; try rfl⟩) hS0 ?_
  try simp only [Act.put, List.setIfInBounds_toArray, List.set_cons_zero, List.set_cons_succ]
  refine wpAnyS_take (i := 1) (d := some 7) (v := .int .i64 c) rfl rfl rfl (by kernel_rfl) (by kernel_rfl) (by kernel_rfl) (by kernel_rfl) (fun _ _ _ h => h) (.inl ⟨by rfl, fun W hW => by obtain ⟨q0, q1, q2, q3⟩ := hW; go_simp; try rfl⟩) hS0 ?_
  try simp only [Act.put, List.setIfInBounds_toArray, List.set_cons_zero, List.set_cons_succ]
  refine wpAnyS_take (i := 2) (d := some 8) (v := .slice (some ⟨R, 0, none⟩) 21 21) rfl rfl rfl (by kernel_rfl) (by kernel_rfl) (by kernel_rfl) (by kernel_rfl) (fun _ _ _ h => h) (.inl ⟨by rfl, fun W hW => by obtain ⟨q0, q1, q2, q3⟩ := hW; go_simp; try rfl⟩) hS0 ?_
  try simp only [Act.put, List.setIfInBounds_toArray, List.set_cons_zero, List.set_cons_succ]
  refine wpAnyS_take (i := 3) (d := some 9) (v := .int .i64 c) rfl rfl rfl (by kernel_rfl) (by kernel_rfl) (by kernel_rfl) (by kernel_rfl) (fun _ _ _ h => h) (.inl ⟨by rfl, fun W hW => by obtain ⟨q0, q1, q2, q3⟩ := hW; go_simp; try rfl⟩) hS0 ?_
  try simp only [Act.put, List.setIfInBounds_toArray, List.set_cons_zero, List.set_cons_succ]
  refine wpAnyS_take (i := 4) (d := some 10) (v := .pointer (some ⟨R, c, none⟩)) rfl rfl rfl (by kernel_rfl) (by kernel_rfl) (by kernel_rfl) (by kernel_rfl) (fun _ _ _ h => h) (.inl ⟨by rfl, fun W hW => by obtain ⟨q0, q1, q2, q3⟩ := hW; go_simp; try rfl⟩) hS0 ?_
  try simp only [Act.put, List.setIfInBounds_toArray, List.set_cons_zero, List.set_cons_succ]
  refine wpAnyS_take (i := 5) (d := some 11) (v := .slice sa sn sc) rfl rfl rfl (by kernel_rfl) (by kernel_rfl) (by kernel_rfl) (by kernel_rfl) (fun _ _ _ h => h) (.inl ⟨by rfl, fun W hW => by obtain ⟨q0, q1, q2, q3⟩ := hW; go_simp; try rfl⟩) hS0 ?_
  try simp only [Act.put, List.setIfInBounds_toArray, List.set_cons_zero, List.set_cons_succ]
  refine wpAnyS_take (i := 6) (d := some 12) rfl rfl rfl (by kernel_rfl) (by kernel_rfl) (by kernel_rfl) (by kernel_rfl) (fun _ _ _ h => h) (.inl ⟨by rfl, fun W hW => by obtain ⟨q0, q1, q2, q3⟩ := hW; go_simp; try rfl⟩) hS0 ?_
  try simp only [Act.put, List.setIfInBounds_toArray, List.set_cons_zero, List.set_cons_succ]
  refine wpAnyS_take (i := 7) (d := some 13) (v := .pointer (some ⟨pb, po, none⟩)) rfl rfl rfl (by kernel_rfl) (by kernel_rfl) (by kernel_rfl) (by kernel_rfl) (fun _ _ _ h => h) (.inl ⟨by rfl, fun W hW => by obtain ⟨q0, q1, q2, q3⟩ := hW; go_simp; try rfl⟩) hS0 ?_
  try simp only [Act.put, List.setIfInBounds_toArray, List.set_cons_zero, List.set_cons_succ]
  refine wpAnyS_take (i := 8) (d := some 14) (v := .int .i64 x) rfl rfl rfl (by kernel_rfl) (by kernel_rfl) (by kernel_rfl) (by kernel_rfl) (fun _ _ _ h => h) (.inl ⟨by rfl, fun W hW => by obtain ⟨q0, q1, q2, q3⟩ := hW; go_simp; try rfl⟩) hS0 ?_
  try simp only [Act.put, List.setIfInBounds_toArray, List.set_cons_zero, List.set_cons_succ]
  obtain ⟨i0, hi, hy0, hy1, hy2⟩ := info_parts info_int
  have hS1 : (fun W : World => W.cell? ⟨Br, 0, none⟩ = some (.slice (some ⟨R, 0, none⟩) 21 21) ∧ W.cell? ⟨Bc, 0, none⟩ = some (.int .i64 c) ∧ W.cell? ⟨R, c, none⟩ = some (.slice sa sn sc) ∧ W.cell? ⟨pb, po, none⟩ = some (.int .i64 x)) (W1.alloc (.cells #[.int .i64 x] 3)) := ⟨cell_alloc hS0.1 _, cell_alloc hS0.2.1 _, cell_alloc hS0.2.2.1 _, cell_alloc hS0.2.2.2 _⟩
  refine wpAnyS_ran (i := 9) (d := some 15) (v := .slice (some ⟨W1.heap.size, 0, none⟩) 1 1) (w' := W1.alloc (.cells #[.int .i64 x] 3)) (by kernel_rfl) rfl rfl (by rfl) (by go_simp; try rfl) (fun _ => hS1) ?_
  try simp only [Act.put, List.setIfInBounds_toArray, List.set_cons_zero, List.set_cons_succ]
  obtain ⟨v', w3, hr3, hown3, hx3, hn3⟩ := append_struct_run (P := Tryz.prog) 100 100 i0 _ 8 Tryz.underlying100 hi hy0 hy1 hy2 rfl (by omega) intc_len intc_one (hoc1.alloc (.cells #[.int .i64 x] 3)) x W1.heap.size 1 (int_new W1 x) (by unfold maxLen; omega) (by omega) (by rw [World.size_alloc]; omega)
  obtain ⟨⟨ua, un, uc⟩, e3⟩ := hown3.sl
  dsimp only at e3
  subst e3
  have hxa : Ext (fun k => (Value.slice sa sn sc).ownBlock = some k) W w3 := ((hW0.mono (fun _ _ f => f.elim)).alloc _).andThen hx3 (fun i hi e => e)
  have nk : ∀ {k : Nat}, (A k ∨ k < base ∨ k = Bc) → ¬ (Value.slice sa sn sc).ownBlock = some k := fun h e => by
    obtain ⟨e1, e2, _, e4⟩ := nO _ e
    rcases h with h | h | h
    · exact e1 h
    · omega
    · exact e4 h
  have hS3 : (fun W : World => W.cell? ⟨Br, 0, none⟩ = some (.slice (some ⟨R, 0, none⟩) 21 21) ∧ W.cell? ⟨Bc, 0, none⟩ = some (.int .i64 c) ∧ W.cell? ⟨R, c, none⟩ = some (.slice sa sn sc) ∧ W.cell? ⟨pb, po, none⟩ = some (.int .i64 x)) w3 := ⟨hxa.keep (cell_of_one HOLD.out.2.1) (nk (.inr (.inl d5))), hxa.keep (cell_of_one HOLD.out.2.2.1) (nk (.inr (.inr rfl))), hx3.keep hS1.2.2.1 (nk (.inr (.inl d4))), hxa.keep HOLD.out.2.2.2.1 (nk (.inl hA))⟩
  refine wpAnyS_ran (i := 10) (d := some 16) (v := .slice ua un uc) (w' := w3) (by kernel_rfl) rfl rfl (by rfl) (exec_append rfl rfl rfl hr3) (fun _ => hS3) ?_
  try simp only [Act.put, List.setIfInBounds_toArray, List.set_cons_zero, List.set_cons_succ]
  refine wpAnyS_take (i := 11) (d := some 17) (v := .pointer (some ⟨R, c, none⟩)) rfl rfl rfl (by kernel_rfl) (by kernel_rfl) (by kernel_rfl) (by kernel_rfl) (fun _ _ _ h => h) (.inl ⟨by rfl, fun W hW => by obtain ⟨q0, q1, q2, q3⟩ := hW; go_simp; try rfl⟩) hS3 ?_
  try simp only [Act.put, List.setIfInBounds_toArray, List.set_cons_zero, List.set_cons_succ]
  have hR3 : w3.heap[R]? = some (.cells cs 100 (0, 0)) := (hxa.block _ lR (nk (.inr (.inl d4)))).trans HOLD.out.1
  have f3 : w3.frozen? ⟨R, c, none⟩ = false := by simp [World.frozen?, hR3]
  have c3 := hS3.2.2.1
  refine wpAnyS_mute (i := 12) (d := none) (w' := w3.setCell ⟨R, c, none⟩ (.slice ua un uc)) (by kernel_rfl) rfl rfl (by rfl) (by go_simp; try rfl) (fun h => by cases h) ?_
  try simp only [Act.put, List.setIfInBounds_toArray, List.set_cons_zero, List.set_cons_succ]
  refine wpAnyS_done (by kernel_rfl) ?_ _
  have hx4 : Ext (· = R) w3 (w3.setCell ⟨R, c, none⟩ (.slice ua un uc)) := (Ext.refl (· = R) w3).setCell (p := ⟨R, c, none⟩) (.inr rfl) _
  have hR4 : (w3.setCell ⟨R, c, none⟩ (.slice ua un uc)).heap[R]? = some (.cells (cs.setIfInBounds c (.slice ua un uc)) 100 (0, 0)) := heap_setCell_same w3 _ c cs _ (.slice ua un uc) hR3
  have l3 := hxa.size
  have l4 := hx4.size
  have hBc4 : (w3.setCell ⟨R, c, none⟩ (.slice ua un uc)).heap[Bc]? = some (.cells #[.int .i64 c] 3 (0, 0)) := (hx4.block _ (by omega) (fun e => d2 e.symm)).trans ((hxa.block _ d6 (nk (.inr (.inr rfl)))).trans HOLD.out.2.2.1)
  have hBr4 : (w3.setCell ⟨R, c, none⟩ (.slice ua un uc)).heap[Br]? = some (.cells #[.slice (some ⟨R, 0, none⟩) 21 21] 161 (0, 0)) := (hx4.block _ (by omega) (fun e => d1 e.symm)).trans ((hxa.block _ lBr (nk (.inr (.inl d5)))).trans HOLD.out.2.1)
  have ho4 : Own intc 1 3 base (w3.setCell ⟨R, c, none⟩ (.slice ua un uc)) (.slice ua un uc) (Ls c ++ [x]) := hown3.ext hx4 (fun k hk e => by have := (hown3.blk k hk).1; omega)
  have hoq : ∀ q, q < 21 → q ≠ c → Own intc 1 3 base (w3.setCell ⟨R, c, none⟩ (.slice ua un uc)) (cs.getD q undef) (rowAt Ls o c q) := fun q hq hqc => ((HOLD.out.2.2.2.2.2 q hq).ext hxa (fun k hk e => HDIS.out q c hq hc hqc k hk (by rw [HE.out]; exact e))).ext hx4 (fun k hk e => by have := ((HOLD.out.2.2.2.2.2 q hq).blk k hk).1; omega)
  have hu : ∀ k, (Value.slice ua un uc).ownBlock = some k → (Value.slice sa sn sc).ownBlock = some k ∨ W.heap.size ≤ k := fun k hk => (hn3 k hk).imp id (fun e => by rw [World.size_alloc] at e; omega)
  have hrows : ∀ W5, Ext (· = Bc) (w3.setCell ⟨R, c, none⟩ (.slice ua un uc)) W5 → RowsIn R base (rowAt Ls o (c + 1)) A W5 := fun W5 hx5 => by
    refine ⟨_, by rw [Array.size_setIfInBounds]; exact hcs, (hx5.block _ (by omega) d2).trans hR4, fun q hq => ?_, fun q r hq hrr hqr k hk => ?_, fun q hq k hk => ?_⟩
    · rw [getD_set cs c q _ (by omega)]
      by_cases e : q = c
      · subst e
        rw [if_pos rfl, show rowAt Ls o (q + 1) q = Ls q ++ [x] by unfold rowAt; rw [if_pos (by omega), HX.out]]
        exact ho4.ext hx5 (fun k hk e => (hu k hk).elim (fun e2 => (nO k e2).2.2.2 e) (fun e2 => by omega))
      · rw [if_neg e, show rowAt Ls o (c + 1) q = rowAt Ls o c q by unfold rowAt; by_cases h : q < c; rw [if_pos h, if_pos (by omega)]; rw [if_neg h, if_neg (by omega)]]
        exact (hoq q hq e).ext hx5 (fun k hk e2 => HNC.out cs HOLD.out.1 q hq (by rw [← e2]; exact hk))
    · rw [getD_set cs c _ _ (by omega)] at hk ⊢
      by_cases e : q = c
      · rw [if_pos e] at hk
        rw [if_neg (fun e2 => hqr (e.trans e2.symm))]
        intro hk2
        rcases hu k hk with e2 | e2
        · exact HDIS.out r c hrr hc (fun e3 => hqr (e.trans e3.symm)) k hk2 (by rw [HE.out]; exact e2)
        · have := ((HOLD.out.2.2.2.2.2 r hrr).blk k hk2).2; omega
      · rw [if_neg e] at hk
        by_cases e3 : r = c
        · rw [if_pos e3]
          intro hk2
          rcases hu k hk2 with e2 | e2
          · exact HDIS.out q c hq hc e k hk (by rw [HE.out]; exact e2)
          · have := ((HOLD.out.2.2.2.2.2 q hq).blk k hk).2; omega
        · rw [if_neg e3]
          exact HDIS.out q r hq hrr hqr k hk
    · rw [getD_set cs c _ _ (by omega)] at hk
      by_cases e : q = c
      · rw [if_pos e] at hk
        intro ha
        rcases hu k hk with e2 | e2
        · exact (nO k e2).1 ha
        · have := HAL.out k ha; omega
      · rw [if_neg e] at hk
        exact HNA.out q hq k hk
  have hX4 : Ext (fun k => ¬ A k) W (w3.setCell ⟨R, c, none⟩ (.slice ua un uc)) := (hxa.mono (fun k _ e => (nO k e).1)).andThen hx4 (fun i hi e => by rw [e]; exact nR)
  have HALL := Lib.hid (And.intro hrows (And.intro hX4 (And.intro hR4 (And.intro hBr4 (And.intro hBc4 hu)))))
  have b4 := cell_of_one hBc4
  have f4 := free_of_one hBc4
  have hs4 : W.heap.size ≤ (w3.setCell ⟨R, c, none⟩ (.slice ua un uc)).heap.size := by omega
  generalize w3.setCell ⟨R, c, none⟩ (.slice ua un uc) = W4 at HALL b4 f4 hs4 ⊢
  clear hrows hX4 hR4 hBr4 hBc4 hx4 hx3 hxa hown3 ho4 hoq hS0 hS1 hS3 hR3 f3 c3 hr3 hW0 hoc1 hn3 hu nk l3 l4
  have hx5 : Ext (· = Bc) W4 (W4.setCell ⟨Bc, 0, none⟩ (.int .i64 ((c + 1 : Nat) : Int))) := (Ext.refl (· = Bc) W4).setCell (p := ⟨Bc, 0, none⟩) (.inr rfl) _
  have hX5 : Ext (fun k => ¬ A k) W (W4.setCell ⟨Bc, 0, none⟩ (.int .i64 ((c + 1 : Nat) : Int))) := HALL.out.2.1.andThen hx5 (fun i hi e => by rw [e]; exact nBc)
  have hP : ∀ q, (W4.setCell ⟨Bc, 0, none⟩ (.int .i64 ((c + 1 : Nat) : Int))).cell? ⟨pb, q, none⟩ = W.cell? ⟨pb, q, none⟩ := fun q => hX5.cell (p := ⟨pb, q, none⟩) lpb (fun h => h hA)
  have hPf : ∀ q, (W4.setCell ⟨Bc, 0, none⟩ (.int .i64 ((c + 1 : Nat) : Int))).frozen? ⟨pb, q, none⟩ = W.frozen? ⟨pb, q, none⟩ := fun q => hX5.frozen (p := ⟨pb, q, none⟩) lpb (fun h => h hA)
  have hz5 : (W4.setCell ⟨Bc, 0, none⟩ (.int .i64 ((c + 1 : Nat) : Int))).heap.size = W4.heap.size := World.size_setCell _ _ _
  have hJ5 : JE R Br Bc base Ls o (c + 1) A (W4.setCell ⟨Bc, 0, none⟩ (.int .i64 ((c + 1 : Nat) : Int))) := ⟨HALL.out.1 _ hx5, (hx5.block _ (by omega) d3).trans HALL.out.2.2.2.1, one_setCell HALL.out.2.2.2.2.1, ⟨nR, nBr, nBc⟩, ⟨d1, d2, d3, d4, d5, by omega⟩, by omega, fun k hk => by have := HAL.out k hk; omega, fun cs5 hcs5 q hq hk => by
    have h5 := (hx5.block _ (by omega) d2).trans HALL.out.2.2.1
    rw [h5] at hcs5
    cases hcs5
    rw [getD_set cs c _ _ (by omega)] at hk
    by_cases e : q = c
    · rw [if_pos e] at hk
      exact (HALL.out.2.2.2.2.2 _ hk).elim (fun e2 => (nO _ e2).2.2.2 rfl) (fun e2 => by omega)
    · rw [if_neg e] at hk
      exact HNC.out cs HOLD.out.1 q hq hk⟩
  have hfc : (W4.setCell ⟨Bc, 0, none⟩ (.int .i64 ((c + 1 : Nat) : Int))).cell? ⟨pb, po, none⟩ = some (.int .i64 (fld o c)) := by rw [HX.out, hP]; exact HOLD.out.2.2.2.1
  have HFIN := Lib.hid (And.intro hJ5 (And.intro hfc (And.intro (fun q (_ : q ≠ po) => hP q) (And.intro hPf (And.intro (hX5.mono (T := fun k => ¬ A k ∨ k = pb) (fun k _ e => .inl e)) (Shp.same (W := W) (pb := pb) (hX5.block pb lpb (fun h => h hA))))))))
  clear hJ5 hP hPf hX5 hx5 hz5 hfc
  go_wp2_with fail
  go_end0
  exact ⟨⟨_, rfl⟩, HFIN.out⟩
end Go.Proofs.YtgmdimbiipemhaaGreatDoor
namespace Go.Proofs.YtgmdimbiipemhaaGreatDoor
open Go.RowKit
set_option linter.unusedSimpArgs false
set_option linter.unusedVariables false
def roundOn (R : Nat → Prop) (J : World → Prop) (W : World) : Exit → Act → World → Prop
  | .normal, _, W' => J W' ∧ Ext R W W'
  | .ret, _, _ => False
  | .exit _, _, _ => False
  | .goto _, _, _ => False
  | .panic _, _, _ => False
  | .outgrown, _, _ => False
theorem ext_putObjP (w : World) (l : Nat) (o : Obj) : Ext (· = l) w (w.putObj l o) :=
  ⟨rfl, rfl, rfl, by simp [World.putObj], fun k hk hn => World.putObj_heap_other (by omega)⟩
end Go.Proofs.YtgmdimbiipemhaaGreatDoor
namespace Go.Proofs.YtgmdimbiipemhaaGreatDoor
open Go.RowKit
set_option linter.unusedSimpArgs false
set_option linter.unusedVariables false
section
variable {P : Program} {l n : Nat} {ops : Array Oper} {Q : Exit → Act → World → Prop}
theorem uponIn_lift {o : Oper} {a : Act} {K : Act → World → Prop} {r : Result Next} (h : o.upon P a K Q r) : o.uponIn (Fence.wide.inRound l) n P a K Q r := by
  have hd : (Fence.wide.inRound l).depth.isSome = true → 1 ≤ n := fun h0 => by simp [Fence.wide] at h0
  cases r with
  | ok x w' =>
    cases x with
    | value v => exact h
    | skip => exact h
    | defer d => exact h
    | enter f args => exact ⟨hd, trivial, fun cs _ => let ⟨e, w', fr, r, s, x⟩ := h cs; ⟨e, w', fr, by cases e <;> exact r, comesIn_wide.2 s, x⟩⟩
    | row row args => exact ⟨hd, fun c cs _ => let ⟨v, w', r, s⟩ := h c cs; ⟨v, w', r, stepsIn_wide.2 s⟩⟩
    | _ => exact (show False from h).elim
  | halt x w' => cases x <;> first | exact h | exact (show False from h).elim
def noDefer (ops : Array Oper) : Bool := ops.all fun o => match o.op with
  | .defer _ => false
  | _ => true
theorem noDefer_spec (h : noDefer ops = true) {i : Nat} {o : Oper} (ho : ops[i]? = some o) : ∀ c, o.op ≠ .defer c := by
  intro c hc
  obtain ⟨hi, rfl⟩ := Array.getElem?_eq_some_iff.1 ho
  have := (Array.all_eq_true.1 h) i hi
  rw [hc] at this
  cases this
theorem wpOpIn_lift (hd : noDefer ops = true) (hQ : ¬ LetsOut Q) {i : Nat} {K : Act → World → Prop} {a : Act} {w : World} (h : wpOp P ops Q i K a w) : wpOpIn (Fence.wide.inRound l) n P ops Q i K a w := by
  unfold wpOp at h
  unfold wpOpIn
  cases ho : ops[i]? with
  | none => rw [ho] at h; exact h
  | some o =>
    rw [ho] at h
    dsimp only at h ⊢
    split at h
    · rename_i hw
      rw [if_pos hw]
      rcases h with h | h
      · refine ⟨fun f _ => trivial, ?_⟩
        rw [Oper.semAt_eq _ _ _ (noDefer_spec hd ho)]
        exact uponIn_lift h
      · exact absurd h.2 hQ
    · rename_i hw
      rw [if_neg hw]
      exact ⟨fun f _ => trivial, h⟩
theorem wpAnyIn_lift {md : Region.Mode} (hd : noDefer ops = true) (hQ : ¬ LetsOut Q) : ∀ (fuel : Nat) (listed : Array Bool) (a : Act) (w : World), wpAny P md ops Q fuel listed a w → wpAnyIn (Fence.wide.inRound l) n P md ops Q fuel listed a w
  | 0, _, _, _, h => h
  | fuel + 1, _, _, _, h => ⟨h.1, fun i hi => wpOpIn_mono (fun a w => wpAnyIn_lift hd hQ fuel _ a w) (wpOpIn_lift hd hQ (h.2 i hi))⟩
theorem wpIn_region_s {id : Nat} {a : Act} {w : World} (S : World → Prop) (Z : Nat → Bool) (hm : P.follows .mixedOrders = true) (hd : noDefer ops = true) (hQ : ¬ LetsOut Q)
    (h : wpAnyS P .any ops Q S Z ops.size (Array.replicate ops.size false) a w.drew) : (Code.region id ops true).wpIn (Fence.wide.inRound l) n P Q a w :=
  wpIn_region_any hm (wpAnyIn_lift hd hQ _ _ _ _ (wpAny_of_s _ _ _ _ h))
end
def IterGivesS {U : Type} (P : Program) (n gf : Nat) (lb : Array Value) (encs : U → Array Value) (R Rs : Nat → Prop) (xs : List U) (w : World) : Prop :=
  ∀ (l : Nat) (I : List U → World → Prop) (W : World), w.heap.size < l → Below w.heap.size w W → (∀ pre W W', I pre W → Ext Rs W W' → I pre W') →
    (∀ pre x W1, I pre W1 → pre ++ [x] <+: xs → YieldAt Fence.wide (n - 1) P l (encs x) W1 fun e W' => e = .returned (.bool true) ∧ I (pre ++ [x]) W' ∧ Ext (fun k => k = l ∨ R k) W1 W') → I [] W →
    CallsIn Fence.wide n P gf (#[.func (.yield l) #[] #[]] ++ lb) W fun e W' => (∃ v, e = .returned v) ∧ I xs W'
theorem range_preS {U : Type} {P : Program} {n : Nat} (h1 : 1 ≤ n) {g : Operand} {ps : Array Tmp} {assign body : Code} {Q : Exit → Act → World → Prop} {a : Act} {w : World} {gf : Nat} {lb : Array Value}
    (hg : a.eval g = .func (.func gf) #[] lb) (eg : ∀ args w, (callFunc gf args).run P w = .ok (.enter gf args) w)
    (encs : U → Array Value) (hps : ∀ x, (encs x).size = ps.size) (R Rs : Nat → Prop) (hR : ∀ k, R k → k ≠ w.heap.size ∧ k ≠ w.heap.size + 1) (hRs : ∀ k, Rs k → k ≠ w.heap.size ∧ k ≠ w.heap.size + 1) (xs : List U)
    (J : List U → World → Prop) (hJ : ∀ pre W W', J pre W → Ext (fun k => k = w.heap.size ∨ k = w.heap.size + 1 ∨ Rs k) W W' → J pre W')
    (hseq : IterGivesS P (n - 1) gf lb encs R Rs xs w)
    (h00 : J [] w)
    (hround : ∀ (l : Nat) (pre : List U) (x : U) (W : World), J pre W → pre ++ [x] <+: xs → w.heap.size + 1 < W.heap.size →
      assign.wpIn (Fence.wide.inRound l) (n - 1 - 1) P (Exit.then (fun a₁ W₁ => Ext (fun _ => False) W W₁ ∧ J pre W₁ ∧ ∀ W₂, J pre W₂ → Ext (fun k => k = w.heap.size + 1) W₁ W₂ → body.wpIn (Fence.wide.inRound l) (n - 1 - 1) P (roundOn R (J (pre ++ [x])) W₂) a₁ W₂) (fun _ _ _ => False))
        { tmps := (ps.zip (encs x)).foldl (fun t (p, v) => t.setIfInBounds p v) a.tmps, defers := [] } W)
    (hdone : ∀ W, J xs W → W.heap[w.heap.size]? = some (.deferred (some [])) → Q .normal { a with defers := { target := .collected w.heap.size, args := #[] } :: a.defers } W) :
    (Code.rangeFunc g ps assign body).wpIn Fence.wide n P Q a w := by
  refine wpIn_rangeFunc ?_
  intro fn hfn
  obtain ⟨rec, hrec⟩ : ∃ rec : LoopState → Option Code → Loop, rec = fun st pe => { state := st, pending := pe, fn, tmps := a.tmps, params := ps, assign, body, defers := w.heap.size } := ⟨_, rfl⟩
  obtain ⟨W1, hW1⟩ : ∃ W1, (w.alloc (.deferred (some []))).alloc (.loop (rec .ready none)) = W1 := ⟨_, rfl⟩
  have hL1 : W1.heap[w.heap.size + 1]? = some (.loop (rec .ready none)) := by
    rw [← hW1]; have := World.alloc_heap_new (w.alloc (.deferred (some []))) (.loop (rec .ready none)); rwa [World.size_alloc] at this
  have hK1 : W1.heap[w.heap.size]? = some (.deferred (some [])) := by
    rw [← hW1]; exact (Below.heap_alloc _ _ _ (by simp)).trans (World.alloc_heap_new w _)
  have hb1 : Below w.heap.size w W1 := by
    rw [← hW1]; exact (((Below.refl _ w).alloc (Nat.le_refl _) _).alloc (by simp) _)
  have hJ1 : J [] W1 := hJ _ _ _ h00 (Ext.of_below hb1)
  refine ⟨w.heap.size + 1, [{ target := .collected w.heap.size, args := #[] }], W1, { target := .fn (.func gf) lb, args := #[.func (.yield (w.heap.size + 1)) #[] #[]] }, W1, gf,
    #[.func (.yield (w.heap.size + 1)) #[] #[]] ++ lb, W1, ?_, ?_, ?_, ?_, fun _ => h1, ?_⟩
  · rw [← hW1, hrec]; exact run_enterLoop_outer _ _ _ _ _
  · simp only [resolve, hg]
    simp [go_sem]
  · intro f' hf'; trivial
  · simp [invoke, go_sem, eg]
  · refine (hseq (w.heap.size + 1)
      (fun pre W => J pre W ∧ W.heap[w.heap.size + 1]? = some (.loop (rec .ready none)) ∧ W.heap[w.heap.size]? = some (.deferred (some [])))
      W1 (Nat.lt_succ_self _) hb1
      (fun pre A B hs hx => ⟨hJ _ _ _ hs.1 (hx.mono (fun _ _ f => .inr (.inr f))), (hx.block _ (Array.getElem?_eq_some_iff.1 hs.2.1).1 (fun e => (hRs _ e).2 rfl)).trans hs.2.1, (hx.block _ (Array.getElem?_eq_some_iff.1 hs.2.2).1 (fun e => (hRs _ e).1 rfl)).trans hs.2.2⟩)
      ?_ ⟨hJ1, hL1, hK1⟩).mono ?_
    · rintro pre x W ⟨hi, hl, hk⟩ hpx
      have hlt : w.heap.size + 1 < W.heap.size := (Array.getElem?_eq_some_iff.1 hl).1
      have hy := run_yield (P := P) (args := encs x) hl (by rw [hrec]; exact hps x)
      rw [hrec] at hy
      refine ⟨fn, _, assign, body, hy, roundIn_of_wpIn hfn (wpIn_mono (hround _ pre x W hi hpx hlt) ?_)⟩
      rintro e a1 W' hp
      cases e with
      | normal =>
        obtain ⟨hxa, hja, hbody⟩ := hp
        have hla := (hxa.block _ hlt id).trans hl
        have hka := (hxa.block _ (by omega) id).trans hk
        have hlt' : w.heap.size + 1 < W'.heap.size := (Array.getElem?_eq_some_iff.1 hla).1
        refine ⟨_, run_beginRound hla (by rw [hrec]), ?_⟩
        have hl2 : (W'.putObj (w.heap.size + 1) (.loop { rec .ready none with state := .busy })).heap[w.heap.size + 1]? = some (.loop { rec .ready none with state := .busy }) := World.putObj_heap_same hlt'
        have hk2 : (W'.putObj (w.heap.size + 1) (.loop { rec .ready none with state := .busy })).heap[w.heap.size]? = some (.deferred (some [])) := (World.putObj_heap_other (by omega)).trans hka
        have hx2 : Ext (fun k => k = w.heap.size + 1) W' (W'.putObj (w.heap.size + 1) (.loop { rec .ready none with state := .busy })) := ext_putObjP _ _ _
        have hmono : ∀ {A B : World}, Ext (fun k => k = w.heap.size + 1) A B → Ext (fun k => k = w.heap.size ∨ k = w.heap.size + 1 ∨ Rs k) A B := fun hx => hx.mono (fun k _ hk => .inr (.inl hk))
        refine wpIn_mono (hbody _ (hJ _ _ _ hja (hmono hx2)) hx2) ?_
        have s1 := (Array.getElem?_eq_some_iff.1 hl2).1
        have s0 := (Array.getElem?_eq_some_iff.1 hk2).1
        have nR1 : ¬ R (w.heap.size + 1) := fun h => (hR _ h).2 rfl
        have nR0 : ¬ R w.heap.size := fun h => (hR _ h).1 rfl
        rintro e a3 W3 hp
        cases e with
        | normal =>
          obtain ⟨hj3, hx3⟩ := hp
          have hl3 := (hx3.block _ s1 nR1).trans hl2
          have hk3 := (hx3.block _ s0 nR0).trans hk2
          have hr := run_endRound (P := P) none hl3
          rw [hrec] at hr
          refine ⟨_, _, hr, rfl, ⟨hJ _ _ _ hj3 (hmono (ext_putObjP _ _ _)), ?_, (World.putObj_heap_other (by omega)).trans hk3⟩, ?_⟩
          · rw [hrec]; exact World.putObj_heap_same (Array.getElem?_eq_some_iff.1 hl3).1
          · have e1 : Ext (fun k => k = w.heap.size + 1 ∨ R k) W W' := hxa.mono (fun _ _ f => f.elim)
            have e2 : Ext (fun k => k = w.heap.size + 1 ∨ R k) W' (W'.putObj (w.heap.size + 1) (.loop { rec .ready none with state := .busy })) := hx2.mono (fun _ _ h => .inl h)
            have e3 : Ext (fun k => k = w.heap.size + 1 ∨ R k) (W'.putObj (w.heap.size + 1) (.loop { rec .ready none with state := .busy })) W3 := hx3.mono (fun _ _ h => .inr h)
            exact ((e1.trans e2).trans e3).trans ((ext_putObjP _ _ _).mono (fun _ _ h => .inl h))
        | ret => exact hp.elim
        | exit id => exact hp.elim
        | goto t => exact hp.elim
        | panic ch => exact hp.elim
        | outgrown => exact hp.elim
      | ret => exact hp.elim
      | exit id => exact hp.elim
      | goto t => exact hp.elim
      | panic ch => exact hp.elim
      | outgrown => exact hp.elim
    · rintro e W2 ⟨⟨v, rfl⟩, hi, hl, hk⟩
      refine ⟨none, _, by have := run_endLoop (P := P) hl (by rw [hrec]; simp); rw [hrec] at this; exact this, hdone _ (hJ _ _ _ hi ?_) ((World.putObj_heap_other (by omega)).trans hk)⟩
      have hx := ext_putObjP W2 (w.heap.size + 1) (.loop { (rec .ready none) with state := .exhausted })
      rw [hrec] at hx
      exact hx.mono (fun k _ hk => .inr (.inl hk))
end Go.Proofs.YtgmdimbiipemhaaGreatDoor
namespace Go.Proofs.YtgmdimbiipemhaaGreatDoor
set_option linter.unusedSimpArgs false
set_option linter.unusedVariables false
section
variable {α : Type} [DecidableEq α]
def runsL : List α → List (Nat × α)
  | [] => []
  | x :: l => (leadN x l + 1, x) :: runsL (l.drop (leadN x l))
termination_by l => l.length
decreasing_by simp; omega
theorem runsL_nil : runsL ([] : List α) = [] := by rw [runsL]
theorem lead_head {x : α} {l : List α} (h : l[0]? = some x) : 1 ≤ leadN x l := by
  cases l with
  | nil => simp at h
  | cons y l => simp at h; subst h; rw [leadN, if_pos rfl]; omega
theorem runsL_step {x : α} {l : List α} (h : l[0]? = some x) : runsL l = (leadN x l, x) :: runsL (l.drop (leadN x l)) := by
  cases l with
  | nil => simp at h
  | cons y l =>
    simp at h
    subst h
    rw [runsL, leadN, if_pos rfl, List.drop_succ_cons]
theorem runsL_pos : ∀ (n : Nat) (l : List α), l.length = n → ∀ p ∈ runsL l, 1 ≤ p.1 ∧ p.1 ≤ n ∧ p.2 ∈ l := by
  intro n
  induction n using Nat.strongRecOn with
  | ind n ih =>
    intro l hl p hp
    cases l with
    | nil => rw [runsL] at hp; simp at hp
    | cons x l =>
      rw [runsL] at hp
      have hle := leadN_le x l
      rw [List.length_cons] at hl
      rcases List.mem_cons.1 hp with rfl | hp
      · exact ⟨by simp, by simp; omega, by simp⟩
      · obtain ⟨h1, h2, h3⟩ := ih (l.drop (leadN x l)).length (by rw [List.length_drop]; omega) _ rfl p hp
        rw [List.length_drop] at h2
        exact ⟨h1, by omega, List.mem_cons_of_mem _ (List.mem_of_mem_drop h3)⟩
end
def putR (ps : List (Nat × Int)) : List UInt8 := ps.flatMap fun p => putB p.1 ++ putB (zigN p.2)
theorem putR_snoc (ps : List (Nat × Int)) (p : Nat × Int) : putR (ps ++ [p]) = (putR ps ++ putB p.1) ++ putB (zigN p.2) := by simp [putR]
theorem runsB_runsL : ∀ (n : Nat) (l : List Int), l.length = n → runsB l = putR (runsL l) := by
  intro n
  induction n using Nat.strongRecOn with
  | ind n ih =>
    intro l hl
    cases l with
    | nil => rw [runsB, runsL]; rfl
    | cons x l =>
      rw [List.length_cons] at hl
      rw [runsB, runsL, ih (l.drop (leadN x l)).length (by rw [List.length_drop]; omega) _ rfl]
      simp [putR]
theorem putR_le {ps qs : List (Nat × Int)} (h : ps <+: qs) : (putR ps).length ≤ (putR qs).length := by
  obtain ⟨t, rfl⟩ := h
  unfold putR
  rw [List.flatMap_append, List.length_append]
  omega
def putT (ps : List (Nat × Bool)) : List UInt8 := (match ps.head? with
  | some (_, true) => [0]
  | _ => []) ++ ps.flatMap fun p => putB p.1
theorem putT_ne {ps : List (Nat × Bool)} (h : ps ≠ []) : putT ps ≠ [] := by
  cases ps with
  | nil => exact absurd rfl h
  | cons p ps =>
    unfold putT
    intro e
    have := congrArg List.length e
    rw [List.length_append, List.flatMap_cons, List.length_append, List.length_nil] at this
    have := List.length_pos_iff.2 (putB_ne p.1)
    omega
theorem putT_snoc (ps : List (Nat × Bool)) (p : Nat × Bool) : putT (ps ++ [p]) = (if p.2 = true ∧ ps = [] then putT ps ++ [0] else putT ps) ++ putB p.1 := by
  cases ps with
  | nil =>
    obtain ⟨k, v⟩ := p
    cases v <;> simp [putT]
  | cons q ps => simp [putT]
theorem putT_le {ps qs : List (Nat × Bool)} (h : ps <+: qs) : (putT ps).length ≤ (putT qs).length := by
  obtain ⟨t, rfl⟩ := h
  cases ps with
  | nil => simp [putT]
  | cons p ps => simp [putT]
theorem boolsF_runsL : ∀ (n : Nat) (v : Bool) (l : List Bool), l.length = n → (l = [] ∨ l.head? = some v) → boolsF v l = (runsL l).flatMap fun p => putB p.1 := by
  intro n
  induction n using Nat.strongRecOn with
  | ind n ih =>
    intro v l hl h
    cases l with
    | nil => rw [boolsF_nil, runsL]; rfl
    | cons x l =>
      have hx : x = v := by simpa using h
      subst hx
      rw [List.length_cons] at hl
      have e : leadN x (x :: l) = leadN x l + 1 := by rw [leadN, if_pos rfl]
      rw [boolsF_cons (by simp), e, List.drop_succ_cons, runsL, List.flatMap_cons, ih (l.drop (leadN x l)).length (by rw [List.length_drop]; omega) (!x) _ rfl (head_not (leadN_drop x l))]
theorem boolsB_runsL (l : List Bool) : boolsB l = putT (runsL l) := by
  unfold boolsB
  cases l with
  | nil => rw [boolsF_nil, runsL]; rfl
  | cons x l =>
    cases x with
    | false =>
      rw [boolsF_runsL _ false _ rfl (.inr rfl)]
      rw [runsL]
      rfl
    | true =>
      have e : leadN false (true :: l) = 0 := by rw [leadN, if_neg (by decide)]
      rw [boolsF_cons (by simp), e, List.drop_zero, Bool.not_false, boolsF_runsL _ true _ rfl (.inr rfl), runsL, putB_lt (by omega)]
      rfl
end Go.Proofs.YtgmdimbiipemhaaGreatDoor
namespace Go.Proofs.YtgmdimbiipemhaaGreatDoor
open Go.RowKit Go.Deep
set_option linter.unusedSimpArgs false
set_option linter.unusedVariables false
attribute [local go_sem] Oper.semAt_some
theorem runs_int_any (va : Option Addr) (m vc : Nat) (w : World) : Calls Tryz.prog 147 #[.slice va m vc] w
    fun e w' => e = .returned (.func (.func 178) #[] #[.pointer (some ⟨w.heap.size, 0, none⟩)]) ∧ w' = w.alloc (.cells #[.slice va m vc] 100) := by
  go_enter Tryz.func147, Tryz.ntmps147
  go_wp2_with fail
  go_ret
  exact ⟨rfl, rfl⟩
set_option maxRecDepth 100000 in
set_option maxHeartbeats 2000000 in
theorem runs_int_gives (n : Nat) (hn : 1 ≤ n) (Bs : Nat) (v : Value) (l : List Int) (R : Nat → Prop) (w : World) (hv : SliceIs intc 1 w v l) (hB : w.heap[Bs]? = some (.cells #[v] 100 (0, 0))) (hRB : ¬ R Bs) (hRv : l ≠ [] → ∀ b o m c, v = .slice (some ⟨b, o, none⟩) m c → ¬ R b ∧ b < w.heap.size ∧ b ≠ Bs) :
    IterGivesS Tryz.prog n 178 #[.pointer (some ⟨Bs, 0, none⟩)] (fun x : Nat × Int => #[.int .i64 x.1, .int .i64 x.2]) R (· = Bs) (runsL l) w := by
  intro lb I W hl hb hI hY h0
  obtain ⟨va, vc, rfl, hcap, hmax, hcs⟩ := id hv
  unfold maxLen at hmax
  have hBl := (Array.getElem?_eq_some_iff.1 hB).1
  have HI := Lib.hid hI
  have HY := Lib.hid hY
  have HB0 : W.heap[Bs]? = some (.cells #[.slice va l.length vc] 100 (0, 0)) := (hb.block _ hBl).trans hB
  have hS0 : SliceIs intc 1 W (.slice va l.length vc) l := hv.below hb
  have HV : Hid (l ≠ [] → ∀ ad, va = some ad → ¬ R ad.block ∧ ad.block < w.heap.size ∧ ad.block ≠ Bs) := Lib.hid (fun hne ad e => by
    obtain ⟨b, o, e2, _⟩ := hcs hne
    rw [e] at e2
    cases e2
    exact hRv hne b o _ _ (by rw [e]))
  have HF : Hid (W.heap[Bs]? = some (.cells #[.slice va l.length vc] 100 (0, 0)) ∧ SliceIs intc 1 W (.slice va l.length vc) l ∧ I [] W) := Lib.hid ⟨HB0, hS0, h0⟩
  clear hv hcs hI hY hRv hB hS0 HB0 h0 hb
  refine callsIn_of_wp Tryz.func178 rfl trivial ?_ rfl
  simp only [Tryz.ntmps178, List.size_toArray, List.length_cons, List.length_nil, Nat.reduceAdd, Nat.reduceSub, Array.replicate_succ, Array.replicate_zero, List.push_toArray, List.append_toArray, List.nil_append, List.cons_append]
  refine wpIn_wide.2 ?_
  go_wp2_with fail
  go_loopg [3] l.length (fun g nv wr => ∃ (r : List Int) (pre : List (Nat × Int)) (ra : Option Addr) (rc : Nat), g = r.length ∧ r.length ≤ l.length ∧ r.length ≤ rc ∧ rc ≤ 2 ^ 63 - 1 ∧ Hid (runsL l = pre ++ runsL r) ∧ Hid (r ≠ [] → ∀ ad, ra = some ad → ¬ R ad.block ∧ ad.block < w.heap.size ∧ ad.block ≠ Bs) ∧ Hid (wr.heap[Bs]? = some (.cells #[.slice ra r.length rc] 100 (0, 0)) ∧ SliceIs intc 1 wr (.slice ra r.length rc) r ∧ I pre wr))
  case atStart => exact ⟨l, [], va, vc, rfl, Nat.le_refl _, hcap, hmax, Lib.hid rfl, HV, HF⟩
  case round =>
    clear HV HF hcap hmax
    obtain ⟨r, pre, ra, rc, hg, hrl, hcap, hmax, HP, HV, HF⟩ := hrel
    have HG := Lib.hid hg
    clear hg
    have b0 := cell_of_one HF.out.1
    by_cases hr0 : r.length = 0
    · obtain rfl : r = [] := List.eq_nil_of_length_eq_zero hr0
      have hr1 : ¬ (0 : Int) < 0 := by omega
      have HE : Hid (runsL l = pre) := Lib.hid (by rw [HP.out, runsL_nil, List.append_nil])
      go_wp2_with fail
      go_end0
      rw [HE.out]
      exact ⟨⟨_, rfl⟩, HF.out.2.2⟩
    · have hr1 : (0 : Int) < (r.length : Int) := by omega
      obtain ⟨x0, hx0⟩ : ∃ x, r[0]? = some x := ⟨_, List.getElem?_eq_getElem (by omega)⟩
      have HX0 := Lib.hid hx0
      have hrne : r ≠ [] := fun e => hr0 (by rw [e]; rfl)
      obtain ⟨bb, oo, rfl, -⟩ := HF.out.2.1.at1 hx0 rfl
      have HVB := Lib.hid (HV.out hrne _ rfl)
      have HRN := Lib.hid hrne
      clear hx0 hrne hr0
      go_wp2_with fail
      clear b0
      go_loopg [3] (r.length - 1) (fun g nv wx => ∃ k : Nat, g = r.length - k ∧ nv = .int .i64 k ∧ 1 ≤ k ∧ k ≤ r.length ∧ Hid (k ≤ leadN x0 r) ∧ Hid (wx.heap[Bs]? = some (.cells #[.slice (some ⟨bb, oo, none⟩) r.length rc] 100 (0, 0)) ∧ SliceIs intc 1 wx (.slice (some ⟨bb, oo, none⟩) r.length rc) r ∧ I pre wx))
      case atStart => exact ⟨1, rfl, rfl, Nat.le_refl _, by omega, Lib.hid (lead_head HX0.out), HF⟩
      case round =>
        clear HF
        obtain ⟨k, hg2, rfl, hk1, hkr, HC, HF⟩ := hrel
        have HG2 := Lib.hid hg2
        clear hg2
        have hB := HF.out.1
        have c1 : wr.cell? ⟨bb, oo, none⟩ = some (.int .i64 x0) := by
          obtain ⟨_, _, e, c⟩ := HF.out.2.1.at1 HX0.out rfl
          cases e
          exact c
        have HF1 : Hid (wr.drew.heap[Bs]? = some (.cells #[.slice (some ⟨bb, oo, none⟩) r.length rc] 100 (0, 0)) ∧ SliceIs intc 1 wr.drew (.slice (some ⟨bb, oo, none⟩) r.length rc) r ∧ I pre wr.drew) := Lib.hid ⟨HF.out.1, HF.out.2.1, HI.out _ _ _ HF.out.2.2 (Ext.refl _ _).drew⟩
        have b0 := cell_of_one hB
        by_cases hk : k < r.length
        · have hki : (k : Int) < (r.length : Int) := by omega
          obtain ⟨x, hx⟩ : ∃ x, r[k]? = some x := ⟨_, List.getElem?_eq_getElem hk⟩
          have c0 : wr.cell? ⟨bb, oo + k, none⟩ = some (.int .i64 x) := by
            obtain ⟨_, _, e, c⟩ := HF.out.2.1.at1 hx rfl
            cases e
            exact c
          have HX := Lib.hid (lead_go (x := x0) (l := r) (i := 0) (Nat.zero_le k) (by simpa using HC.out) hx)
          simp only [List.drop_zero, Nat.sub_zero] at HX
          go_upto_region 2 with fail
          have hS0 : (fun W : World => W.cell? ⟨Bs, 0, none⟩ = some (.slice (some ⟨bb, oo, none⟩) r.length rc) ∧ W.cell? ⟨bb, oo + k, none⟩ = some (.int .i64 x) ∧ W.cell? ⟨bb, oo, none⟩ = some (.int .i64 x0)) wr.drew := ⟨b0, c0, c1⟩
          clear b0 c0 c1 hB HF hx
          refine wp_region_s (fun W : World => W.cell? ⟨Bs, 0, none⟩ = some (.slice (some ⟨bb, oo, none⟩) r.length rc) ∧ W.cell? ⟨bb, oo + k, none⟩ = some (.int .i64 x) ∧ W.cell? ⟨bb, oo, none⟩ = some (.int .i64 x0)) (fun _ => false) (by kernel_rfl) ?_
          generalize wr.drew = W1 at hS0 HF1 ⊢
          refine wpAnyS_take (i := 0) (d := some 7) rfl rfl rfl (by kernel_rfl) (by kernel_rfl) (by kernel_rfl) (by kernel_rfl) (fun _ _ _ h => h) (.inl ⟨by rfl, fun W hW => by obtain ⟨q0, q1, q2⟩ := hW; go_simp; try rfl⟩) hS0 ?_
          try simp only [Act.put, List.setIfInBounds_toArray, List.set_cons_zero, List.set_cons_succ]
          refine wpAnyS_take (i := 1) (d := some 8) (v := .slice (some ⟨bb, oo, none⟩) r.length rc) rfl rfl rfl (by kernel_rfl) (by kernel_rfl) (by kernel_rfl) (by kernel_rfl) (fun _ _ _ h => h) (.inl ⟨by rfl, fun W hW => by obtain ⟨q0, q1, q2⟩ := hW; go_simp; try rfl⟩) hS0 ?_
          try simp only [Act.put, List.setIfInBounds_toArray, List.set_cons_zero, List.set_cons_succ]
          refine wpAnyS_take (i := 2) (d := some 9) (v := .int .i64 r.length) rfl rfl rfl (by kernel_rfl) (by kernel_rfl) (by kernel_rfl) (by kernel_rfl) (fun _ _ _ h => h) (.inl ⟨by rfl, fun W hW => by obtain ⟨q0, q1, q2⟩ := hW; go_simp; try rfl⟩) hS0 ?_
          try simp only [Act.put, List.setIfInBounds_toArray, List.set_cons_zero, List.set_cons_succ]
          refine wpAnyS_take (i := 3) (d := some 10) (v := .bool true) rfl rfl rfl (by kernel_rfl) (by kernel_rfl) (by kernel_rfl) (by kernel_rfl) (fun _ _ _ h => h) (.inl ⟨by rfl, fun W hW => by obtain ⟨q0, q1, q2⟩ := hW; go_simp; try rfl⟩) hS0 ?_
          try simp only [Act.put, List.setIfInBounds_toArray, List.set_cons_zero, List.set_cons_succ]
          refine wpAnyS_take (i := 4) (d := some 11) (v := .bool true) rfl rfl rfl (by kernel_rfl) (by kernel_rfl) (by kernel_rfl) (by kernel_rfl) (fun _ _ _ h => h) (.inl ⟨by rfl, fun W hW => by obtain ⟨q0, q1, q2⟩ := hW; go_simp; try rfl⟩) hS0 ?_
          try simp only [Act.put, List.setIfInBounds_toArray, List.set_cons_zero, List.set_cons_succ]
          refine wpAnyS_take (i := 5) (d := some 12) (v := .slice (some ⟨bb, oo, none⟩) r.length rc) rfl rfl rfl (by kernel_rfl) (by kernel_rfl) (by kernel_rfl) (by kernel_rfl) (fun _ _ _ h => h) (.inl ⟨by rfl, fun W hW => by obtain ⟨q0, q1, q2⟩ := hW; go_simp; try rfl⟩) hS0 ?_
          try simp only [Act.put, List.setIfInBounds_toArray, List.set_cons_zero, List.set_cons_succ]
          refine wpAnyS_take (i := 6) (d := some 13) rfl rfl rfl (by kernel_rfl) (by kernel_rfl) (by kernel_rfl) (by kernel_rfl) (fun _ _ _ h => h) (.inl ⟨by rfl, fun W hW => by obtain ⟨q0, q1, q2⟩ := hW; go_simp; try rfl⟩) hS0 ?_
          try simp only [Act.put, List.setIfInBounds_toArray, List.set_cons_zero, List.set_cons_succ]
          refine wpAnyS_take (i := 7) (d := some 14) (v := .pointer (some ⟨bb, oo + k, none⟩)) rfl rfl rfl (by kernel_rfl) (by kernel_rfl) (by kernel_rfl) (by kernel_rfl) (fun _ _ _ h => h) (.inl ⟨by rfl, fun W hW => by obtain ⟨q0, q1, q2⟩ := hW; go_simp; try rfl⟩) hS0 ?_
          try simp only [Act.put, List.setIfInBounds_toArray, List.set_cons_zero, List.set_cons_succ]
          refine wpAnyS_take (i := 8) (d := some 15) (v := .int .i64 x) rfl rfl rfl (by kernel_rfl) (by kernel_rfl) (by kernel_rfl) (by kernel_rfl) (fun _ _ _ h => h) (.inl ⟨by rfl, fun W hW => by obtain ⟨q0, q1, q2⟩ := hW; go_simp; try rfl⟩) hS0 ?_
          try simp only [Act.put, List.setIfInBounds_toArray, List.set_cons_zero, List.set_cons_succ]
          refine wpAnyS_take (i := 9) (d := some 16) (v := .slice (some ⟨bb, oo, none⟩) r.length rc) rfl rfl rfl (by kernel_rfl) (by kernel_rfl) (by kernel_rfl) (by kernel_rfl) (fun _ _ _ h => h) (.inl ⟨by rfl, fun W hW => by obtain ⟨q0, q1, q2⟩ := hW; go_simp; try rfl⟩) hS0 ?_
          try simp only [Act.put, List.setIfInBounds_toArray, List.set_cons_zero, List.set_cons_succ]
          refine wpAnyS_take (i := 10) (d := some 17) (v := .pointer (some ⟨bb, oo, none⟩)) rfl rfl rfl (by kernel_rfl) (by kernel_rfl) (by kernel_rfl) (by kernel_rfl) (fun _ _ _ h => h) (.inl ⟨by rfl, fun W hW => by obtain ⟨q0, q1, q2⟩ := hW; go_simp; try rfl⟩) hS0 ?_
          try simp only [Act.put, List.setIfInBounds_toArray, List.set_cons_zero, List.set_cons_succ]
          refine wpAnyS_take (i := 11) (d := some 18) (v := .int .i64 x0) rfl rfl rfl (by kernel_rfl) (by kernel_rfl) (by kernel_rfl) (by kernel_rfl) (fun _ _ _ h => h) (.inl ⟨by rfl, fun W hW => by obtain ⟨q0, q1, q2⟩ := hW; go_simp; try rfl⟩) hS0 ?_
          try simp only [Act.put, List.setIfInBounds_toArray, List.set_cons_zero, List.set_cons_succ]
          by_cases hxx : x = x0
          · have hC2 := HX.out.1 hxx
            have hs1 : (x == x0) = true := by simpa using hxx
            have HC2 := Lib.hid hC2
            clear HX hC2 HC hxx
            refine wpAnyS_take (i := 12) (d := some 19) (v := .bool true) rfl rfl rfl (by kernel_rfl) (by kernel_rfl) (by kernel_rfl) (by kernel_rfl) (fun _ _ _ h => h) (.inl ⟨by rfl, fun W hW => by obtain ⟨q0, q1, q2⟩ := hW; go_simp; try rfl⟩) hS0 ?_
            try simp only [Act.put, List.setIfInBounds_toArray, List.set_cons_zero, List.set_cons_succ]
            refine wpAnyS_take (i := 13) (d := some 20) (v := .bool true) rfl rfl rfl (by kernel_rfl) (by kernel_rfl) (by kernel_rfl) (by kernel_rfl) (fun _ _ _ h => h) (.inl ⟨by rfl, fun W hW => by obtain ⟨q0, q1, q2⟩ := hW; go_simp; try rfl⟩) hS0 ?_
            try simp only [Act.put, List.setIfInBounds_toArray, List.set_cons_zero, List.set_cons_succ]
            refine wpAnyS_done (by kernel_rfl) ?_ _
            clear hS0
            go_wp2_with fail
            go_roundg (r.length - (k + 1))
            case measure => rw [HG2.out]; omega
            case rel => exact ⟨k + 1, rfl, by simp, by omega, by omega, HC2, HF1⟩
          · have HM := Lib.hid (HX.out.2 hxx)
            have hs1 : (x == x0) = false := by simpa using hxx
            clear HX HC hxx
            refine wpAnyS_take (i := 12) (d := some 19) (v := .bool false) rfl rfl rfl (by kernel_rfl) (by kernel_rfl) (by kernel_rfl) (by kernel_rfl) (fun _ _ _ h => h) (.inl ⟨by rfl, fun W hW => by obtain ⟨q0, q1, q2⟩ := hW; go_simp; try rfl⟩) hS0 ?_
            try simp only [Act.put, List.setIfInBounds_toArray, List.set_cons_zero, List.set_cons_succ]
            refine wpAnyS_take (i := 13) (d := some 20) (v := .bool false) rfl rfl rfl (by kernel_rfl) (by kernel_rfl) (by kernel_rfl) (by kernel_rfl) (fun _ _ _ h => h) (.inl ⟨by rfl, fun W hW => by obtain ⟨q0, q1, q2⟩ := hW; go_simp; try rfl⟩) hS0 ?_
            try simp only [Act.put, List.setIfInBounds_toArray, List.set_cons_zero, List.set_cons_succ]
            refine wpAnyS_done (by kernel_rfl) ?_ _
            clear hS0
            have HRL := runsL_step HX0.out
            rw [← HM.out] at HRL
            have HP2 : Hid (runsL l = (pre ++ [(k, x0)]) ++ runsL (r.drop k)) := Lib.hid (by rw [HP.out, HRL]; simp)
            have hpx : pre ++ [(k, x0)] <+: runsL l := ⟨_, HP2.out.symm⟩
            obtain ⟨fn, tmps, assign, body, hy, hR⟩ := HY.out pre (k, x0) W1 HF1.out.2.2 hpx
            dsimp only at hy
            have b1 := cell_of_one HF1.out.1
            have c1 : W1.cell? ⟨bb, oo, none⟩ = some (.int .i64 x0) := by
              obtain ⟨_, _, e, c⟩ := HF1.out.2.1.at1 HX0.out rfl
              cases e
              exact c
            obtain ⟨a2, c2, hsl, hS2, hA2⟩ := slice_from (P := Tryz.prog) (ea := intc) Tryz.underlying100 size_int (some ⟨bb, oo, none⟩) r.length rc k hcap hkr
            have HSL := Lib.hid hsl
            have HS2 := Lib.hid hS2
            have HA2 := Lib.hid hA2
            have HCP : Hid (r.length - k ≤ c2 ∧ c2 ≤ 2 ^ 63 - 1) := Lib.hid (by
              obtain ⟨a3, c3, e3, h3, h4, -⟩ := hS2 W1 r rfl HF1.out.2.1
              have e6 : c2 = c3 := by injection e3
              rw [e6]
              rw [List.length_drop] at h3
              unfold maxLen at h4
              exact ⟨h3, h4⟩)
            clear hsl hS2 hA2 HRL hpx
            go_upto_region 4 with fail
            refine (wpIn_wide (n := n)).1 ?_
            gi_wp2
            refine hR.mono ?_
            rintro e W3 ⟨rfl, hI3, hx3⟩
            have hBs : ¬ (Bs = lb ∨ R Bs) := fun h => by
              rcases h with h | h
              · omega
              · exact hRB h
            have hbb : ¬ (bb = lb ∨ R bb) := fun h => by
              have h5 := HVB.out
              rcases h with h | h
              · omega
              · exact h5.1 h
            have hB3 : W3.heap[Bs]? = some (.cells #[.slice (some ⟨bb, oo, none⟩) r.length rc] 100 (0, 0)) := (hx3.block _ (Array.getElem?_eq_some_iff.1 HF1.out.1).1 hBs).trans HF1.out.1
            have hS3 : SliceIs intc 1 W3 (.slice (some ⟨bb, oo, none⟩) r.length rc) r := HF1.out.2.1.of1 (fun o u h => hx3.keep h hbb)
            have HF4 : Hid ((W3.setCell ⟨Bs, 0, none⟩ (.slice a2 (r.length - k) c2)).heap[Bs]? = some (.cells #[.slice a2 (r.drop k).length c2] 100 (0, 0)) ∧ SliceIs intc 1 (W3.setCell ⟨Bs, 0, none⟩ (.slice a2 (r.length - k) c2)) (.slice a2 (r.drop k).length c2) (r.drop k) ∧ I (pre ++ [(k, x0)]) (W3.setCell ⟨Bs, 0, none⟩ (.slice a2 (r.length - k) c2))) := Lib.hid (by
              have hBsz := (Array.getElem?_eq_some_iff.1 hB3).1
              have hXS := (Ext.refl (· = Bs) W3).setCell (p := ⟨Bs, 0, none⟩) (.inr rfl) (.slice a2 (r.length - k) c2)
              have hS4 := hS3.of1 (fun o u h => hXS.keep h (fun e => HVB.out.2.2 e))
              rw [List.length_drop]
              refine ⟨?_, HS2.out _ r rfl hS4, HI.out _ _ _ hI3 hXS⟩
              rw [one_setCell hB3])
            have b3 := cell_of_one hB3
            have f3 := free_of_one hB3
            have HV4 : Hid (r.drop k ≠ [] → ∀ ad, a2 = some ad → ¬ R ad.block ∧ ad.block < w.heap.size ∧ ad.block ≠ Bs) := Lib.hid (fun _ ad e => by
              obtain ⟨ad0, e0, e1⟩ := HA2.out ad e
              cases e0
              rw [e1]
              exact HVB.out)
            have hsl3 := HSL.out
            clear hB3 hS3 hI3 hx3 hBs hbb HF1 b1 c1 hy hR HS2 HA2 HSL
            gi_wp2
            go_wp2_with fail
            generalize W3.setCell ⟨Bs, 0, none⟩ (.slice a2 (r.length - k) c2) = W4 at HF4 ⊢
            go_roundg (r.drop k).length
            case measure => rw [HG.out, List.length_drop]; omega
            case rel => exact ⟨r.drop k, pre ++ [(k, x0)], a2, c2, rfl, by rw [List.length_drop]; omega, by rw [List.length_drop]; exact HCP.out.1, HCP.out.2, HP2, HV4, HF4⟩
        · have hkk : k = r.length := by omega
          have hki : ¬ (k : Int) < (r.length : Int) := by omega
          have HM : Hid (k = leadN x0 r) := Lib.hid (by have h1 := lead_end (x := x0) (l := r) (i := 0) (Nat.zero_le _) (by simpa [hkk] using HC.out); rw [hkk]; simpa using h1)
          clear HC hkk hk
          go_upto_region 2 with fail
          have hS0 : (fun W : World => W.cell? ⟨Bs, 0, none⟩ = some (.slice (some ⟨bb, oo, none⟩) r.length rc) ∧ True ∧ True) wr.drew := ⟨b0, trivial, trivial⟩
          clear b0 c1 hB HF
          refine wp_region_s (fun W : World => W.cell? ⟨Bs, 0, none⟩ = some (.slice (some ⟨bb, oo, none⟩) r.length rc) ∧ True ∧ True) (fun _ => false) (by kernel_rfl) ?_
          generalize wr.drew = W1 at hS0 HF1 ⊢
          refine wpAnyS_take (i := 0) (d := some 7) rfl rfl rfl (by kernel_rfl) (by kernel_rfl) (by kernel_rfl) (by kernel_rfl) (fun _ _ _ h => h) (.inl ⟨by rfl, fun W hW => by obtain ⟨q0, q1, q2⟩ := hW; go_simp; try rfl⟩) hS0 ?_
          try simp only [Act.put, List.setIfInBounds_toArray, List.set_cons_zero, List.set_cons_succ]
          refine wpAnyS_take (i := 1) (d := some 8) (v := .slice (some ⟨bb, oo, none⟩) r.length rc) rfl rfl rfl (by kernel_rfl) (by kernel_rfl) (by kernel_rfl) (by kernel_rfl) (fun _ _ _ h => h) (.inl ⟨by rfl, fun W hW => by obtain ⟨q0, q1, q2⟩ := hW; go_simp; try rfl⟩) hS0 ?_
          try simp only [Act.put, List.setIfInBounds_toArray, List.set_cons_zero, List.set_cons_succ]
          refine wpAnyS_take (i := 2) (d := some 9) (v := .int .i64 r.length) rfl rfl rfl (by kernel_rfl) (by kernel_rfl) (by kernel_rfl) (by kernel_rfl) (fun _ _ _ h => h) (.inl ⟨by rfl, fun W hW => by obtain ⟨q0, q1, q2⟩ := hW; go_simp; try rfl⟩) hS0 ?_
          try simp only [Act.put, List.setIfInBounds_toArray, List.set_cons_zero, List.set_cons_succ]
          refine wpAnyS_take (i := 3) (d := some 10) (v := .bool false) rfl rfl rfl (by kernel_rfl) (by kernel_rfl) (by kernel_rfl) (by kernel_rfl) (fun _ _ _ h => h) (.inl ⟨by rfl, fun W hW => by obtain ⟨q0, q1, q2⟩ := hW; go_simp; try rfl⟩) hS0 ?_
          try simp only [Act.put, List.setIfInBounds_toArray, List.set_cons_zero, List.set_cons_succ]
          refine wpAnyS_take (i := 4) (d := some 11) (v := .bool false) rfl rfl rfl (by kernel_rfl) (by kernel_rfl) (by kernel_rfl) (by kernel_rfl) (fun _ _ _ h => h) (.inl ⟨by rfl, fun W hW => by obtain ⟨q0, q1, q2⟩ := hW; go_simp; try rfl⟩) hS0 ?_
          try simp only [Act.put, List.setIfInBounds_toArray, List.set_cons_zero, List.set_cons_succ]
          refine wpAnyS_take (i := 5) (d := some 12) (v := undef) rfl rfl rfl (by kernel_rfl) (by kernel_rfl) (by kernel_rfl) (by kernel_rfl) (fun _ _ _ h => h) (.inr ⟨by rfl, rfl⟩) hS0 ?_
          try simp only [Act.put, List.setIfInBounds_toArray, List.set_cons_zero, List.set_cons_succ]
          refine wpAnyS_take (i := 6) (d := some 13) (v := undef) rfl rfl rfl (by kernel_rfl) (by kernel_rfl) (by kernel_rfl) (by kernel_rfl) (fun _ _ _ h => h) (.inr ⟨by rfl, rfl⟩) hS0 ?_
          try simp only [Act.put, List.setIfInBounds_toArray, List.set_cons_zero, List.set_cons_succ]
          refine wpAnyS_take (i := 7) (d := some 14) (v := undef) rfl rfl rfl (by kernel_rfl) (by kernel_rfl) (by kernel_rfl) (by kernel_rfl) (fun _ _ _ h => h) (.inr ⟨by rfl, rfl⟩) hS0 ?_
          try simp only [Act.put, List.setIfInBounds_toArray, List.set_cons_zero, List.set_cons_succ]
          refine wpAnyS_take (i := 8) (d := some 15) (v := undef) rfl rfl rfl (by kernel_rfl) (by kernel_rfl) (by kernel_rfl) (by kernel_rfl) (fun _ _ _ h => h) (.inr ⟨by rfl, rfl⟩) hS0 ?_
          try simp only [Act.put, List.setIfInBounds_toArray, List.set_cons_zero, List.set_cons_succ]
          refine wpAnyS_take (i := 9) (d := some 16) (v := undef) rfl rfl rfl (by kernel_rfl) (by kernel_rfl) (by kernel_rfl) (by kernel_rfl) (fun _ _ _ h => h) (.inr ⟨by rfl, rfl⟩) hS0 ?_
          try simp only [Act.put, List.setIfInBounds_toArray, List.set_cons_zero, List.set_cons_succ]
          refine wpAnyS_take (i := 10) (d := some 17) (v := undef) rfl rfl rfl (by kernel_rfl) (by kernel_rfl) (by kernel_rfl) (by kernel_rfl) (fun _ _ _ h => h) (.inr ⟨by rfl, rfl⟩) hS0 ?_
          try simp only [Act.put, List.setIfInBounds_toArray, List.set_cons_zero, List.set_cons_succ]
          refine wpAnyS_take (i := 11) (d := some 18) (v := undef) rfl rfl rfl (by kernel_rfl) (by kernel_rfl) (by kernel_rfl) (by kernel_rfl) (fun _ _ _ h => h) (.inr ⟨by rfl, rfl⟩) hS0 ?_
          try simp only [Act.put, List.setIfInBounds_toArray, List.set_cons_zero, List.set_cons_succ]
          refine wpAnyS_take (i := 12) (d := some 19) (v := undef) rfl rfl rfl (by kernel_rfl) (by kernel_rfl) (by kernel_rfl) (by kernel_rfl) (fun _ _ _ h => h) (.inr ⟨by rfl, rfl⟩) hS0 ?_
          try simp only [Act.put, List.setIfInBounds_toArray, List.set_cons_zero, List.set_cons_succ]
          refine wpAnyS_take (i := 13) (d := some 20) (v := .bool false) rfl rfl rfl (by kernel_rfl) (by kernel_rfl) (by kernel_rfl) (by kernel_rfl) (fun _ _ _ h => h) (.inl ⟨by rfl, fun W hW => by obtain ⟨q0, q1, q2⟩ := hW; go_simp; try rfl⟩) hS0 ?_
          try simp only [Act.put, List.setIfInBounds_toArray, List.set_cons_zero, List.set_cons_succ]
          refine wpAnyS_done (by kernel_rfl) ?_ _
          clear hS0
          have HRL := runsL_step HX0.out
          rw [← HM.out] at HRL
          have HP2 : Hid (runsL l = (pre ++ [(k, x0)]) ++ runsL (r.drop k)) := Lib.hid (by rw [HP.out, HRL]; simp)
          have hpx : pre ++ [(k, x0)] <+: runsL l := ⟨_, HP2.out.symm⟩
          obtain ⟨fn, tmps, assign, body, hy, hR⟩ := HY.out pre (k, x0) W1 HF1.out.2.2 hpx
          dsimp only at hy
          have b1 := cell_of_one HF1.out.1
          have c1 : W1.cell? ⟨bb, oo, none⟩ = some (.int .i64 x0) := by
            obtain ⟨_, _, e, c⟩ := HF1.out.2.1.at1 HX0.out rfl
            cases e
            exact c
          obtain ⟨a2, c2, hsl, hS2, hA2⟩ := slice_from (P := Tryz.prog) (ea := intc) Tryz.underlying100 size_int (some ⟨bb, oo, none⟩) r.length rc k hcap hkr
          have HSL := Lib.hid hsl
          have HS2 := Lib.hid hS2
          have HA2 := Lib.hid hA2
          have HCP : Hid (r.length - k ≤ c2 ∧ c2 ≤ 2 ^ 63 - 1) := Lib.hid (by
            obtain ⟨a3, c3, e3, h3, h4, -⟩ := hS2 W1 r rfl HF1.out.2.1
            have e6 : c2 = c3 := by injection e3
            rw [e6]
            rw [List.length_drop] at h3
            unfold maxLen at h4
            exact ⟨h3, h4⟩)
          clear hsl hS2 hA2 HRL hpx
          go_upto_region 4 with fail
          refine (wpIn_wide (n := n)).1 ?_
          gi_wp2
          refine hR.mono ?_
          rintro e W3 ⟨rfl, hI3, hx3⟩
          have hBs : ¬ (Bs = lb ∨ R Bs) := fun h => by
            rcases h with h | h
            · omega
            · exact hRB h
          have hbb : ¬ (bb = lb ∨ R bb) := fun h => by
            have h5 := HVB.out
            rcases h with h | h
            · omega
            · exact h5.1 h
          have hB3 : W3.heap[Bs]? = some (.cells #[.slice (some ⟨bb, oo, none⟩) r.length rc] 100 (0, 0)) := (hx3.block _ (Array.getElem?_eq_some_iff.1 HF1.out.1).1 hBs).trans HF1.out.1
          have hS3 : SliceIs intc 1 W3 (.slice (some ⟨bb, oo, none⟩) r.length rc) r := HF1.out.2.1.of1 (fun o u h => hx3.keep h hbb)
          have HF4 : Hid ((W3.setCell ⟨Bs, 0, none⟩ (.slice a2 (r.length - k) c2)).heap[Bs]? = some (.cells #[.slice a2 (r.drop k).length c2] 100 (0, 0)) ∧ SliceIs intc 1 (W3.setCell ⟨Bs, 0, none⟩ (.slice a2 (r.length - k) c2)) (.slice a2 (r.drop k).length c2) (r.drop k) ∧ I (pre ++ [(k, x0)]) (W3.setCell ⟨Bs, 0, none⟩ (.slice a2 (r.length - k) c2))) := Lib.hid (by
            have hBsz := (Array.getElem?_eq_some_iff.1 hB3).1
            have hXS := (Ext.refl (· = Bs) W3).setCell (p := ⟨Bs, 0, none⟩) (.inr rfl) (.slice a2 (r.length - k) c2)
            have hS4 := hS3.of1 (fun o u h => hXS.keep h (fun e => HVB.out.2.2 e))
            rw [List.length_drop]
            refine ⟨?_, HS2.out _ r rfl hS4, HI.out _ _ _ hI3 hXS⟩
            rw [one_setCell hB3])
          have b3 := cell_of_one hB3
          have f3 := free_of_one hB3
          have HV4 : Hid (r.drop k ≠ [] → ∀ ad, a2 = some ad → ¬ R ad.block ∧ ad.block < w.heap.size ∧ ad.block ≠ Bs) := Lib.hid (fun _ ad e => by
            obtain ⟨ad0, e0, e1⟩ := HA2.out ad e
            cases e0
            rw [e1]
            exact HVB.out)
          have hsl3 := HSL.out
          clear hB3 hS3 hI3 hx3 hBs hbb HF1 b1 c1 hy hR HS2 HA2 HSL
          gi_wp2
          go_wp2_with fail
          generalize W3.setCell ⟨Bs, 0, none⟩ (.slice a2 (r.length - k) c2) = W4 at HF4 ⊢
          go_roundg (r.drop k).length
          case measure => rw [HG.out, List.length_drop]; omega
          case rel => exact ⟨r.drop k, pre ++ [(k, x0)], a2, c2, rfl, by rw [List.length_drop]; omega, by rw [List.length_drop]; exact HCP.out.1, HCP.out.2, HP2, HV4, HF4⟩
end Go.Proofs.YtgmdimbiipemhaaGreatDoor
namespace Go.Proofs.YtgmdimbiipemhaaGreatDoor
open Go.RowKit
set_option linter.unusedSimpArgs false
set_option linter.unusedVariables false
attribute [local go_sem] Oper.semAt_some
set_option maxRecDepth 100000 in
set_option maxHeartbeats 4000000 in
theorem cruns_any (v : Value) (l : List Int) (w : World) (h : SliceIs intc 1 w v l) (hn : l.length ≤ 1000000000000) (hin : ∀ x ∈ l, -9223372036854775808 ≤ x ∧ x ≤ 9223372036854775807) : Calls Tryz.prog 95 #[v] w fun e w' => BytesPost w (runsB l) e w' := by
  obtain ⟨va, vc, rfl, hcap, hmax, hcs⟩ := id h
  unfold maxLen at hmax
  have HL := Lib.hid (runsB_len _ l rfl (by omega) (fun x hx => zigN_lt (hin x hx).1 (hin x hx).2))
  have HIN := Lib.hid hin
  refine (callsIn_wide (n := 5)).1 ?_
  refine callsIn_of_wp_marks Tryz.func95 rfl trivial ?_ rfl
  simp only [Tryz.ntmps95, List.size_toArray, List.length_cons, List.length_nil, Nat.reduceAdd, Nat.reduceSub, Array.replicate_succ, Array.replicate_zero, List.push_toArray, List.append_toArray, List.nil_append, List.cons_append]
  gi_wp2
  refine ⟨trivial, ?_⟩
  refine (callsIn_wide.2 (runs_int_any va l.length vc _)).mono ?_
  rintro e w' ⟨rfl, rfl⟩
  gi_wp2
  have hB0 : Below w.heap.size w ((w.alloc (.cells #[.slice none 0 0] 22)).alloc (.cells #[.slice va l.length vc] 100)) := ((Below.refl _ _).alloc (Nat.le_refl _) _).alloc (by simp) _
  have z0 : ((w.alloc (.cells #[.slice none 0 0] 22)).alloc (.cells #[.slice va l.length vc] 100)).heap.size = w.heap.size + 2 := by simp
  have o0 : ((w.alloc (.cells #[.slice none 0 0] 22)).alloc (.cells #[.slice va l.length vc] 100)).heap[w.heap.size]? = some (.cells #[.slice none 0 0] 22 (0, 0)) := by
    rw [Below.heap_alloc _ _ _ (by simp)]
    exact World.alloc_heap_new w _
  have s0 : ((w.alloc (.cells #[.slice none 0 0] 22)).alloc (.cells #[.slice va l.length vc] 100)).heap[w.heap.size + 1]? = some (.cells #[.slice va l.length vc] 100 (0, 0)) := by
    have := World.alloc_heap_new (w.alloc (.cells #[.slice none 0 0] 22)) (.cells #[.slice va l.length vc] 100)
    rwa [World.size_alloc] at this
  generalize ((w.alloc (.cells #[.slice none 0 0] 22)).alloc (.cells #[.slice va l.length vc] 100)) = W0 at *
  have hl0 := h.below hB0
  refine range_preS (U := Nat × Int) (by omega) (gf := 178) (lb := #[.pointer (some ⟨w.heap.size + 1, 0, none⟩)]) rfl (enters_of Tryz.func178 (by kernel_rfl) rfl)
    (fun x : Nat × Int => #[.int .i64 x.1, .int .i64 x.2]) (fun _ => rfl) (fun k => k = w.heap.size ∨ W0.heap.size + 1 < k) (· = w.heap.size + 1) (fun k e => by omega) (fun k e => by omega) (runsL l)
    (fun pre A => ∃ v, A.heap[w.heap.size]? = some (.cells #[v] 22 (0, 0)) ∧ Own u8c 1 5 (w.heap.size + 4) A v (putR pre) ∧ Ext (fun k => k = w.heap.size ∨ k = w.heap.size + 1) W0 A)
    (fun pre A A' hh hx => ?_)
    (runs_int_gives 4 (by omega) (w.heap.size + 1) _ l (fun k => k = w.heap.size ∨ W0.heap.size + 1 < k) W0 hl0 s0 (by omega) (fun hne b o m c e => ?_)) ⟨_, o0, Own.nil, Ext.refl _ _⟩ ?_ ?_
  · obtain ⟨v, h1, h2, h3⟩ := hh
    have hlt := (Array.getElem?_eq_some_iff.1 h1).1
    exact ⟨v, (hx.block _ hlt (by omega)).trans h1, h2.ext hx (fun b hb e => by have := (h2.blk b hb).1; omega), h3.andThen hx (fun i hi e => by omega)⟩
  · cases e
    obtain ⟨b', o', e2, h5⟩ := hcs hne
    cases e2
    obtain ⟨x, hx⟩ : ∃ x, l[0]? = some x := by
      cases l with
      | nil => exact absurd rfl hne
      | cons x r => exact ⟨x, rfl⟩
    have := cell_lt (h5 0 x hx 0 _ rfl)
    refine ⟨?_, ?_, ?_⟩ <;> omega
  · rintro lb pre x A ⟨v, ho, hown, hx⟩ hpx hlt
    have HLE := Lib.hid (putR_le hpx)
    obtain ⟨hx1, hx2, hx3⟩ := runsL_pos _ l rfl x (hpx.mem (List.mem_append_right pre (List.mem_singleton.2 rfl)))
    have hxin := HIN.out x.2 hx3
    obtain ⟨k, y⟩ := x
    dsimp only at hx1 hx2 hx3 hxin ⊢
    gi_wp2
    refine ⟨Ext.refl _ _, ⟨v, ho, hown, hx⟩, fun W2 ⟨v2, ho2, hown2, hxW2⟩ hxx => ?_⟩
    obtain ⟨⟨va2, vn2, vc2⟩, e2⟩ := hown2.sl
    dsimp only at e2
    subst e2
    have hk64 : k < 18446744073709551616 := by omega
    have hsz2 := hxW2.size
    have hsz3 := hxx.size
    have hz64 := zigN_lt hxin.1 hxin.2
    have b0 := cell_of_one ho2
    have HF : Hid (W2.drew.heap[w.heap.size]? = some (.cells #[.slice va2 vn2 vc2] 22 (0, 0)) ∧ Own u8c 1 5 (w.heap.size + 4) W2.drew (.slice va2 vn2 vc2) (putR pre) ∧ Ext (fun k => k = w.heap.size ∨ k = w.heap.size + 1) W0 W2.drew ∧ Ext (fun _ => False) W2 W2.drew) := Lib.hid ⟨ho2, hown2, hxW2.drew, (Ext.refl _ _).drew⟩
    have hS0 : (fun W : World => W.cell? ⟨w.heap.size, 0, none⟩ = some (.slice va2 vn2 vc2)) W2.drew := b0
    clear b0 ho2 hown2 hxW2 ho hown hx hxx
    refine wpIn_block ?_
    refine wpIn_region_s (fun W : World => W.cell? ⟨w.heap.size, 0, none⟩ = some (.slice va2 vn2 vc2)) (fun i => i == 9) (by kernel_rfl) (by kernel_rfl) ?_ ?_
    · rintro ⟨_, _, h⟩; exact h
    have hszd : W2.drew.heap.size = W2.heap.size := rfl
    generalize W2.drew = W3 at hS0 HF hszd ⊢
    have hkw : IntKind.u64.wrap (k : Int) = (k : Int) := by rw [u64_wrap]; omega
    refine wpAnyS_take (i := 0) (d := some 10) (v := (.slice va2 vn2 vc2)) rfl rfl rfl (by kernel_rfl) (by kernel_rfl) (by kernel_rfl) (by kernel_rfl) (fun _ _ _ h => h) (.inl ⟨by rfl, fun W hW => by go_simp; try rfl⟩) hS0 ?_
    try simp only [Act.put, List.setIfInBounds_toArray, List.set_cons_zero, List.set_cons_succ]
    refine wpAnyS_take (i := 1) (d := some 11) (v := .int .i64 k) rfl rfl rfl (by kernel_rfl) (by kernel_rfl) (by kernel_rfl) (by kernel_rfl) (fun _ _ _ h => h) (.inl ⟨by rfl, fun W hW => by go_simp; try rfl⟩) hS0 ?_
    try simp only [Act.put, List.setIfInBounds_toArray, List.set_cons_zero, List.set_cons_succ]
    refine wpAnyS_take (i := 2) (d := some 12) (v := .int .u64 k) rfl rfl rfl (by kernel_rfl) (by kernel_rfl) (by kernel_rfl) (by kernel_rfl) (fun _ _ _ h => h) (.inl ⟨by rfl, fun W hW => by go_simp; try rfl⟩) hS0 ?_
    try simp only [Act.put, List.setIfInBounds_toArray, List.set_cons_zero, List.set_cons_succ]
    refine wpAnyS_take (i := 5) (d := some 15) (v := .int .i64 y) rfl rfl rfl (by kernel_rfl) (by kernel_rfl) (by kernel_rfl) (by kernel_rfl) (fun _ _ _ h => h) (.inl ⟨by rfl, fun W hW => by go_simp; try rfl⟩) hS0 ?_
    try simp only [Act.put, List.setIfInBounds_toArray, List.set_cons_zero, List.set_cons_succ]
    refine wpAnyS_call (i := 3) (d := some 13) (f := 64) (args := #[.int .u64 k]) (w' := W3) (by kernel_rfl) rfl rfl (by rfl) (by go_simp; try rfl) ?_
    refine (put_any k _ hk64).mono ?_
    rintro e w5 ⟨v5, rfl, hown5, b5⟩
    have hS5 : w5.cell? ⟨w.heap.size, 0, none⟩ = some (.slice va2 vn2 vc2) := keepB b5 hS0
    refine ⟨_, rfl, fun _ => hS5, ?_⟩
    try simp only [Act.put, List.setIfInBounds_toArray, List.set_cons_zero, List.set_cons_succ]
    have hlen : (putR pre).length + (putB k).length ≤ 140737488355328 ∧ (putR pre ++ putB k).length + (putB (zigN y)).length ≤ 140737488355328 := by
      have h1 := HLE.out
      rw [putR_snoc, ← runsB_runsL _ l rfl] at h1
      have h2 := HL.out
      simp only [List.length_append] at h1 ⊢
      omega
    have hb35 : Below (w.heap.size + 4) W3 w5 := b5.mono (by omega)
    obtain ⟨⟨ta, tn, tc⟩, w6, hr6, own6, b6, hsz6⟩ := bytes_append (HF.out.2.1.below1 b5) hb35 (hown5.slice u8c_len) (by have := b5.size; omega) hlen.1
    have hS6 : w6.cell? ⟨w.heap.size, 0, none⟩ = some (.slice va2 vn2 vc2) := below_keep1 b6 hS0 (by omega)
    refine wpAnyS_ran (i := 4) (d := some 14) (v := .slice ta tn tc) (w' := w6) (by kernel_rfl) rfl rfl (by rfl) (exec_append rfl rfl rfl hr6) (fun _ => hS6) ?_
    try simp only [Act.put, List.setIfInBounds_toArray, List.set_cons_zero, List.set_cons_succ]
    refine wpAnyS_call (i := 6) (d := some 16) (f := 148) (args := #[.int .i64 y]) (w' := w6) (by kernel_rfl) rfl rfl (by rfl) (by go_simp; try rfl) ?_
    refine (zig_any y _ hxin.1 hxin.2).mono ?_
    rintro e w7 ⟨rfl, e7⟩
    rw [← e7]
    clear e7 w7
    refine ⟨_, rfl, fun _ => hS6, ?_⟩
    try simp only [Act.put, List.setIfInBounds_toArray, List.set_cons_zero, List.set_cons_succ]
    refine wpAnyS_call (i := 7) (d := some 17) (f := 64) (args := #[.int .u64 (zigN y)]) (w' := w6) (by kernel_rfl) rfl rfl (by rfl) (by go_simp; try rfl) ?_
    refine (put_any _ _ hz64).mono ?_
    rintro e w8 ⟨v8, rfl, hown8, b8⟩
    have hS8 : w8.cell? ⟨w.heap.size, 0, none⟩ = some (.slice va2 vn2 vc2) := keepB b8 hS6
    refine ⟨_, rfl, fun _ => hS8, ?_⟩
    try simp only [Act.put, List.setIfInBounds_toArray, List.set_cons_zero, List.set_cons_succ]
    have hb38 : Below (w.heap.size + 4) W3 w8 := b6.trans (b8.mono hsz6)
    obtain ⟨⟨ua, un, uc⟩, w9, hr9, own9, b9, hsz9⟩ := bytes_append (own6.below1 b8) hb38 (hown8.slice u8c_len) (Nat.le_trans hsz6 b8.size) hlen.2
    have hS9 : w9.cell? ⟨w.heap.size, 0, none⟩ = some (.slice va2 vn2 vc2) := below_keep1 b9 hS0 (by omega)
    refine wpAnyS_ran (i := 8) (d := some 18) (v := .slice ua un uc) (w' := w9) (by kernel_rfl) rfl rfl (by rfl) (exec_append rfl rfl rfl hr9) (fun _ => hS9) ?_
    try simp only [Act.put, List.setIfInBounds_toArray, List.set_cons_zero, List.set_cons_succ]
    have ho9 : w9.heap[w.heap.size]? = some (.cells #[.slice va2 vn2 vc2] 22 (0, 0)) := (b9.block _ (by omega)).trans HF.out.1
    have f9 := free_of_one ho9
    refine wpAnyS_mute (i := 9) (d := none) (w' := w9.setCell ⟨w.heap.size, 0, none⟩ (.slice ua un uc)) (by kernel_rfl) rfl rfl (by rfl) (by go_simp; try rfl) (fun h => by cases h) ?_
    try simp only [Act.put, List.setIfInBounds_toArray, List.set_cons_zero, List.set_cons_succ]
    refine wpAnyS_done (by kernel_rfl) ?_ _
    have hx10 : Ext (· = w.heap.size) w9 (w9.setCell ⟨w.heap.size, 0, none⟩ (.slice ua un uc)) := (Ext.refl (· = w.heap.size) w9).setCell (p := ⟨w.heap.size, 0, none⟩) (.inr rfl) (.slice ua un uc)
    have hE9 : Ext (fun k => w.heap.size + 4 ≤ k) W3 w9 := ext_of_below9 b9
    refine ⟨⟨_, one_setCell ho9, ?_, ?_⟩, ?_⟩
    · rw [putR_snoc]
      exact own9.ext hx10 (fun b hb e => by have := (own9.blk b hb).1; omega)
    · exact (HF.out.2.2.1.andThen hE9 (fun i hi e => by omega)).andThen hx10 (fun i hi e => .inl e)
    · exact ((HF.out.2.2.2.mono (fun _ _ f => f.elim)).andThen (S := fun k => k = w.heap.size ∨ W0.heap.size + 1 < k) hE9 (fun i hi e => .inr (by omega))).andThen hx10 (fun i hi e => .inl e)
  · rintro A ⟨v, ho, hown, hx⟩ hK
    have hc : A.cell? ⟨w.heap.size, 0, none⟩ = some v := by simp [World.cell?, ho]
    have HX := Lib.hid hx
    have HW := Lib.hid (hx.size)
    have HK := Lib.hid hK
    have HOWN := Lib.hid hown
    have HB0 := Lib.hid hB0
    have HE := Lib.hid (runsB_runsL _ l rfl)
    clear ho hx hK hown hB0 hl0 o0 s0 h
    gi_wp2
    have hx7 : Ext (· = W0.heap.size) A (A.putObj W0.heap.size (.deferred none)) := ext_putObjP _ _ _
    have hsz := HW.out
    refine ⟨by simp, .inl ⟨_, _, rfl, run_takeDeferred HK.out, ?_⟩⟩
    refine ⟨_, results_tmp rfl _ _ _, v, rfl, ?_, ?_⟩
    · rw [HE.out]
      exact (HOWN.out.ext hx7 (fun b hb e => by have := (HOWN.out.blk b hb).1; omega)).mono (by omega)
    · exact Ext.new (Ext.new HB0.out HX.out (fun i hi _ e => by omega) (by omega)) hx7 (fun i hi _ e => by omega) (by omega)
end Go.Proofs.YtgmdimbiipemhaaGreatDoor
