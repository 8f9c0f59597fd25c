/- batch.taker.truths: a contract. batch.taker.texts: a contract. batch.Encode's rows of numbers: what its inner function keeps. A range over a function whose rounds may write blocks of the caller's own: what has come so far, and the world. A range over a function whose iterator writes blocks of its own; a drawn region in a round, walked as outside. Runs of a list, plain. column.runs at int: the iterator. column.Runs: a contract. -/
import Derived.Test.YtgmdimbiipemhaaGreatDoorHeUA
import Derived.Test.YtgmdimbiipemhaaGreatDoorTT08
import Derived.Test.YtgmdimbiipemhaaGreatDoorInts08
import Derived.Test.YtgmdimbiipemhaaGreatDoorTkP08
import Derived.RangeFuncNested
import Derived.RangeFuncBound
import Derived.RangeFuncCalls
import Derived.RangeFuncLeaves
import Derived.Test.YtgmdimbiipemhaaGreatDoorMaps
import Derived.Test.YtgmdimbiipemhaaGreatDoorHeldT
import Derived.OrdersIn
import Derived.Test.YtgmdimbiipemhaaGreatDoorColP08
import Derived.Shelf.Abstract
import Derived.Shelf.RegionOpen
import Derived.WalkKit
import Derived.OwnWalkIn
import Derived.TacticsInMore
import Derived.LoopNIn
import Derived.LoopIn
import Derived.OneCell
import Derived.Deep.LoopGhost
import Derived.Deep.QuietTactic
import Derived.Deep.CutBlock
import Derived.Deep.DeepCutAuto
import Derived.Test.YtgmdimbiipemhaaGreatDoorBits08
import Derived.Test.YtgmdimbiipemhaaGreatDoorVar08
import Derived.Laws.EntriesVeiled
import Derived.Outline
namespace Go.Proofs.YtgmdimbiipemhaaGreatDoor
open Go.RowKit Go.Deep
set_option linter.unusedSimpArgs false
set_option linter.unusedVariables false
def TakPost (w0 : World) (T : Nat) (tl : Value) (res : Option (List OpD × List UInt8)) (e : Ending) (w' : World) : Prop :=
  (∃ l2 r2 tb', res = some (l2, r2) ∧ e = .returned .nilIface ∧ TKS w0 T w' tb' r2 tl l2) ∨ (res = none ∧ (∃ s m, e = .returned (atErr s m)) ∧ Kp w0 T w')
theorem run_indexT (b off : Nat) : ∀ {c : Nat}, c < 2 → ∀ w : World, (Instr.index 168 (.agg #[.pointer (some ⟨b, off + 22, none⟩), .pointer (some ⟨b, off + 25, none⟩)]) (.int .i64 (c : Int))).run Tryz.prog w = .ok (.pointer (some ⟨b, off + offT c, none⟩)) w
  | 0, _, w => by kernel_rfl
  | 1, _, w => by kernel_rfl
  | n + 2, h, _ => absurd h (by omega)
theorem Own.notg {α β : Type} {ea : α → List Value} {q : Nat} {t : TypeId} {base base2 g : Nat} {W : World} {v v2 : Value} {m : List α} {eb : β → List Value} {q2 : Nat} {t2 : TypeId} {l : List β} (h : Own ea q t base W v m) (h2 : Own eb q2 t2 base2 W v2 l) (ht : t ≠ t2) (hg : v2.ownBlock = some g) (off : Nat) (u : Value) : Own ea q t base (W.setCell ⟨g, off, none⟩ u) v m :=
  h.ext ((Ext.refl (· = g) W).setCell (p := ⟨g, off, none⟩) (.inr rfl) _) (fun b hb e => by
    obtain ⟨c1, g1⟩ := h.tag hb
    obtain ⟨c2, g2⟩ := h2.tag hg
    rw [e, g2] at g1
    cases g1
    exact ht rfl)
theorem Own.notT {α : Type} {ea : α → List Value} {q : Nat} {t : TypeId} {base : Nat} {w0 : World} {T : Nat} {W : World} {tb tl : Value} {r : List UInt8} {ls : List OpD} {v : Value} {m : List α} (h : Own ea q t base W v m) (h2 : TKS w0 T W tb r tl ls) (ht : t ≠ 90) (off : Nat) (u : Value) : Own ea q t base (W.setCell ⟨T, off, none⟩ u) v m :=
  h.ext ((Ext.refl (· = T) W).setCell (p := ⟨T, off, none⟩) (.inr rfl) _) (fun b hb e => by
    obtain ⟨c1, g1⟩ := h.tag hb
    have g2 := h2.cell
    rw [e, g2] at g1
    cases g1
    exact ht rfl)
set_option maxRecDepth 20000 in
set_option maxHeartbeats 4000000 in
theorem taketruths_any (w0 : World) (T : Nat) (w : World) (tb tl : Value) (r : List UInt8) (ls : List OpD) (h : TKS w0 T w tb r tl ls) (hn : ls.length ≤ 200) : Calls Tryz.prog 105 #[.pointer (some ⟨T, 0, none⟩)] w fun e w' => TakPost w0 T tl (tkT ls.length 2 (ls, r)) e w' := by
  obtain ⟨⟨la, ln, lc⟩, el⟩ := h.own.sl
  dsimp only at el
  subst el
  obtain rfl : ln = ls.length := (h.own.nlen OpD.len).1
  have HT := Lib.hid h
  clear h
  go_enter Tryz.func105, Tryz.ntmps105
  go_wp2_with fail
  go_loopg [8] 2 (fun g kv wx => ∃ (k : Nat) (tb : Value) (ls2 : List OpD) (r2 : List UInt8), g = 2 - k ∧ kv = .int .i64 k ∧ k ≤ 2 ∧ Hid (tkT ls.length k (ls, r) = some (ls2, r2) ∧ TKS w0 T wx tb r2 (.slice la ls.length lc) ls2))
  case atStart => exact ⟨0, tb, ls, r, rfl, rfl, by omega, Lib.hid ⟨rfl, HT.out⟩⟩
  case round =>
    clear HT
    obtain ⟨k, tb1, ls2, r2, hg, rfl, hk, HR⟩ := hrel
    have HG := Lib.hid hg
    clear hg
    by_cases hlt : k < 2
    · have hk1 : (k : Int) < 2 := by omega
      obtain ⟨ta, tcap, rfl, htc, htm, -⟩ := id HR.out.2.byt
      unfold maxLen at htm
      have hc0 := HR.out.2.cell
      have HLN : Hid (ls2.length = ls.length) := Lib.hid (tkT_len HR.out.1)
      have hSW : (fun W : World => W.cell? ⟨T, 0, none⟩ = some (.slice ta r2.length tcap) ∧ W.cell? ⟨T, 1, none⟩ = some (.slice la ls.length lc)) wr.drew := ⟨by show World.cell? wr _ = _; simp [World.cell?, hc0], by show World.cell? wr _ = _; simp [World.cell?, hc0]⟩
      clear hc0
      go_upto_region 4 with fail
      refine wp_region_s (fun W : World => W.cell? ⟨T, 0, none⟩ = some (.slice ta r2.length tcap) ∧ W.cell? ⟨T, 1, none⟩ = some (.slice la ls.length lc)) (fun i => i == 16) (by kernel_rfl) ?_
      have HR1 : Hid (TKS w0 T wr.drew (.slice ta r2.length tcap) r2 (.slice la ls.length lc) ls2) := Lib.hid (HR.out.2.below (Below.refl _ _).drew)
      have HB1 : Hid (SliceIs u8c 1 wr.drew (.slice ta r2.length tcap) r2) := Lib.hid HR1.out.bytes
      generalize wr.drew = W1 at hSW HR1 HB1 ⊢
      refine wpAnyS_take (i := 0) (d := some 12) rfl rfl rfl (by kernel_rfl) (by kernel_rfl) (by kernel_rfl) (by kernel_rfl) (fun _ _ _ h => h) (.inl ⟨by rfl, fun W hW => by obtain ⟨q0, q1⟩ := hW; go_simp; try rfl⟩) hSW ?_
      try simp only [Act.put, List.setIfInBounds_toArray, List.set_cons_zero, List.set_cons_succ]
      refine wpAnyS_take (i := 1) (d := some 13) (v := .pointer (some ⟨T, 0, none⟩)) rfl rfl rfl (by kernel_rfl) (by kernel_rfl) (by kernel_rfl) (by kernel_rfl) (fun _ _ _ h => h) (.inl ⟨by rfl, fun W hW => by obtain ⟨q0, q1⟩ := hW; go_simp; try rfl⟩) hSW ?_
      try simp only [Act.put, List.setIfInBounds_toArray, List.set_cons_zero, List.set_cons_succ]
      refine wpAnyS_take (i := 2) (d := some 14) (v := .pointer (some ⟨T, 0, none⟩)) rfl rfl rfl (by kernel_rfl) (by kernel_rfl) (by kernel_rfl) (by kernel_rfl) (fun _ _ _ h => h) (.inl ⟨by rfl, fun W hW => by obtain ⟨q0, q1⟩ := hW; go_simp; try rfl⟩) hSW ?_
      try simp only [Act.put, List.setIfInBounds_toArray, List.set_cons_zero, List.set_cons_succ]
      refine wpAnyS_take (i := 3) (d := some 15) (v := .slice ta r2.length tcap) rfl rfl rfl (by kernel_rfl) (by kernel_rfl) (by kernel_rfl) (by kernel_rfl) (fun _ _ _ h => h) (.inl ⟨by rfl, fun W hW => by obtain ⟨q0, q1⟩ := hW; go_simp; try rfl⟩) hSW ?_
      try simp only [Act.put, List.setIfInBounds_toArray, List.set_cons_zero, List.set_cons_succ]
      refine wpAnyS_take (i := 4) (d := some 16) rfl rfl rfl (by kernel_rfl) (by kernel_rfl) (by kernel_rfl) (by kernel_rfl) (fun _ _ _ h => h) (.inl ⟨by rfl, fun W hW => by obtain ⟨q0, q1⟩ := hW; go_simp; try rfl⟩) hSW ?_
      try simp only [Act.put, List.setIfInBounds_toArray, List.set_cons_zero, List.set_cons_succ]
      refine wpAnyS_take (i := 5) (d := some 17) (v := .pointer (some ⟨T, 0, none⟩)) rfl rfl rfl (by kernel_rfl) (by kernel_rfl) (by kernel_rfl) (by kernel_rfl) (fun _ _ _ h => h) (.inl ⟨by rfl, fun W hW => by obtain ⟨q0, q1⟩ := hW; go_simp; try rfl⟩) hSW ?_
      try simp only [Act.put, List.setIfInBounds_toArray, List.set_cons_zero, List.set_cons_succ]
      refine wpAnyS_take (i := 6) (d := some 18) (v := .pointer (some ⟨T, 1, none⟩)) rfl rfl rfl (by kernel_rfl) (by kernel_rfl) (by kernel_rfl) (by kernel_rfl) (fun _ _ _ h => h) (.inl ⟨by rfl, fun W hW => by obtain ⟨q0, q1⟩ := hW; go_simp; try rfl⟩) hSW ?_
      try simp only [Act.put, List.setIfInBounds_toArray, List.set_cons_zero, List.set_cons_succ]
      refine wpAnyS_take (i := 7) (d := some 19) (v := .slice la ls.length lc) rfl rfl rfl (by kernel_rfl) (by kernel_rfl) (by kernel_rfl) (by kernel_rfl) (fun _ _ _ h => h) (.inl ⟨by rfl, fun W hW => by obtain ⟨q0, q1⟩ := hW; go_simp; try rfl⟩) hSW ?_
      try simp only [Act.put, List.setIfInBounds_toArray, List.set_cons_zero, List.set_cons_succ]
      refine wpAnyS_take (i := 8) (d := some 20) (v := .int .i64 ls.length) rfl rfl rfl (by kernel_rfl) (by kernel_rfl) (by kernel_rfl) (by kernel_rfl) (fun _ _ _ h => h) (.inl ⟨by rfl, fun W hW => by obtain ⟨q0, q1⟩ := hW; go_simp; try rfl⟩) hSW ?_
      try simp only [Act.put, List.setIfInBounds_toArray, List.set_cons_zero, List.set_cons_succ]
      refine wpAnyS_call (i := 9) (d := some 21) (f := 156) (args := #[.slice ta r2.length tcap, .int .i64 ls.length]) (w' := W1) (by kernel_rfl) rfl rfl (by rfl) (by go_simp; try rfl) ?_
      refine (takebools_any _ r2 ls.length _ HB1.out (by omega)).mono ?_
      rintro e w3 (⟨V, u, v, hdec, rfl, hown, hb⟩ | ⟨hdec, rfl, hb⟩)
      · have hS3 : (fun W : World => W.cell? ⟨T, 0, none⟩ = some (.slice ta r2.length tcap) ∧ W.cell? ⟨T, 1, none⟩ = some (.slice la ls.length lc)) w3 := ⟨(hb.cell (p := ⟨T, 0, none⟩) (cell_lt hSW.1)).trans hSW.1, (hb.cell (p := ⟨T, 1, none⟩) (cell_lt hSW.2)).trans hSW.2⟩
        have HR3 := Lib.hid (HR1.out.below hb)
        refine ⟨_, rfl, fun _ => hS3, ?_⟩
        try simp only [Act.put, List.setIfInBounds_toArray, List.set_cons_zero, List.set_cons_succ]
        refine wpAnyS_take (i := 10) (d := some 11) (v := .tuple #[v, .int .i64 (u : Nat), .int .i64 0]) rfl rfl rfl (by kernel_rfl) (by kernel_rfl) (by kernel_rfl) (by kernel_rfl) (fun _ _ _ h => h) (.inl ⟨by rfl, fun W hW => by obtain ⟨q0, q1⟩ := hW; go_simp; try rfl⟩) hS3 ?_
        try simp only [Act.put, List.setIfInBounds_toArray, List.set_cons_zero, List.set_cons_succ]
        refine wpAnyS_take (i := 11) (d := some 22) (v := v) rfl rfl rfl (by kernel_rfl) (by kernel_rfl) (by kernel_rfl) (by kernel_rfl) (fun _ _ _ h => h) (.inl ⟨by rfl, fun W hW => by obtain ⟨q0, q1⟩ := hW; go_simp; try rfl⟩) hS3 ?_
        try simp only [Act.put, List.setIfInBounds_toArray, List.set_cons_zero, List.set_cons_succ]
        refine wpAnyS_take (i := 12) (d := some 23) (v := .int .i64 (u : Nat)) rfl rfl rfl (by kernel_rfl) (by kernel_rfl) (by kernel_rfl) (by kernel_rfl) (fun _ _ _ h => h) (.inl ⟨by rfl, fun W hW => by obtain ⟨q0, q1⟩ := hW; go_simp; try rfl⟩) hS3 ?_
        try simp only [Act.put, List.setIfInBounds_toArray, List.set_cons_zero, List.set_cons_succ]
        refine wpAnyS_take (i := 13) (d := some 24) (v := .int .i64 0) rfl rfl rfl (by kernel_rfl) (by kernel_rfl) (by kernel_rfl) (by kernel_rfl) (fun _ _ _ h => h) (.inl ⟨by rfl, fun W hW => by obtain ⟨q0, q1⟩ := hW; go_simp; try rfl⟩) hS3 ?_
        try simp only [Act.put, List.setIfInBounds_toArray, List.set_cons_zero, List.set_cons_succ]
        refine wpAnyS_take (i := 14) (d := some 4) (v := v) rfl rfl rfl (by kernel_rfl) (by kernel_rfl) (by kernel_rfl) (by kernel_rfl) (fun _ _ _ h => h) (.inl ⟨by rfl, fun W hW => by obtain ⟨q0, q1⟩ := hW; go_simp; try rfl⟩) hS3 ?_
        try simp only [Act.put, List.setIfInBounds_toArray, List.set_cons_zero, List.set_cons_succ]
        refine wpAnyS_take (i := 15) (d := some 5) (v := .int .i64 (u : Nat)) rfl rfl rfl (by kernel_rfl) (by kernel_rfl) (by kernel_rfl) (by kernel_rfl) (fun _ _ _ h => h) (.inl ⟨by rfl, fun W hW => by obtain ⟨q0, q1⟩ := hW; go_simp; try rfl⟩) hS3 ?_
        try simp only [Act.put, List.setIfInBounds_toArray, List.set_cons_zero, List.set_cons_succ]
        refine wpAnyS_ran (i := 16) (d := some 6) (v := .int .i64 0) (w' := w3) (by kernel_rfl) rfl rfl (by rfl) (by go_simp; try rfl) (fun h => by cases h) ?_
        try simp only [Act.put, List.setIfInBounds_toArray, List.set_cons_zero, List.set_cons_succ]
        refine wpAnyS_done (by kernel_rfl) ?_ _
        clear hS3 hSW
        have HDEC := Lib.hid hdec
        clear hdec
        have hcf := decT_facts (by omega) HDEC.out
        have hul := hcf.2
        obtain ⟨⟨pa, pn, pc⟩, ep⟩ := hown.sl
        dsimp only at ep
        subst ep
        obtain rfl : pn = ls.length := by have h := (hown.nlen btc_len).1; rw [hcf.1] at h; exact h
        have HVL : Hid (V.length = ls.length) := Lib.hid hcf.1
        have HOWN : Hid (Own btc 1 4 w0.heap.size w3 (.slice pa ls.length pc) V) := Lib.hid (hown.mono HR1.out.bel.size)
        obtain ⟨a1, c1, hsl, hS1, -⟩ := slice_from (P := Tryz.prog) (ea := u8c) Tryz.underlying22 size_u8 ta r2.length tcap u htc hul
        have HBY := Lib.hid (hS1 w0 r2 rfl HR3.out.byt)
        have hc3 := HR3.out.cell
        have cT : w3.cell? ⟨T, 0, none⟩ = some (.slice ta r2.length tcap) := by simp [World.cell?, hc3]
        have cT1 : w3.cell? ⟨T, 1, none⟩ = some (.slice la ls.length lc) := by simp [World.cell?, hc3]
        have fT : w3.frozen? ⟨T, 0, none⟩ = false := by simp [World.frozen?, hc3]
        have HN0 : Hid (TKS w0 T (w3.setCell ⟨T, 0, none⟩ (.slice a1 (r2.length - u) c1)) (.slice a1 (r2.length - u) c1) (r2.drop u) (.slice la ls.length lc) (mixT k V 0 ls2) ∧ Own btc 1 4 w0.heap.size (w3.setCell ⟨T, 0, none⟩ (.slice a1 (r2.length - u) c1)) (.slice pa ls.length pc) V) := Lib.hid ⟨by unfold mixT; rw [mixG_zero]; exact HR3.out.setB HBY.out, HOWN.out.notT HR3.out (by decide) _ _⟩
        have HST := Lib.hid (tkT_step HR.out.1 HDEC.out)
        clear hown hcf hS1 hc3 HOWN HR HR1 HB1 HR3 HBY
        go_wp2_with fail
        clear cT cT1 fT hsl
        go_loopg [45] ls.length (fun g kv wx => ∃ i : Nat, g = ls.length - i ∧ kv = .int .i64 i ∧ i ≤ ls.length ∧ Hid (TKS w0 T wx (.slice a1 (r2.length - u) c1) (r2.drop u) (.slice la ls.length lc) (mixT k V i ls2) ∧ Own btc 1 4 w0.heap.size wx (.slice pa ls.length pc) V))
        case atStart => exact ⟨0, rfl, rfl, by omega, HN0⟩
        case round =>
          clear HN0
          obtain ⟨i, hg2, rfl, hi, HI⟩ := hrel
          have HG2 := Lib.hid hg2
          clear hg2
          by_cases hli : i < ls.length
          · have hi1 : (i : Int) < (ls.length : Int) := by omega
            have hi0 : (0 : Int) ≤ (i : Int) := by omega
            obtain ⟨x, hx⟩ : ∃ x, ls2[i]? = some x := ⟨_, List.getElem?_eq_getElem (by rw [HLN.out]; exact hli)⟩
            have HX := Lib.hid hx
            clear hx
            obtain ⟨y, hy⟩ : ∃ y, V[i]? = some y := ⟨_, List.getElem?_eq_getElem (by rw [HVL.out]; exact hli)⟩
            have HY := Lib.hid hy
            clear hy
            obtain ⟨g, cap, e, hg1, hg3⟩ := HI.out.1.own.eq_slice.resolve_left (fun e => by have h2 := e.2; have h3 := mixG_len (fun j o => o.setT k (V.getD j false)) i ls2; rw [show mixG (fun j o => o.setT k (V.getD j false)) i ls2 = [] from h2, HLN.out] at h3; simp at h3; omega)
            injection e with e1 e2 e3
            subst e1 e3
            clear e2
            obtain ⟨vb, vo, ev, cv⟩ := (HI.out.2.slice btc_len).at1 HY.out rfl
            cases ev
            have hc0 := HI.out.1.cell
            have hSW : (fun W : World => W.cell? ⟨T, 1, none⟩ = some (.slice (some ⟨g, 0, none⟩) ls.length lc) ∧ W.cell? ⟨vb, vo + i, none⟩ = some (.bool y)) wr.drew := ⟨by show World.cell? wr _ = _; simp [World.cell?, hc0], cv⟩
            have hix := fun W : World => run_indexT g (i * 26) hlt W
            clear hc0 cv
            go_upto_region 11 with fail
            refine wp_region_s (fun W : World => W.cell? ⟨T, 1, none⟩ = some (.slice (some ⟨g, 0, none⟩) ls.length lc) ∧ W.cell? ⟨vb, vo + i, none⟩ = some (.bool y)) (fun i => i == 14) (by kernel_rfl) ?_
            have HI1 : Hid (TKS w0 T wr.drew (.slice a1 (r2.length - u) c1) (r2.drop u) (.slice (some ⟨g, 0, none⟩) ls.length lc) (mixT k V i ls2) ∧ Own btc 1 4 w0.heap.size wr.drew (.slice (some ⟨vb, vo, none⟩) ls.length pc) V) := Lib.hid ⟨HI.out.1.below (Below.refl _ _).drew, HI.out.2.below1 (Below.refl _ _).drew⟩
            generalize wr.drew = W2 at hSW HI1 ⊢
            refine wpAnyS_take (i := 0) (d := some 48) rfl rfl rfl (by kernel_rfl) (by kernel_rfl) (by kernel_rfl) (by kernel_rfl) (fun _ _ _ h => h) (.inl ⟨by rfl, fun W hW => by obtain ⟨q0, q1⟩ := hW; go_simp; try rfl⟩) hSW ?_
            try simp only [Act.put, List.setIfInBounds_toArray, List.set_cons_zero, List.set_cons_succ]
            refine wpAnyS_take (i := 1) (d := some 49) (v := .pointer (some ⟨T, 0, none⟩)) rfl rfl rfl (by kernel_rfl) (by kernel_rfl) (by kernel_rfl) (by kernel_rfl) (fun _ _ _ h => h) (.inl ⟨by rfl, fun W hW => by obtain ⟨q0, q1⟩ := hW; go_simp; try rfl⟩) hSW ?_
            try simp only [Act.put, List.setIfInBounds_toArray, List.set_cons_zero, List.set_cons_succ]
            refine wpAnyS_take (i := 2) (d := some 50) (v := .pointer (some ⟨T, 1, none⟩)) rfl rfl rfl (by kernel_rfl) (by kernel_rfl) (by kernel_rfl) (by kernel_rfl) (fun _ _ _ h => h) (.inl ⟨by rfl, fun W hW => by obtain ⟨q0, q1⟩ := hW; go_simp; try rfl⟩) hSW ?_
            try simp only [Act.put, List.setIfInBounds_toArray, List.set_cons_zero, List.set_cons_succ]
            refine wpAnyS_take (i := 3) (d := some 51) (v := .slice (some ⟨g, 0, none⟩) ls.length lc) rfl rfl rfl (by kernel_rfl) (by kernel_rfl) (by kernel_rfl) (by kernel_rfl) (fun _ _ _ h => h) (.inl ⟨by rfl, fun W hW => by obtain ⟨q0, q1⟩ := hW; go_simp; try rfl⟩) hSW ?_
            try simp only [Act.put, List.setIfInBounds_toArray, List.set_cons_zero, List.set_cons_succ]
            refine wpAnyS_take (i := 4) (d := some 52) (v := .int .i64 i) rfl rfl rfl (by kernel_rfl) (by kernel_rfl) (by kernel_rfl) (by kernel_rfl) (fun _ _ _ h => h) (.inl ⟨by rfl, fun W hW => by obtain ⟨q0, q1⟩ := hW; go_simp; try rfl⟩) hSW ?_
            try simp only [Act.put, List.setIfInBounds_toArray, List.set_cons_zero, List.set_cons_succ]
            refine wpAnyS_take (i := 5) (d := some 53) (v := .pointer (some ⟨g, i * 26, none⟩)) rfl rfl rfl (by kernel_rfl) (by kernel_rfl) (by kernel_rfl) (by kernel_rfl) (fun _ _ _ h => h) (.inl ⟨by rfl, fun W hW => by obtain ⟨q0, q1⟩ := hW; go_simp; try rfl⟩) hSW ?_
            try simp only [Act.put, List.setIfInBounds_toArray, List.set_cons_zero, List.set_cons_succ]
            refine wpAnyS_take (i := 7) (d := some 55) (v := .int .i64 k) rfl rfl rfl (by kernel_rfl) (by kernel_rfl) (by kernel_rfl) (by kernel_rfl) (fun _ _ _ h => h) (.inl ⟨by rfl, fun W hW => by obtain ⟨q0, q1⟩ := hW; go_simp; try rfl⟩) hSW ?_
            try simp only [Act.put, List.setIfInBounds_toArray, List.set_cons_zero, List.set_cons_succ]
            refine wpAnyS_take (i := 9) (d := some 57) (v := .slice (some ⟨vb, vo, none⟩) ls.length pc) rfl rfl rfl (by kernel_rfl) (by kernel_rfl) (by kernel_rfl) (by kernel_rfl) (fun _ _ _ h => h) (.inl ⟨by rfl, fun W hW => by obtain ⟨q0, q1⟩ := hW; go_simp; try rfl⟩) hSW ?_
            try simp only [Act.put, List.setIfInBounds_toArray, List.set_cons_zero, List.set_cons_succ]
            refine wpAnyS_take (i := 10) (d := some 58) (v := .int .i64 i) rfl rfl rfl (by kernel_rfl) (by kernel_rfl) (by kernel_rfl) (by kernel_rfl) (fun _ _ _ h => h) (.inl ⟨by rfl, fun W hW => by obtain ⟨q0, q1⟩ := hW; go_simp; try rfl⟩) hSW ?_
            try simp only [Act.put, List.setIfInBounds_toArray, List.set_cons_zero, List.set_cons_succ]
            refine wpAnyS_take (i := 11) (d := some 59) (v := .pointer (some ⟨vb, vo + i, none⟩)) rfl rfl rfl (by kernel_rfl) (by kernel_rfl) (by kernel_rfl) (by kernel_rfl) (fun _ _ _ h => h) (.inl ⟨by rfl, fun W hW => by obtain ⟨q0, q1⟩ := hW; go_simp; try rfl⟩) hSW ?_
            try simp only [Act.put, List.setIfInBounds_toArray, List.set_cons_zero, List.set_cons_succ]
            refine wpAnyS_take (i := 12) (d := some 60) (v := .bool y) rfl rfl rfl (by kernel_rfl) (by kernel_rfl) (by kernel_rfl) (by kernel_rfl) (fun _ _ _ h => h) (.inl ⟨by rfl, fun W hW => by obtain ⟨q0, q1⟩ := hW; go_simp; try rfl⟩) hSW ?_
            try simp only [Act.put, List.setIfInBounds_toArray, List.set_cons_zero, List.set_cons_succ]
            refine wpAnyS_call (i := 6) (d := some 54) (f := 96) (args := #[.pointer (some ⟨g, i * 26, none⟩)]) (w' := W2) (by kernel_rfl) rfl rfl (by rfl) (by go_simp; try rfl) ?_
            refine (truths_any g (i * 26) W2).mono ?_
            rintro e w4 ⟨rfl, hb4⟩
            have hS4 : (fun W : World => W.cell? ⟨T, 1, none⟩ = some (.slice (some ⟨g, 0, none⟩) ls.length lc) ∧ W.cell? ⟨vb, vo + i, none⟩ = some (.bool y)) w4 := ⟨(hb4.cell (p := ⟨T, 1, none⟩) (cell_lt hSW.1)).trans hSW.1, (hb4.cell (p := ⟨vb, vo + i, none⟩) (cell_lt hSW.2)).trans hSW.2⟩
            have HI4 := Lib.hid (And.intro (HI1.out.1.below hb4) (HI1.out.2.below1 hb4))
            refine ⟨_, rfl, fun _ => hS4, ?_⟩
            try simp only [Act.put, List.setIfInBounds_toArray, List.set_cons_zero, List.set_cons_succ]
            refine wpAnyS_take (i := 8) (d := some 56) (v := .pointer (some ⟨g, i * 26 + offT k, none⟩)) rfl rfl rfl (by kernel_rfl) (by kernel_rfl) (by kernel_rfl) (by kernel_rfl) (fun _ _ _ h => h) (.inl ⟨by rfl, fun W hW => by obtain ⟨q0, q1⟩ := hW; go_simp; try rfl⟩) hS4 ?_
            try simp only [Act.put, List.setIfInBounds_toArray, List.set_cons_zero, List.set_cons_succ]
            refine wpAnyS_take (i := 13) (d := some 61) (v := .pointer (some ⟨g, i * 26 + offT k, none⟩)) rfl rfl rfl (by kernel_rfl) (by kernel_rfl) (by kernel_rfl) (by kernel_rfl) (fun _ _ _ h => h) (.inl ⟨by rfl, fun W hW => by obtain ⟨q0, q1⟩ := hW; go_simp; try rfl⟩) hS4 ?_
            try simp only [Act.put, List.setIfInBounds_toArray, List.set_cons_zero, List.set_cons_succ]
            have hln : ls.length = (mixT k V i ls2).length := by unfold mixT; rw [mixG_len]; exact HLN.out.symm
            have hk4 := HI4.out.1
            rw [hln] at hk4
            obtain ⟨u0, hu0⟩ : ∃ u0, x.cells[offT k]? = some u0 := ⟨_, List.getElem?_eq_getElem (by rw [OpD.len]; exact offT_lt k)⟩
            have c4 := hk4.own.cellAt OpD.len (mixG_at _ i HX.out) hu0
            have f4 := hk4.own.free (i * 26 + offT k)
            have hst := hk4.setOp (mixG_at _ i HX.out) (offT_lt k) (setT_cells x k y)
            have HN : Hid (TKS w0 T (w4.setCell ⟨g, i * 26 + offT k, none⟩ (.bool y)) (.slice a1 (r2.length - u) c1) (r2.drop u) (.slice (some ⟨g, 0, none⟩) ls.length lc) (mixT k V (i + 1) ls2) ∧ Own btc 1 4 w0.heap.size (w4.setCell ⟨g, i * 26 + offT k, none⟩ (.bool y)) (.slice (some ⟨vb, vo, none⟩) ls.length pc) V) := Lib.hid (by
              refine ⟨?_, HI4.out.2.notg HI4.out.1.own (by decide) rfl _ _⟩
              have e : mixT k V (i + 1) ls2 = (mixT k V i ls2).set i (x.setT k y) := by
                have hyg : V.getD i false = y := by rw [List.getD_eq_getElem?_getD, HY.out]; rfl
                unfold mixT
                rw [mixG_succ _ _ i HX.out (fun _ _ => rfl), hyg]
              rw [e, hln]
              exact hst)
            clear hk4 hst hu0 hln
            refine wpAnyS_mute (i := 14) (d := none) (w' := w4.setCell ⟨g, i * 26 + offT k, none⟩ (.bool y)) (by kernel_rfl) rfl rfl (by rfl) (by go_simp; try rfl) (fun h => by cases h) ?_
            try simp only [Act.put, List.setIfInBounds_toArray, List.set_cons_zero, List.set_cons_succ]
            refine wpAnyS_done (by kernel_rfl) ?_ _
            clear hS4 hSW HI4 HI1 HI c4 f4 hix
            go_wp2_with fail
            go_roundg (ls.length - (i + 1))
            case measure => rw [HG2.out]; omega
            case rel => exact ⟨i + 1, rfl, by simp, by omega, HN⟩
          · obtain rfl : i = ls.length := by omega
            have hi1 : ¬ (ls.length : Int) < (ls.length : Int) := by omega
            have HN : Hid (tkT ls.length (k + 1) (ls, r) = some (mixT k V ls.length ls2, r2.drop u) ∧ TKS w0 T wr (.slice a1 (r2.length - u) c1) (r2.drop u) (.slice la ls.length lc) (mixT k V ls.length ls2)) := Lib.hid ⟨HST.out, HI.out.1⟩
            clear HI HST
            go_wp2_with fail
            go_roundg (2 - (k + 1))
            case measure => rw [HG.out]; omega
            case rel => exact ⟨k + 1, _, _, _, rfl, by simp, by omega, HN⟩
      · have hS3 : (fun W : World => W.cell? ⟨T, 0, none⟩ = some (.slice ta r2.length tcap) ∧ W.cell? ⟨T, 1, none⟩ = some (.slice la ls.length lc)) w3 := ⟨(hb.cell (p := ⟨T, 0, none⟩) (cell_lt hSW.1)).trans hSW.1, (hb.cell (p := ⟨T, 1, none⟩) (cell_lt hSW.2)).trans hSW.2⟩
        have HR3 := Lib.hid (HR1.out.below hb)
        refine ⟨_, rfl, fun _ => hS3, ?_⟩
        try simp only [Act.put, List.setIfInBounds_toArray, List.set_cons_zero, List.set_cons_succ]
        refine wpAnyS_take (i := 10) (d := some 11) (v := .tuple #[.slice none 0 0, .int .i64 0, .int .i64 41]) rfl rfl rfl (by kernel_rfl) (by kernel_rfl) (by kernel_rfl) (by kernel_rfl) (fun _ _ _ h => h) (.inl ⟨by rfl, fun W hW => by obtain ⟨q0, q1⟩ := hW; go_simp; try rfl⟩) hS3 ?_
        try simp only [Act.put, List.setIfInBounds_toArray, List.set_cons_zero, List.set_cons_succ]
        refine wpAnyS_take (i := 11) (d := some 22) (v := .slice none 0 0) rfl rfl rfl (by kernel_rfl) (by kernel_rfl) (by kernel_rfl) (by kernel_rfl) (fun _ _ _ h => h) (.inl ⟨by rfl, fun W hW => by obtain ⟨q0, q1⟩ := hW; go_simp; try rfl⟩) hS3 ?_
        try simp only [Act.put, List.setIfInBounds_toArray, List.set_cons_zero, List.set_cons_succ]
        refine wpAnyS_take (i := 12) (d := some 23) (v := .int .i64 0) rfl rfl rfl (by kernel_rfl) (by kernel_rfl) (by kernel_rfl) (by kernel_rfl) (fun _ _ _ h => h) (.inl ⟨by rfl, fun W hW => by obtain ⟨q0, q1⟩ := hW; go_simp; try rfl⟩) hS3 ?_
        try simp only [Act.put, List.setIfInBounds_toArray, List.set_cons_zero, List.set_cons_succ]
        refine wpAnyS_take (i := 13) (d := some 24) (v := .int .i64 41) rfl rfl rfl (by kernel_rfl) (by kernel_rfl) (by kernel_rfl) (by kernel_rfl) (fun _ _ _ h => h) (.inl ⟨by rfl, fun W hW => by obtain ⟨q0, q1⟩ := hW; go_simp; try rfl⟩) hS3 ?_
        try simp only [Act.put, List.setIfInBounds_toArray, List.set_cons_zero, List.set_cons_succ]
        refine wpAnyS_take (i := 14) (d := some 4) (v := .slice none 0 0) rfl rfl rfl (by kernel_rfl) (by kernel_rfl) (by kernel_rfl) (by kernel_rfl) (fun _ _ _ h => h) (.inl ⟨by rfl, fun W hW => by obtain ⟨q0, q1⟩ := hW; go_simp; try rfl⟩) hS3 ?_
        try simp only [Act.put, List.setIfInBounds_toArray, List.set_cons_zero, List.set_cons_succ]
        refine wpAnyS_take (i := 15) (d := some 5) (v := .int .i64 0) rfl rfl rfl (by kernel_rfl) (by kernel_rfl) (by kernel_rfl) (by kernel_rfl) (fun _ _ _ h => h) (.inl ⟨by rfl, fun W hW => by obtain ⟨q0, q1⟩ := hW; go_simp; try rfl⟩) hS3 ?_
        try simp only [Act.put, List.setIfInBounds_toArray, List.set_cons_zero, List.set_cons_succ]
        refine wpAnyS_ran (i := 16) (d := some 6) (v := .int .i64 41) (w' := w3) (by kernel_rfl) rfl rfl (by rfl) (by go_simp; try rfl) (fun h => by cases h) ?_
        try simp only [Act.put, List.setIfInBounds_toArray, List.set_cons_zero, List.set_cons_succ]
        refine wpAnyS_done (by kernel_rfl) ?_ _
        clear hS3 hSW
        have HBAD : Hid (tkT ls.length 2 (ls, r) = none) := Lib.hid (tkT_bad HR.out.1 hdec hlt)
        clear hdec
        go_wp2_with fail
        go_ret
        exact Or.inr ⟨HBAD.out, ⟨_, _, rfl⟩, HR3.out.kp⟩
    · obtain rfl : k = 2 := by omega
      have hk1 : ¬ (2 : Int) < 2 := by omega
      clear hk hlt
      go_wp2_with fail
      go_ret
      exact Or.inl ⟨_, _, _, HR.out.1, rfl, HR.out.2⟩
end Go.Proofs.YtgmdimbiipemhaaGreatDoor
namespace Go.Proofs.YtgmdimbiipemhaaGreatDoor
open Go.RowKit Go.Deep
set_option linter.unusedSimpArgs false
set_option linter.unusedVariables false
theorem slice_to {P : Program} {α : Type} {ea : α → List Value} {q : Nat} {t e : TypeId} (ht : P.underlying t = some (.slice e)) (hsz : (P.info? e).map (·.size) = some q) (a : Option Addr) (n cap p : Nat) (hn : n ≤ cap) (hp : p ≤ n) :
    ∃ a', (∀ W, (Instr.slice t (.slice a n cap) none (some (.int .i64 (p : Int))) none).run P W = .ok (.slice a' p cap) W) ∧ (∀ W (l : List α), l.length = n → SliceIs ea q W (.slice a n cap) l → SliceIs ea q W (.slice a' p cap) (l.take p)) := by
  obtain ⟨i, hi, hq⟩ : ∃ i, P.info? e = some i ∧ i.size = q := by
    cases h : P.info? e with
    | none => rw [h] at hsz; cases hsz
    | some i => rw [h] at hsz; exact ⟨i, rfl, Option.some.inj hsz⟩
  have hpc : p ≤ cap := by omega
  refine ⟨if cap = 0 then a else a.map (·.add 0), fun W => ?_, fun W l hl h => ?_⟩
  · simp [Instr.slice, Instr.sliceBounds, Instr.sliceBound, asIntOf, run_underlying ht, sizeOf, typeInfo, hi, hq, hpc, hn, eq_comm]
  · by_cases hl0 : l = []
    · subst hl0
      simp at hl
      obtain ⟨a2, c2, e2, h1, h2, h3⟩ := h
      cases e2
      have hp0 : p = 0 := by omega
      subst hp0
      exact ⟨_, _, rfl, Nat.zero_le _, h2, fun hne => absurd rfl hne⟩
    · have h5 := SliceIs.take1 (k := p) h (by omega)
      have e : (if cap = 0 then a else a.map (·.add 0)) = a := by
        obtain ⟨a2, c2, e2, h1, h2, h3⟩ := h
        cases e2
        obtain ⟨b, off, rfl, _⟩ := h3 hl0
        split
        · rfl
        · simp [addr_add8]
      rw [e]
      exact h5
theorem run_indexX (b off : Nat) : ∀ {c : Nat}, c < 3 → ∀ w : World, (Instr.index 172 (.agg #[.pointer (some ⟨b, off + 17, none⟩), .pointer (some ⟨b, off + 18, none⟩), .pointer (some ⟨b, off + 19, none⟩)]) (.int .i64 (c : Int))).run Tryz.prog w = .ok (.pointer (some ⟨b, off + offX c, none⟩)) w
  | 0, _, w => by kernel_rfl
  | 1, _, w => by kernel_rfl
  | 2, _, w => by kernel_rfl
  | n + 3, h, _ => absurd h (by omega)
theorem mixX_succ (c i : Nat) {X : List ByteArray} {ls : List OpD} {x : OpD} {s : ByteArray} (hX : X.length = i) (hx : ls[i]? = some x) : mixX c (X ++ [s]) (i + 1) ls = (mixX c X i ls).set i (x.setX c s) := by
  have h1 : (X ++ [s]).getD i noText = s := by rw [List.getD_eq_getElem?_getD, List.getElem?_append_right (by omega), hX, Nat.sub_self]; rfl
  unfold mixX
  rw [mixG_succ (fun j o => o.setX c (X.getD j noText)) (fun j o => o.setX c ((X ++ [s]).getD j noText)) i hx (fun j hj => by
    funext o
    congr 1
    rw [List.getD_eq_getElem?_getD, List.getD_eq_getElem?_getD, List.getElem?_append_left (by omega)]), h1]
set_option maxRecDepth 20000 in
set_option maxHeartbeats 4000000 in
theorem taketexts_any (w0 : World) (T : Nat) (w : World) (tb tl : Value) (r : List UInt8) (ls : List OpD) (c : Nat) (hc : c < 3) (h : TKS w0 T w tb r tl ls) (hn : ls.length ≤ 200) : Calls Tryz.prog 106 #[.pointer (some ⟨T, 0, none⟩), .int .i64 c] w fun e w' => TakPost w0 T tl (tkX1 ls.length c (ls, r)) e w' := by
  obtain ⟨⟨la, ln, lc⟩, el⟩ := h.own.sl
  dsimp only at el
  subst el
  obtain rfl : ln = ls.length := (h.own.nlen OpD.len).1
  obtain ⟨ta, tcap, rfl, htc, htm, -⟩ := id h.byt
  unfold maxLen at htm
  have hc0 := h.cell
  have HT := Lib.hid h
  clear h
  have hSW : (fun W : World => W.cell? ⟨T, 0, none⟩ = some (.slice ta r.length tcap) ∧ W.cell? ⟨T, 1, none⟩ = some (.slice la ls.length lc)) w.drew := ⟨by show World.cell? w _ = _; simp [World.cell?, hc0], by show World.cell? w _ = _; simp [World.cell?, hc0]⟩
  clear hc0
  go_enter Tryz.func106, Tryz.ntmps106
  go_upto_region 1 with fail
  refine wp_region_s (fun W : World => W.cell? ⟨T, 0, none⟩ = some (.slice ta r.length tcap) ∧ W.cell? ⟨T, 1, none⟩ = some (.slice la ls.length lc)) (fun i => i == 16) (by kernel_rfl) ?_
  have HR1 : Hid (TKS w0 T w.drew (.slice ta r.length tcap) r (.slice la ls.length lc) ls) := Lib.hid (HT.out.below (Below.refl _ _).drew)
  have HB1 : Hid (SliceIs u8c 1 w.drew (.slice ta r.length tcap) r) := Lib.hid HR1.out.bytes
  generalize w.drew = W1 at hSW HR1 HB1 ⊢
  refine wpAnyS_take (i := 0) (d := some 11) rfl rfl rfl (by kernel_rfl) (by kernel_rfl) (by kernel_rfl) (by kernel_rfl) (fun _ _ _ h => h) (.inl ⟨by rfl, fun W hW => by obtain ⟨q0, q1⟩ := hW; go_simp; try rfl⟩) hSW ?_
  try simp only [Act.put, List.setIfInBounds_toArray, List.set_cons_zero, List.set_cons_succ]
  refine wpAnyS_take (i := 1) (d := some 12) (v := .pointer (some ⟨T, 0, none⟩)) rfl rfl rfl (by kernel_rfl) (by kernel_rfl) (by kernel_rfl) (by kernel_rfl) (fun _ _ _ h => h) (.inl ⟨by rfl, fun W hW => by obtain ⟨q0, q1⟩ := hW; go_simp; try rfl⟩) hSW ?_
  try simp only [Act.put, List.setIfInBounds_toArray, List.set_cons_zero, List.set_cons_succ]
  refine wpAnyS_take (i := 2) (d := some 13) (v := .pointer (some ⟨T, 0, none⟩)) rfl rfl rfl (by kernel_rfl) (by kernel_rfl) (by kernel_rfl) (by kernel_rfl) (fun _ _ _ h => h) (.inl ⟨by rfl, fun W hW => by obtain ⟨q0, q1⟩ := hW; go_simp; try rfl⟩) hSW ?_
  try simp only [Act.put, List.setIfInBounds_toArray, List.set_cons_zero, List.set_cons_succ]
  refine wpAnyS_take (i := 3) (d := some 14) (v := .slice ta r.length tcap) rfl rfl rfl (by kernel_rfl) (by kernel_rfl) (by kernel_rfl) (by kernel_rfl) (fun _ _ _ h => h) (.inl ⟨by rfl, fun W hW => by obtain ⟨q0, q1⟩ := hW; go_simp; try rfl⟩) hSW ?_
  try simp only [Act.put, List.setIfInBounds_toArray, List.set_cons_zero, List.set_cons_succ]
  refine wpAnyS_take (i := 4) (d := some 15) rfl rfl rfl (by kernel_rfl) (by kernel_rfl) (by kernel_rfl) (by kernel_rfl) (fun _ _ _ h => h) (.inl ⟨by rfl, fun W hW => by obtain ⟨q0, q1⟩ := hW; go_simp; try rfl⟩) hSW ?_
  try simp only [Act.put, List.setIfInBounds_toArray, List.set_cons_zero, List.set_cons_succ]
  refine wpAnyS_take (i := 5) (d := some 16) (v := .pointer (some ⟨T, 0, none⟩)) rfl rfl rfl (by kernel_rfl) (by kernel_rfl) (by kernel_rfl) (by kernel_rfl) (fun _ _ _ h => h) (.inl ⟨by rfl, fun W hW => by obtain ⟨q0, q1⟩ := hW; go_simp; try rfl⟩) hSW ?_
  try simp only [Act.put, List.setIfInBounds_toArray, List.set_cons_zero, List.set_cons_succ]
  refine wpAnyS_take (i := 6) (d := some 17) (v := .pointer (some ⟨T, 1, none⟩)) rfl rfl rfl (by kernel_rfl) (by kernel_rfl) (by kernel_rfl) (by kernel_rfl) (fun _ _ _ h => h) (.inl ⟨by rfl, fun W hW => by obtain ⟨q0, q1⟩ := hW; go_simp; try rfl⟩) hSW ?_
  try simp only [Act.put, List.setIfInBounds_toArray, List.set_cons_zero, List.set_cons_succ]
  refine wpAnyS_take (i := 7) (d := some 18) (v := .slice la ls.length lc) rfl rfl rfl (by kernel_rfl) (by kernel_rfl) (by kernel_rfl) (by kernel_rfl) (fun _ _ _ h => h) (.inl ⟨by rfl, fun W hW => by obtain ⟨q0, q1⟩ := hW; go_simp; try rfl⟩) hSW ?_
  try simp only [Act.put, List.setIfInBounds_toArray, List.set_cons_zero, List.set_cons_succ]
  refine wpAnyS_take (i := 8) (d := some 19) (v := .int .i64 ls.length) rfl rfl rfl (by kernel_rfl) (by kernel_rfl) (by kernel_rfl) (by kernel_rfl) (fun _ _ _ h => h) (.inl ⟨by rfl, fun W hW => by obtain ⟨q0, q1⟩ := hW; go_simp; try rfl⟩) hSW ?_
  try simp only [Act.put, List.setIfInBounds_toArray, List.set_cons_zero, List.set_cons_succ]
  refine wpAnyS_call (i := 9) (d := some 20) (f := 153) (args := #[.slice ta r.length tcap, .int .i64 ls.length]) (w' := W1) (by kernel_rfl) rfl rfl (by rfl) (by go_simp; try rfl) ?_
  refine (takeruns_any _ r ls.length _ HB1.out (by omega)).mono ?_
  rintro e w3 (⟨V, u, v, hdec, rfl, hown, hb⟩ | ⟨hdec, rfl, hb⟩)
  · have hS3 : (fun W : World => W.cell? ⟨T, 0, none⟩ = some (.slice ta r.length tcap) ∧ W.cell? ⟨T, 1, none⟩ = some (.slice la ls.length lc)) w3 := ⟨(hb.cell (p := ⟨T, 0, none⟩) (cell_lt hSW.1)).trans hSW.1, (hb.cell (p := ⟨T, 1, none⟩) (cell_lt hSW.2)).trans hSW.2⟩
    have HR3 := Lib.hid (HR1.out.below hb)
    refine ⟨_, rfl, fun _ => hS3, ?_⟩
    try simp only [Act.put, List.setIfInBounds_toArray, List.set_cons_zero, List.set_cons_succ]
    refine wpAnyS_take (i := 10) (d := some 10) (v := .tuple #[v, .int .i64 (u : Nat), .int .i64 0]) rfl rfl rfl (by kernel_rfl) (by kernel_rfl) (by kernel_rfl) (by kernel_rfl) (fun _ _ _ h => h) (.inl ⟨by rfl, fun W hW => by obtain ⟨q0, q1⟩ := hW; go_simp; try rfl⟩) hS3 ?_
    try simp only [Act.put, List.setIfInBounds_toArray, List.set_cons_zero, List.set_cons_succ]
    refine wpAnyS_take (i := 11) (d := some 21) (v := v) rfl rfl rfl (by kernel_rfl) (by kernel_rfl) (by kernel_rfl) (by kernel_rfl) (fun _ _ _ h => h) (.inl ⟨by rfl, fun W hW => by obtain ⟨q0, q1⟩ := hW; go_simp; try rfl⟩) hS3 ?_
    try simp only [Act.put, List.setIfInBounds_toArray, List.set_cons_zero, List.set_cons_succ]
    refine wpAnyS_take (i := 12) (d := some 22) (v := .int .i64 (u : Nat)) rfl rfl rfl (by kernel_rfl) (by kernel_rfl) (by kernel_rfl) (by kernel_rfl) (fun _ _ _ h => h) (.inl ⟨by rfl, fun W hW => by obtain ⟨q0, q1⟩ := hW; go_simp; try rfl⟩) hS3 ?_
    try simp only [Act.put, List.setIfInBounds_toArray, List.set_cons_zero, List.set_cons_succ]
    refine wpAnyS_take (i := 13) (d := some 23) (v := .int .i64 0) rfl rfl rfl (by kernel_rfl) (by kernel_rfl) (by kernel_rfl) (by kernel_rfl) (fun _ _ _ h => h) (.inl ⟨by rfl, fun W hW => by obtain ⟨q0, q1⟩ := hW; go_simp; try rfl⟩) hS3 ?_
    try simp only [Act.put, List.setIfInBounds_toArray, List.set_cons_zero, List.set_cons_succ]
    refine wpAnyS_take (i := 14) (d := some 5) (v := v) rfl rfl rfl (by kernel_rfl) (by kernel_rfl) (by kernel_rfl) (by kernel_rfl) (fun _ _ _ h => h) (.inl ⟨by rfl, fun W hW => by obtain ⟨q0, q1⟩ := hW; go_simp; try rfl⟩) hS3 ?_
    try simp only [Act.put, List.setIfInBounds_toArray, List.set_cons_zero, List.set_cons_succ]
    refine wpAnyS_take (i := 15) (d := some 6) (v := .int .i64 (u : Nat)) rfl rfl rfl (by kernel_rfl) (by kernel_rfl) (by kernel_rfl) (by kernel_rfl) (fun _ _ _ h => h) (.inl ⟨by rfl, fun W hW => by obtain ⟨q0, q1⟩ := hW; go_simp; try rfl⟩) hS3 ?_
    try simp only [Act.put, List.setIfInBounds_toArray, List.set_cons_zero, List.set_cons_succ]
    refine wpAnyS_ran (i := 16) (d := some 7) (v := .int .i64 0) (w' := w3) (by kernel_rfl) rfl rfl (by rfl) (by go_simp; try rfl) (fun h => by cases h) ?_
    try simp only [Act.put, List.setIfInBounds_toArray, List.set_cons_zero, List.set_cons_succ]
    refine wpAnyS_done (by kernel_rfl) ?_ _
    clear hS3 hSW
    have HDEC := Lib.hid hdec
    clear hdec
    have hcf := decR_facts (by omega) HDEC.out
    have hul := hcf.2
    obtain ⟨⟨pa, pn, pc⟩, ep⟩ := hown.sl
    dsimp only at ep
    subst ep
    obtain rfl : pn = ls.length := by have h := (hown.nlen intc_len).1; rw [hcf.1] at h; exact h
    have HVL : Hid (V.length = ls.length) := Lib.hid hcf.1
    have HOWN : Hid (Own intc 1 3 w0.heap.size w3 (.slice pa ls.length pc) V) := Lib.hid (hown.mono HR1.out.bel.size)
    obtain ⟨a1, c1, hsl, hS1, -⟩ := slice_from (P := Tryz.prog) (ea := u8c) Tryz.underlying22 size_u8 ta r.length tcap u htc hul
    have HBY := Lib.hid (hS1 w0 r rfl HR3.out.byt)
    have hc3 := HR3.out.cell
    have cT : w3.cell? ⟨T, 0, none⟩ = some (.slice ta r.length tcap) := by simp [World.cell?, hc3]
    have fT : w3.frozen? ⟨T, 0, none⟩ = false := by simp [World.frozen?, hc3]
    have HN0 : Hid (TKS w0 T (w3.setCell ⟨T, 0, none⟩ (.slice a1 (r.length - u) c1)) (.slice a1 (r.length - u) c1) (r.drop u) (.slice la ls.length lc) (mixX c [] 0 ls) ∧ Own intc 1 3 w0.heap.size (w3.setCell ⟨T, 0, none⟩ (.slice a1 (r.length - u) c1)) (.slice pa ls.length pc) V) := Lib.hid ⟨by unfold mixX; rw [mixG_zero]; exact HR3.out.setB HBY.out, HOWN.out.notT HR3.out (by decide) _ _⟩
    clear hown hcf hS1 hc3 HOWN HR1 HB1 HR3 HBY HT
    go_wp2_with fail
    clear cT fT hsl
    go_loopg [41] ls.length (fun g kv wx => ∃ (i : Nat) (X : List ByteArray) (r3 : List UInt8) (tb3 : Value), g = ls.length - i ∧ kv = .int .i64 i ∧ i ≤ ls.length ∧ Hid (cutX V i (r.drop u) = some (X, r3) ∧ TKS w0 T wx tb3 r3 (.slice la ls.length lc) (mixX c X i ls) ∧ Own intc 1 3 w0.heap.size wx (.slice pa ls.length pc) V))
    case atStart => exact ⟨0, [], _, _, rfl, rfl, by omega, Lib.hid ⟨rfl, HN0.out.1, HN0.out.2⟩⟩
    case round =>
      clear HN0 hul htc htm
      obtain ⟨i, X, r3, tb3, hg2, rfl, hi, HI⟩ := hrel
      have HG2 := Lib.hid hg2
      clear hg2
      by_cases hli : i < ls.length
      · have hi1 : (i : Int) < (ls.length : Int) := by omega
        have hi0 : (0 : Int) ≤ (i : Int) := by omega
        obtain ⟨x, hx⟩ : ∃ x, ls[i]? = some x := ⟨_, List.getElem?_eq_getElem hli⟩
        have HX := Lib.hid hx
        clear hx
        obtain ⟨y, hy⟩ : ∃ y, V[i]? = some y := ⟨_, List.getElem?_eq_getElem (by rw [HVL.out]; exact hli)⟩
        have HY := Lib.hid hy
        clear hy
        obtain ⟨vb, vo, ev, cv⟩ := (HI.out.2.2.slice intc_len).at1 HY.out rfl
        cases ev
        obtain ⟨t3, c3, rfl, ht3, hm3, -⟩ := id HI.out.2.1.byt
        unfold maxLen at hm3
        have hc0 := HI.out.2.1.cell
        have cT : wr.cell? ⟨T, 0, none⟩ = some (.slice t3 r3.length c3) := by simp [World.cell?, hc0]
        by_cases hbad : y < 0 ∨ (r3.length : Int) < y
        · have HBAD : Hid (tkX1 ls.length c (ls, r) = none) := Lib.hid (by unfold tkX1; dsimp only; rw [HDEC.out, Option.bind_some]; dsimp only; rw [cutX_bad HI.out.1 HY.out hbad hli]; rfl)
          have HBL := Lib.hid HI.out.2.1.kp
          clear hc0 HI
          by_cases hy0 : y < 0
          · clear hbad
            go_wp2_with fail
            go_ret
            exact Or.inr ⟨HBAD.out, ⟨_, _, rfl⟩, HBL.out⟩
          · have hy1 : (r3.length : Int) < y := hbad.resolve_left hy0
            clear hbad
            go_wp2_with fail
            go_ret
            exact Or.inr ⟨HBAD.out, ⟨_, _, rfl⟩, HBL.out⟩
        · obtain ⟨m, rfl⟩ : ∃ m : Nat, y = (m : Int) := Int.eq_ofNat_of_zero_le (by omega)
          have hy0 : ¬ (m : Int) < 0 := by omega
          have hy1 : ¬ (r3.length : Int) < (m : Int) := by omega
          have hmr : m ≤ r3.length := by omega
          clear hbad
          obtain ⟨g, cap, e, hg1, hg3⟩ := HI.out.2.1.own.eq_slice.resolve_left (fun e => by have h2 := e.2; have h3 := mixG_len (fun j o => o.setX c (X.getD j noText)) i ls; rw [show mixG (fun j o => o.setX c (X.getD j noText)) i ls = [] from h2] at h3; simp at h3; omega)
          injection e with e1 e2 e3
          subst e1 e3
          clear e2
          obtain ⟨a4, hs4, hS4⟩ := slice_to (P := Tryz.prog) (ea := u8c) Tryz.underlying22 size_u8 t3 r3.length c3 m ht3 hmr
          have hby4 := hS4 wr.drew r3 rfl ((HI.out.2.1.below (Below.refl _ _).drew).bytes)
          clear hS4
          obtain ⟨a5, c5, hs5, hS5, -⟩ := slice_from (P := Tryz.prog) (ea := u8c) Tryz.underlying22 size_u8 t3 r3.length c3 m ht3 hmr
          have HBY := Lib.hid (hS5 w0 r3 rfl HI.out.2.1.byt)
          clear hS5
          have hSW : (fun W : World => W.cell? ⟨T, 0, none⟩ = some (.slice t3 r3.length c3) ∧ W.cell? ⟨T, 1, none⟩ = some (.slice (some ⟨g, 0, none⟩) ls.length lc) ∧ SliceIs u8c 1 W (.slice a4 m c3) (r3.take m)) wr.drew := ⟨cT, by show World.cell? wr _ = _; simp [World.cell?, hc0], hby4⟩
          have hix := fun W : World => run_indexX g (i * 26) hc W
          clear hc0 hby4
          go_upto_region 10 with fail
          clear cT cv
          refine wp_region_s (fun W : World => W.cell? ⟨T, 0, none⟩ = some (.slice t3 r3.length c3) ∧ W.cell? ⟨T, 1, none⟩ = some (.slice (some ⟨g, 0, none⟩) ls.length lc) ∧ SliceIs u8c 1 W (.slice a4 m c3) (r3.take m)) (fun i => i == 17) (by kernel_rfl) ?_
          have HI1 : Hid (TKS w0 T wr.drew (.slice t3 r3.length c3) r3 (.slice (some ⟨g, 0, none⟩) ls.length lc) (mixX c X i ls) ∧ Own intc 1 3 w0.heap.size wr.drew (.slice (some ⟨vb, vo, none⟩) ls.length pc) V) := Lib.hid ⟨HI.out.2.1.below (Below.refl _ _).drew, HI.out.2.2.below1 (Below.refl _ _).drew⟩
          have HCUT := Lib.hid HI.out.1
          clear HI
          generalize wr.drew = W2 at hSW HI1 ⊢
          refine wpAnyS_take (i := 0) (d := some 60) rfl rfl rfl (by kernel_rfl) (by kernel_rfl) (by kernel_rfl) (by kernel_rfl) (fun _ _ _ h => h) (.inl ⟨by rfl, fun W hW => by obtain ⟨q0, q1, q2⟩ := hW; go_simp; try rfl⟩) hSW ?_
          try simp only [Act.put, List.setIfInBounds_toArray, List.set_cons_zero, List.set_cons_succ]
          refine wpAnyS_take (i := 1) (d := some 61) (v := .pointer (some ⟨T, 0, none⟩)) rfl rfl rfl (by kernel_rfl) (by kernel_rfl) (by kernel_rfl) (by kernel_rfl) (fun _ _ _ h => h) (.inl ⟨by rfl, fun W hW => by obtain ⟨q0, q1, q2⟩ := hW; go_simp; try rfl⟩) hSW ?_
          try simp only [Act.put, List.setIfInBounds_toArray, List.set_cons_zero, List.set_cons_succ]
          refine wpAnyS_take (i := 2) (d := some 62) (v := .pointer (some ⟨T, 1, none⟩)) rfl rfl rfl (by kernel_rfl) (by kernel_rfl) (by kernel_rfl) (by kernel_rfl) (fun _ _ _ h => h) (.inl ⟨by rfl, fun W hW => by obtain ⟨q0, q1, q2⟩ := hW; go_simp; try rfl⟩) hSW ?_
          try simp only [Act.put, List.setIfInBounds_toArray, List.set_cons_zero, List.set_cons_succ]
          refine wpAnyS_take (i := 3) (d := some 63) (v := .slice (some ⟨g, 0, none⟩) ls.length lc) rfl rfl rfl (by kernel_rfl) (by kernel_rfl) (by kernel_rfl) (by kernel_rfl) (fun _ _ _ h => h) (.inl ⟨by rfl, fun W hW => by obtain ⟨q0, q1, q2⟩ := hW; go_simp; try rfl⟩) hSW ?_
          try simp only [Act.put, List.setIfInBounds_toArray, List.set_cons_zero, List.set_cons_succ]
          refine wpAnyS_take (i := 4) (d := some 64) (v := .int .i64 i) rfl rfl rfl (by kernel_rfl) (by kernel_rfl) (by kernel_rfl) (by kernel_rfl) (fun _ _ _ h => h) (.inl ⟨by rfl, fun W hW => by obtain ⟨q0, q1, q2⟩ := hW; go_simp; try rfl⟩) hSW ?_
          try simp only [Act.put, List.setIfInBounds_toArray, List.set_cons_zero, List.set_cons_succ]
          refine wpAnyS_take (i := 5) (d := some 65) (v := .pointer (some ⟨g, i * 26, none⟩)) rfl rfl rfl (by kernel_rfl) (by kernel_rfl) (by kernel_rfl) (by kernel_rfl) (fun _ _ _ h => h) (.inl ⟨by rfl, fun W hW => by obtain ⟨q0, q1, q2⟩ := hW; go_simp; try rfl⟩) hSW ?_
          try simp only [Act.put, List.setIfInBounds_toArray, List.set_cons_zero, List.set_cons_succ]
          refine wpAnyS_take (i := 7) (d := some 67) (v := .int .i64 c) rfl rfl rfl (by kernel_rfl) (by kernel_rfl) (by kernel_rfl) (by kernel_rfl) (fun _ _ _ h => h) (.inl ⟨by rfl, fun W hW => by obtain ⟨q0, q1, q2⟩ := hW; go_simp; try rfl⟩) hSW ?_
          try simp only [Act.put, List.setIfInBounds_toArray, List.set_cons_zero, List.set_cons_succ]
          refine wpAnyS_take (i := 9) (d := some 69) rfl rfl rfl (by kernel_rfl) (by kernel_rfl) (by kernel_rfl) (by kernel_rfl) (fun _ _ _ h => h) (.inl ⟨by rfl, fun W hW => by obtain ⟨q0, q1, q2⟩ := hW; go_simp; try rfl⟩) hSW ?_
          try simp only [Act.put, List.setIfInBounds_toArray, List.set_cons_zero, List.set_cons_succ]
          refine wpAnyS_take (i := 10) (d := some 70) (v := .pointer (some ⟨T, 0, none⟩)) rfl rfl rfl (by kernel_rfl) (by kernel_rfl) (by kernel_rfl) (by kernel_rfl) (fun _ _ _ h => h) (.inl ⟨by rfl, fun W hW => by obtain ⟨q0, q1, q2⟩ := hW; go_simp; try rfl⟩) hSW ?_
          try simp only [Act.put, List.setIfInBounds_toArray, List.set_cons_zero, List.set_cons_succ]
          refine wpAnyS_take (i := 11) (d := some 71) (v := .pointer (some ⟨T, 0, none⟩)) rfl rfl rfl (by kernel_rfl) (by kernel_rfl) (by kernel_rfl) (by kernel_rfl) (fun _ _ _ h => h) (.inl ⟨by rfl, fun W hW => by obtain ⟨q0, q1, q2⟩ := hW; go_simp; try rfl⟩) hSW ?_
          try simp only [Act.put, List.setIfInBounds_toArray, List.set_cons_zero, List.set_cons_succ]
          refine wpAnyS_take (i := 12) (d := some 72) (v := .slice t3 r3.length c3) rfl rfl rfl (by kernel_rfl) (by kernel_rfl) (by kernel_rfl) (by kernel_rfl) (fun _ _ _ h => h) (.inl ⟨by rfl, fun W hW => by obtain ⟨q0, q1, q2⟩ := hW; go_simp; try rfl⟩) hSW ?_
          try simp only [Act.put, List.setIfInBounds_toArray, List.set_cons_zero, List.set_cons_succ]
          refine wpAnyS_take (i := 13) (d := some 73) (v := .int .i64 m) rfl rfl rfl (by kernel_rfl) (by kernel_rfl) (by kernel_rfl) (by kernel_rfl) (fun _ _ _ h => h) (.inl ⟨by rfl, fun W hW => by obtain ⟨q0, q1, q2⟩ := hW; go_simp; try rfl⟩) hSW ?_
          try simp only [Act.put, List.setIfInBounds_toArray, List.set_cons_zero, List.set_cons_succ]
          refine wpAnyS_take (i := 14) (d := some 74) (v := .slice a4 m c3) rfl rfl rfl (by kernel_rfl) (by kernel_rfl) (by kernel_rfl) (by kernel_rfl) (fun _ _ _ h => h) (.inl ⟨by rfl, fun W hW => by obtain ⟨q0, q1, q2⟩ := hW; go_simp; try rfl⟩) hSW ?_
          try simp only [Act.put, List.setIfInBounds_toArray, List.set_cons_zero, List.set_cons_succ]
          refine wpAnyS_take (i := 15) (d := some 75) (v := .string ⟨(r3.take m).toArray⟩) rfl rfl rfl (by kernel_rfl) (by kernel_rfl) (by kernel_rfl) (by kernel_rfl) (fun _ _ _ h => h) (.inl ⟨by rfl, fun W hW => by obtain ⟨q0, q1, q2⟩ := hW; have q3 := conv_bytes q2; go_simp; try rfl⟩) hSW ?_
          try simp only [Act.put, List.setIfInBounds_toArray, List.set_cons_zero, List.set_cons_succ]
          refine wpAnyS_call (i := 6) (d := some 66) (f := 98) (args := #[.pointer (some ⟨g, i * 26, none⟩)]) (w' := W2) (by kernel_rfl) rfl rfl (by rfl) (by go_simp; try rfl) ?_
          refine (texts_any g (i * 26) W2).mono ?_
          rintro e w4 ⟨rfl, hb4⟩
          have hS4 : (fun W : World => W.cell? ⟨T, 0, none⟩ = some (.slice t3 r3.length c3) ∧ W.cell? ⟨T, 1, none⟩ = some (.slice (some ⟨g, 0, none⟩) ls.length lc) ∧ SliceIs u8c 1 W (.slice a4 m c3) (r3.take m)) w4 := ⟨(hb4.cell (p := ⟨T, 0, none⟩) (cell_lt hSW.1)).trans hSW.1, (hb4.cell (p := ⟨T, 1, none⟩) (cell_lt hSW.2.1)).trans hSW.2.1, hSW.2.2.below hb4⟩
          have HI4 := Lib.hid (And.intro (HI1.out.1.below hb4) (HI1.out.2.below1 hb4))
          refine ⟨_, rfl, fun _ => hS4, ?_⟩
          try simp only [Act.put, List.setIfInBounds_toArray, List.set_cons_zero, List.set_cons_succ]
          refine wpAnyS_take (i := 8) (d := some 68) (v := .pointer (some ⟨g, i * 26 + offX c, none⟩)) rfl rfl rfl (by kernel_rfl) (by kernel_rfl) (by kernel_rfl) (by kernel_rfl) (fun _ _ _ h => h) (.inl ⟨by rfl, fun W hW => by obtain ⟨q0, q1, q2⟩ := hW; go_simp; try rfl⟩) hS4 ?_
          try simp only [Act.put, List.setIfInBounds_toArray, List.set_cons_zero, List.set_cons_succ]
          refine wpAnyS_take (i := 16) (d := some 76) (v := .pointer (some ⟨g, i * 26 + offX c, none⟩)) rfl rfl rfl (by kernel_rfl) (by kernel_rfl) (by kernel_rfl) (by kernel_rfl) (fun _ _ _ h => h) (.inl ⟨by rfl, fun W hW => by obtain ⟨q0, q1, q2⟩ := hW; go_simp; try rfl⟩) hS4 ?_
          try simp only [Act.put, List.setIfInBounds_toArray, List.set_cons_zero, List.set_cons_succ]
          have hln : ls.length = (mixX c X i ls).length := by unfold mixX; rw [mixG_len]
          have hk4 := HI4.out.1
          have hk5 := hk4
          rw [hln] at hk4
          obtain ⟨u0, hu0⟩ : ∃ u0, x.cells[offX c]? = some u0 := ⟨_, List.getElem?_eq_getElem (by rw [OpD.len]; exact offX_lt c)⟩
          have c4 := hk4.own.cellAt OpD.len (mixG_at _ i HX.out) hu0
          have f4 := hk4.own.free (i * 26 + offX c)
          have hst := hk4.setOp (mixG_at _ i HX.out) (offX_lt c) (setX_cells x c ⟨(r3.take m).toArray⟩)
          have HN1 : Hid (TKS w0 T (w4.setCell ⟨g, i * 26 + offX c, none⟩ (.string ⟨(r3.take m).toArray⟩)) (.slice t3 r3.length c3) r3 (.slice (some ⟨g, 0, none⟩) ls.length lc) (mixX c (X ++ [⟨(r3.take m).toArray⟩]) (i + 1) ls) ∧ Own intc 1 3 w0.heap.size (w4.setCell ⟨g, i * 26 + offX c, none⟩ (.string ⟨(r3.take m).toArray⟩)) (.slice (some ⟨vb, vo, none⟩) ls.length pc) V) := Lib.hid (by
            refine ⟨?_, HI4.out.2.notg HI4.out.1.own (by decide) rfl _ _⟩
            rw [mixX_succ c i (cutX_len HCUT.out).1 HX.out]
            have hq := hst
            rw [← hln] at hq
            exact hq)
          clear hk4 hk5 hst hu0 hln
          refine wpAnyS_mute (i := 17) (d := none) (w' := w4.setCell ⟨g, i * 26 + offX c, none⟩ (.string ⟨(r3.take m).toArray⟩)) (by kernel_rfl) rfl rfl (by rfl) (by go_simp; try rfl) (fun h => by cases h) ?_
          try simp only [Act.put, List.setIfInBounds_toArray, List.set_cons_zero, List.set_cons_succ]
          refine wpAnyS_done (by kernel_rfl) ?_ _
          clear hS4 hSW HI4 HI1 c4 f4 hix hs4
          generalize (w4.setCell ⟨g, i * 26 + offX c, none⟩ (.string ⟨(r3.take m).toArray⟩)) = w5 at HN1 ⊢
          have hc5 := HN1.out.1.cell
          have cT5 : w5.cell? ⟨T, 0, none⟩ = some (.slice t3 r3.length c3) := by simp [World.cell?, hc5]
          have fT5 : w5.frozen? ⟨T, 0, none⟩ = false := by simp [World.frozen?, hc5]
          clear hc5
          have HN : Hid (cutX V (i + 1) (r.drop u) = some (X ++ [⟨(r3.take m).toArray⟩], r3.drop m) ∧ TKS w0 T (w5.setCell ⟨T, 0, none⟩ (.slice a5 (r3.length - m) c5)) (.slice a5 (r3.length - m) c5) (r3.drop m) (.slice (some ⟨g, 0, none⟩) ls.length lc) (mixX c (X ++ [⟨(r3.take m).toArray⟩]) (i + 1) ls) ∧ Own intc 1 3 w0.heap.size (w5.setCell ⟨T, 0, none⟩ (.slice a5 (r3.length - m) c5)) (.slice (some ⟨vb, vo, none⟩) ls.length pc) V) := Lib.hid ⟨cutX_step HCUT.out HY.out hmr, HN1.out.1.setB HBY.out, HN1.out.2.notT HN1.out.1 (by decide) _ _⟩
          clear HN1 HBY HCUT
          go_wp2_with fail
          go_roundg (ls.length - (i + 1))
          case measure => rw [HG2.out]; omega
          case rel => exact ⟨i + 1, _, _, _, rfl, by simp, by omega, HN⟩
      · obtain rfl : i = ls.length := by omega
        have hi1 : ¬ (ls.length : Int) < (ls.length : Int) := by omega
        have HN : Hid (tkX1 ls.length c (ls, r) = some (mixX c X ls.length ls, r3) ∧ TKS w0 T wr tb3 r3 (.slice la ls.length lc) (mixX c X ls.length ls)) := Lib.hid ⟨by unfold tkX1; dsimp only; rw [HDEC.out, Option.bind_some]; dsimp only; rw [HI.out.1]; rfl, HI.out.2.1⟩
        clear HI
        go_wp2_with fail
        go_ret
        exact Or.inl ⟨_, _, _, HN.out.1, rfl, HN.out.2⟩
  · have hS3 : (fun W : World => W.cell? ⟨T, 0, none⟩ = some (.slice ta r.length tcap) ∧ W.cell? ⟨T, 1, none⟩ = some (.slice la ls.length lc)) w3 := ⟨(hb.cell (p := ⟨T, 0, none⟩) (cell_lt hSW.1)).trans hSW.1, (hb.cell (p := ⟨T, 1, none⟩) (cell_lt hSW.2)).trans hSW.2⟩
    have HR3 := Lib.hid (HR1.out.below hb)
    refine ⟨_, rfl, fun _ => hS3, ?_⟩
    try simp only [Act.put, List.setIfInBounds_toArray, List.set_cons_zero, List.set_cons_succ]
    refine wpAnyS_take (i := 10) (d := some 10) (v := .tuple #[.slice none 0 0, .int .i64 0, .int .i64 41]) rfl rfl rfl (by kernel_rfl) (by kernel_rfl) (by kernel_rfl) (by kernel_rfl) (fun _ _ _ h => h) (.inl ⟨by rfl, fun W hW => by obtain ⟨q0, q1⟩ := hW; go_simp; try rfl⟩) hS3 ?_
    try simp only [Act.put, List.setIfInBounds_toArray, List.set_cons_zero, List.set_cons_succ]
    refine wpAnyS_take (i := 11) (d := some 21) (v := .slice none 0 0) rfl rfl rfl (by kernel_rfl) (by kernel_rfl) (by kernel_rfl) (by kernel_rfl) (fun _ _ _ h => h) (.inl ⟨by rfl, fun W hW => by obtain ⟨q0, q1⟩ := hW; go_simp; try rfl⟩) hS3 ?_
    try simp only [Act.put, List.setIfInBounds_toArray, List.set_cons_zero, List.set_cons_succ]
    refine wpAnyS_take (i := 12) (d := some 22) (v := .int .i64 0) rfl rfl rfl (by kernel_rfl) (by kernel_rfl) (by kernel_rfl) (by kernel_rfl) (fun _ _ _ h => h) (.inl ⟨by rfl, fun W hW => by obtain ⟨q0, q1⟩ := hW; go_simp; try rfl⟩) hS3 ?_
    try simp only [Act.put, List.setIfInBounds_toArray, List.set_cons_zero, List.set_cons_succ]
    refine wpAnyS_take (i := 13) (d := some 23) (v := .int .i64 41) rfl rfl rfl (by kernel_rfl) (by kernel_rfl) (by kernel_rfl) (by kernel_rfl) (fun _ _ _ h => h) (.inl ⟨by rfl, fun W hW => by obtain ⟨q0, q1⟩ := hW; go_simp; try rfl⟩) hS3 ?_
    try simp only [Act.put, List.setIfInBounds_toArray, List.set_cons_zero, List.set_cons_succ]
    refine wpAnyS_take (i := 14) (d := some 5) (v := .slice none 0 0) rfl rfl rfl (by kernel_rfl) (by kernel_rfl) (by kernel_rfl) (by kernel_rfl) (fun _ _ _ h => h) (.inl ⟨by rfl, fun W hW => by obtain ⟨q0, q1⟩ := hW; go_simp; try rfl⟩) hS3 ?_
    try simp only [Act.put, List.setIfInBounds_toArray, List.set_cons_zero, List.set_cons_succ]
    refine wpAnyS_take (i := 15) (d := some 6) (v := .int .i64 0) rfl rfl rfl (by kernel_rfl) (by kernel_rfl) (by kernel_rfl) (by kernel_rfl) (fun _ _ _ h => h) (.inl ⟨by rfl, fun W hW => by obtain ⟨q0, q1⟩ := hW; go_simp; try rfl⟩) hS3 ?_
    try simp only [Act.put, List.setIfInBounds_toArray, List.set_cons_zero, List.set_cons_succ]
    refine wpAnyS_ran (i := 16) (d := some 7) (v := .int .i64 41) (w' := w3) (by kernel_rfl) rfl rfl (by rfl) (by go_simp; try rfl) (fun h => by cases h) ?_
    try simp only [Act.put, List.setIfInBounds_toArray, List.set_cons_zero, List.set_cons_succ]
    refine wpAnyS_done (by kernel_rfl) ?_ _
    clear hS3 hSW
    have HBAD : Hid (tkX1 ls.length c (ls, r) = none) := Lib.hid (by unfold tkX1; dsimp only; rw [hdec]; rfl)
    clear hdec
    go_wp2_with fail
    go_ret
    exact Or.inr ⟨HBAD.out, ⟨_, _, rfl⟩, HR3.out.kp⟩
end Go.Proofs.YtgmdimbiipemhaaGreatDoor
namespace Go.Proofs.YtgmdimbiipemhaaGreatDoor
open Go.RowKit Go.Deep
set_option linter.unusedSimpArgs false
set_option linter.unusedVariables false
def rowAt (Ls : Nat → List Int) (o : OpD) (c q : Nat) : List Int := if q < c then Ls q ++ [fld o q] else Ls q
structure RowsIn (R base : Nat) (Ls : Nat → List Int) (A : Nat → Prop) (W : World) : Prop where
  ex : ∃ cs : Array Value, cs.size = 21 ∧ W.heap[R]? = some (.cells cs 100 (0, 0)) ∧ (∀ q, q < 21 → Own intc 1 3 base W (cs.getD q undef) (Ls q)) ∧
    (∀ q r, q < 21 → r < 21 → q ≠ r → ∀ k, (cs.getD q undef).ownBlock = some k → ¬ (cs.getD r undef).ownBlock = some k) ∧ (∀ q, q < 21 → ∀ k, (cs.getD q undef).ownBlock = some k → ¬ A k)
theorem RowsIn.ext {R base : Nat} {Ls : Nat → List Int} {A A' : Nat → Prop} {W W' : World} {S : Nat → Prop} (h : RowsIn R base Ls A W) (hx : Ext S W W') (hR : ¬ S R) (hS : ∀ k, S k → A k ∨ W.heap.size ≤ k) (hA : ∀ k, A' k → A k ∨ W.heap.size ≤ k) : RowsIn R base Ls A' W' := by
  obtain ⟨cs, h1, h2, h3, h4, h5⟩ := h.ex
  have hlt := (Array.getElem?_eq_some_iff.1 h2).1
  refine ⟨cs, h1, (hx.block _ hlt hR).trans h2, fun q hq => (h3 q hq).ext hx (fun k hk e => ?_), h4, fun q hq k hk ha => ?_⟩
  · rcases hS k e with e | e
    · exact h5 q hq k hk e
    · have := ((h3 q hq).blk k hk).2; omega
  · rcases hA k ha with e | e
    · exact h5 q hq k hk e
    · have := ((h3 q hq).blk k hk).2; omega
def JE (R Br Bc base : Nat) (Ls : Nat → List Int) (o : OpD) (c : Nat) (A : Nat → Prop) (W : World) : Prop :=
  RowsIn R base (rowAt Ls o c) A W ∧ W.heap[Br]? = some (.cells #[.slice (some ⟨R, 0, none⟩) 21 21] 161 (0, 0)) ∧ W.heap[Bc]? = some (.cells #[.int .i64 c] 3 (0, 0)) ∧
  (¬ A R ∧ ¬ A Br ∧ ¬ A Bc) ∧ (R ≠ Br ∧ R ≠ Bc ∧ Br ≠ Bc ∧ R < base ∧ Br < base ∧ Bc < W.heap.size) ∧ base ≤ W.heap.size ∧ (∀ k, A k → k < W.heap.size) ∧ (∀ cs, W.heap[R]? = some (.cells cs 100 (0, 0)) → ∀ q, q < 21 → ¬ (cs.getD q undef).ownBlock = some Bc)
theorem JE.jok (R Br Bc base b : Nat) (Ls : Nat → List Int) (o : OpD) : JOK b (JE R Br Bc base Ls o) := by
  rintro c A A' W W' ⟨h1, h2, h3, ⟨h4, h5, h6⟩, h7, h8, h9, h10⟩ hx hA hb
  have l1 := (Array.getElem?_eq_some_iff.1 h2).1
  have l2 := (Array.getElem?_eq_some_iff.1 h3).1
  obtain ⟨cs0, _, hR0, _⟩ := h1.ex
  have l0 := (Array.getElem?_eq_some_iff.1 hR0).1
  have hs := hx.size
  have nb : ∀ {x : Nat}, ¬ A x → ¬ x = b := fun h e => h (by rw [e]; exact hb)
  have nA : ∀ {x : Nat}, ¬ A x → x < W.heap.size → ¬ A' x := fun h hl ha => (hA _ ha).elim h (fun e => by omega)
  refine ⟨h1.ext hx (nb h4) (fun k e => .inl (by rw [e]; exact hb)) (fun k ha => (hA k ha).imp id (fun e => e.1)), (hx.block _ l1 (nb h5)).trans h2, (hx.block _ l2 (nb h6)).trans h3, ⟨nA h4 l0, nA h5 l1, nA h6 l2⟩, ⟨h7.1, h7.2.1, h7.2.2.1, h7.2.2.2.1, h7.2.2.2.2.1, by omega⟩, by omega, fun k hk => (hA k hk).elim (fun e => by have := h9 k e; omega) (fun e => e.2), fun cs hcs => h10 cs ((hx.block _ l0 (nb h4)).symm.trans hcs)⟩
end Go.Proofs.YtgmdimbiipemhaaGreatDoor
namespace Go.Proofs.YtgmdimbiipemhaaGreatDoor
open Go.RowKit
set_option linter.unusedSimpArgs false
set_option linter.unusedVariables false
end Go.Proofs.YtgmdimbiipemhaaGreatDoor
namespace Go.Proofs.YtgmdimbiipemhaaGreatDoor
open Go.RowKit
set_option linter.unusedSimpArgs false
set_option linter.unusedVariables false
section
variable {P : Program} {l n : Nat} {ops : Array Oper} {Q : Exit → Act → World → Prop}
end
end Go.Proofs.YtgmdimbiipemhaaGreatDoor
namespace Go.Proofs.YtgmdimbiipemhaaGreatDoor
set_option linter.unusedSimpArgs false
set_option linter.unusedVariables false
section
variable {α : Type} [DecidableEq α]
end
end Go.Proofs.YtgmdimbiipemhaaGreatDoor
namespace Go.Proofs.YtgmdimbiipemhaaGreatDoor
open Go.RowKit Go.Deep
set_option linter.unusedSimpArgs false
set_option linter.unusedVariables false
attribute [local go_sem] Oper.semAt_some
end Go.Proofs.YtgmdimbiipemhaaGreatDoor
namespace Go.Proofs.YtgmdimbiipemhaaGreatDoor
open Go.RowKit
set_option linter.unusedSimpArgs false
set_option linter.unusedVariables false
attribute [local go_sem] Oper.semAt_some
end Go.Proofs.YtgmdimbiipemhaaGreatDoor
