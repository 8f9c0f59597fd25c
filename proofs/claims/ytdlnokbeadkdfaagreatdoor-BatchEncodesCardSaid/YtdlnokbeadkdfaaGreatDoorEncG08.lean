/- batch.ints: a contract, whatever function uses the places. batch.columns: a contract. batch.truths, batch.texts: contracts. batch.Encode's rows of numbers: what its inner function keeps. batch.Encode: a contract. -/
import Derived.Test.YtdlnokbeadkdfaaGreatDoorIntsP08
import Derived.Test.YtdlnokbeadkdfaaGreatDoorHeldT
import Derived.Deep.LoopGhost
import Derived.Deep.QuietTactic
import Derived.Deep.CutBlock
import Derived.Deep.DeepCutAuto
import Derived.IntWalk
import Derived.Outline
import Derived.OneCell
import Derived.Test.YtdlnokbeadkdfaaGreatDoorAppNew
import Derived.Test.YtdlnokbeadkdfaaGreatDoorRowIn
import Derived.Test.YtdlnokbeadkdfaaGreatDoorTkP08
import Derived.Test.YtdlnokbeadkdfaaGreatDoorEncP08
import Derived.Test.YtdlnokbeadkdfaaGreatDoorORight08
import Derived.Test.YtdlnokbeadkdfaaGreatDoorCDelt08
import Derived.Test.YtdlnokbeadkdfaaGreatDoorCBools08
import Derived.Test.YtdlnokbeadkdfaaGreatDoorCRuns08
import Derived.Lib.AppendStr
namespace Go.Proofs.YtdlnokbeadkdfaaGreatDoor
open Go.RowKit Go.Deep
set_option linter.unusedSimpArgs false
set_option linter.unusedVariables false

/-- Behind c uses. -/
def IS (b off : Nat) (o : OpD) (f : Nat → Int) (J : Nat → (Nat → Prop) → World → Prop) (A : Nat → Prop) (w : World) (c : Nat) (A' : Nat → Prop) (W : World) : Prop := J c A' W ∧ At b off o (stg f o c) W ∧ Ext (fun k => ¬ A k ∨ k = b) w W ∧ Rst b off w W
section
variable {P : Program} {gf : Nat} {lb : Array Value} {b off : Nat} {o : OpD} {f : Nat → Int} {J : Nat → (Nat → Prop) → World → Prop} {A A' : Nat → Prop} {w W : World} {c : Nat}
theorem IS.use (hU : UseOK P gf lb f (fld o) J) (hAb : A b) (hAA : ∀ k, A k → A' k) (h : IS b off o f J A w c A' W) (hc : c < 21) (h1 : c ≠ 10) (h2 : c ≠ 13) :
    Calls P gf (#[.pointer (some ⟨b, off + offC c, none⟩), .bool (dlt c)] ++ lb) W fun e W' => (∃ v, e = .returned v) ∧ IS b off o f J A w (c + 1) A' W' ∧ Ext (fun k => ¬ A' k ∨ k = b) W W' := by
  have hn := h.2.1.num c hc
  rw [stg_at] at hn
  have hf := h.2.1.free (offC c) (offC_lt hc)
  refine (hU c A' W b (off + offC c) hc h.1 hn hf (hAA b hAb)).mono ?_
  rintro e W' ⟨hv, hJ, hp, hq, hfz, hx, hsh⟩
  refine ⟨hv, ⟨hJ, ?_, h.2.2.1.andThen hx (fun i hi e => e.elim (fun e => .inl (fun ha => e (hAA i ha))) .inr), h.2.2.2.trans (Rst.of_shp hsh hq (by omega) (by have := offC_lt hc; omega))⟩, hx⟩
  have := h.2.1.put hc hp hq hfz
  rwa [stg_step f o h1 h2] at this
/-- A place of its own is used. -/
theorem IS.box {k : Nat} (hU : UseOK P gf lb f (fld o) J) (h : IS b off o f J A w c A' W) (hc : c = 10 ∨ c = 13) (hk : W.cell? ⟨k, 0, none⟩ = some (.int .i64 (fld o c))) (hf : W.frozen? ⟨k, 0, none⟩ = false) (hn : w.heap.size ≤ k) (hCk : A' k) (hb : b < w.heap.size) (hAb : A b) (hAA : ∀ k, A k → A' k) :
    Calls P gf (#[.pointer (some ⟨k, 0, none⟩), .bool (dlt c)] ++ lb) W fun e W' => (∃ v, e = .returned v) ∧ IS b off o f J A w (c + 1) A' W' ∧ W'.cell? ⟨k, 0, none⟩ = some (.int .i64 (f c)) ∧ W'.frozen? ⟨k, 0, none⟩ = false ∧ Ext (fun i => ¬ A' i ∨ i = k) W W' := by
  refine (hU c A' W k 0 (by omega) h.1 hk hf hCk).mono ?_
  rintro e W' ⟨hv, hJ, hp, hq, hfz, hx, hsh⟩
  refine ⟨hv, ⟨hJ, ?_, h.2.2.1.andThen hx (fun i hi e => e.elim (fun e => .inl (fun ha => e (hAA i ha))) (fun e => by omega)), h.2.2.2.trans (Rst.same (hx.block b h.2.1.lt (fun e => e.elim (fun e => e (hAA b hAb)) (fun e => by omega))))⟩, hp, (hfz 0).trans hf, hx⟩
  have := h.2.1.ext hx (fun e => e.elim (fun e => e (hAA b hAb)) (fun e => by omega))
  rwa [stg_skip f o hc] at this
theorem IS.step {W' : World} {A'' : Nat → Prop} (h : IS b off o f J A w c A' W) (hJ : JOK b J) (hb : A' b) (hA : ∀ k, A'' k → A' k ∨ (W.heap.size ≤ k ∧ k < W'.heap.size)) (hx : Ext (fun _ => False) W W') : IS b off o f J A w c A'' W' :=
  ⟨hJ _ _ _ _ _ h.1 (hx.mono (fun _ _ e => e.elim)) hA hb, h.2.1.ext hx id, h.2.2.1.andThen hx (fun i hi e => e.elim), h.2.2.2.trans (Rst.same (hx.block b h.2.1.lt id))⟩
end
def KF (b off : Nat) (o : OpD) (f : Nat → Int) (J : Nat → (Nat → Prop) → World → Prop) (A : Nat → Prop) (w : World) (k5 k6 c : Nat) (x5 x6 : Int) (A' : Nat → Prop) (W : World) : Prop := IS b off o f J A w c A' W ∧ W.cell? ⟨k5, 0, none⟩ = some (.int .i64 x5) ∧ W.frozen? ⟨k5, 0, none⟩ = false ∧ W.cell? ⟨k6, 0, none⟩ = some (.int .i64 x6) ∧ W.frozen? ⟨k6, 0, none⟩ = false
section
variable {b off : Nat} {o : OpD} {f : Nat → Int} {J : Nat → (Nat → Prop) → World → Prop} {A A' A'' : Nat → Prop} {w W W' : World} {k5 k6 c c' : Nat} {x5 x6 : Int} {S : Nat → Prop}
theorem KF.ext (h : KF b off o f J A w k5 k6 c x5 x6 A' W) (hi : IS b off o f J A w c' A'' W') (hx : Ext S W W') (h5 : ¬ S k5) (h6 : ¬ S k6) : KF b off o f J A w k5 k6 c' x5 x6 A'' W' :=
  ⟨hi, hx.keep h.2.1 h5, (hx.frozen (p := ⟨k5, 0, none⟩) (cell_lt h.2.1) h5).trans h.2.2.1, hx.keep h.2.2.2.1 h6, (hx.frozen (p := ⟨k6, 0, none⟩) (cell_lt h.2.2.2.1) h6).trans h.2.2.2.2⟩
theorem KF.step (h : KF b off o f J A w k5 k6 c x5 x6 A' W) (hJ : JOK b J) (hb : A' b) (hA : ∀ k, A'' k → A' k ∨ (W.heap.size ≤ k ∧ k < W'.heap.size)) (hx : Ext (fun _ => False) W W') : KF b off o f J A w k5 k6 c x5 x6 A'' W' :=
  h.ext (h.1.step hJ hb hA hx) hx id id
end
theorem cell_setCell_same8 {W : World} {b q : Nat} {v u : Value} (h : W.cell? ⟨b, q, none⟩ = some u) : (W.setCell ⟨b, q, none⟩ v).cell? ⟨b, q, none⟩ = some v := by
  go_simp
theorem cell_setCell_ne8 {W : World} {b q p : Nat} {v : Value} (h : p ≠ q) : (W.setCell ⟨b, q, none⟩ v).cell? ⟨b, p, none⟩ = W.cell? ⟨b, p, none⟩ := by
  go_simp
theorem At.num_eq {b off : Nat} {o : OpD} {g : Nat → Int} {W : World} (h : At b off o g W) (g' : Nat → Int) (he : ∀ c, c < 21 → g c = g' c) : At b off o g' W :=
  { h with num := fun c hc => by rw [← he c hc]; exact h.num c hc }
theorem stg_end (f : Nat → Int) (o : OpD) : ∀ c, c < 21 → (fun d => if d = 13 then f 13 else (fun d => if d = 10 then f 10 else stg f o 21 d) d) c = f c := by
  intro c hc
  dsimp only
  by_cases h1 : c = 13
  · rw [if_pos h1, h1]
  · rw [if_neg h1]
    by_cases h2 : c = 10
    · rw [if_pos h2, h2]
    · rw [if_neg h2]
      unfold stg
      rw [if_pos ⟨hc, h2, h1⟩]
theorem wpAnyS_any {P : Program} {ops : Array Oper} {Q : Exit → Act → World → Prop} {md : Region.Mode} {S : World → Prop} {Z : Nat → Bool} {rs : List Nat} {fuel : Nat} {listed : Array Bool} {a : Act} {w : World} (hr : Region.ready md ops listed = rs) (hne : rs ≠ [])
    (h : ∀ i ∈ rs, wpOp P ops Q i (fun a' w' => (Z i = false → S w') ∧ wpAnyS P md ops Q S Z fuel (listed.setIfInBounds i true) a' w') a w) : wpAnyS P md ops Q S Z (fuel + 1) listed a w :=
  ⟨fun h0 => absurd (hr.symm.trans h0) hne, fun j hj => by rw [hr] at hj; exact h j hj⟩
theorem wpOp_ran {P : Program} {ops : Array Oper} {Q : Exit → Act → World → Prop} {i : Nat} {o : Oper} {d : Option Tmp} {v : Value} {K : Act → World → Prop} {a : Act} {w w' : World} (ho : ops[i]? = some o) (hd : o.dst = d) (hw : Region.wanted o (yielded ops a.tmps) = true)
    (hv : (execOp a.eval o).run P w = .ok (.value v) w') (h : K (a.put d v) w') : wpOp P ops Q i K a w := by
  subst hd
  exact wpOp_step ho fun K' hK => by
    rw [if_pos hw, Oper.wp, hv]
    exact hK _ _ h

set_option maxRecDepth 20000 in
set_option maxHeartbeats 1000000 in
theorem ints_any {gf : Nat} {lb : Array Value} (hen : ∀ args w, (callFunc gf args).run Tryz.prog w = .ok (.enter gf args) w) (b off : Nat) (o : OpD) (f : Nat → Int) (J : Nat → (Nat → Prop) → World → Prop) (A : Nat → Prop) (w : World) (hU : UseOK Tryz.prog gf lb f (fld o) J)
    (hJ : JOK b J) (hAb : A b) (hA : At b off o (fld o) w) (h0 : J 0 A w) :
    Calls Tryz.prog 17 #[.pointer (some ⟨b, off, none⟩), .func (.func gf) #[] lb] w fun e w' => (∃ v, e = .returned v) ∧ J 21 A w' ∧ At b off o f w' ∧ Ext (fun k => ¬ A k ∨ k = b) w w' ∧ Rst b off w w' := by
  have hbw := hA.lt
  have HU := Lib.hid hU
  have HJ := Lib.hid hJ
  have hid8 : ∀ k, A k → A k := fun k h => h
  have HS : Hid (IS b off o f J A w 0 A w) := Lib.hid ⟨h0, by rw [stg_zero]; exact hA, Ext.refl _ _, Rst.refl _ _ _⟩
  clear hU hJ hA h0
  go_enter Tryz.func17, Tryz.ntmps17
  go_wp2_with fail
  refine (IS.use HU.out hAb hid8 HS.out (by omega) (by omega) (by omega)).mono ?_
  rintro e w1 ⟨⟨v1, rfl⟩, h1, -⟩
  have HS1 := Lib.hid h1
  clear h1 HS
  go_wp2_with fail
  refine (IS.use HU.out hAb hid8 HS1.out (by omega) (by omega) (by omega)).mono ?_
  rintro e w2 ⟨⟨v2, rfl⟩, h2, -⟩
  have HS2 := Lib.hid h2
  clear h2 HS1
  go_wp2_with fail
  go_loopg [21] 8 (fun g kv wx => ∃ k : Nat, g = 8 - k ∧ kv = .int .i64 k ∧ k ≤ 8 ∧ Hid (IS b off o f J A w (2 + k) A wx))
  case atStart => exact ⟨0, rfl, rfl, by omega, HS2⟩
  case round =>
    clear HS2
    obtain ⟨k, hg, rfl, hk, HS⟩ := hrel
    have HG := Lib.hid hg
    clear hg
    by_cases hlt : k < 8
    · have hk1 : (k : Int) < 8 := by omega
      have hc := IS.use HU.out hAb hid8 HS.out (c := 2 + k) (by omega) (by omega) (by omega)
      rw [show off + offC (2 + k) = off + 2 + k by unfold offC; rw [if_pos (by omega)]; omega, show dlt (2 + k) = true by unfold dlt; simp; omega] at hc
      have HC := Lib.hid hc
      clear hc
      go_wp2_with fail
      refine HC.out.mono ?_
      rintro e w3 ⟨⟨v3, rfl⟩, h3, -⟩
      have HS3 := Lib.hid h3
      clear h3 HC HS
      go_wp2_with fail
      go_roundg (8 - (k + 1))
      case measure => rw [HG.out]; omega
      case rel => exact ⟨k + 1, rfl, by simp, by omega, HS3⟩
    · obtain rfl : k = 8 := by omega
      have hk1 : ¬ (8 : Int) < 8 := by omega
      have HS10 : Hid (IS b off o f J A w 10 A wr) := HS
      clear hlt HS hk
      go_upto_region 7 with fail
      go_cut [5, 6] (fun pv qv wx => ∃ k5 k6 : Nat, pv = .pointer (some ⟨k5, 0, none⟩) ∧ qv = .pointer (some ⟨k6, 0, none⟩) ∧ w.heap.size ≤ k5 ∧ w.heap.size ≤ k6 ∧ k5 ≠ k6 ∧ Hid (IS b off o f J A w 10 (fun k => A k ∨ k = k5 ∨ k = k6) wx ∧ wx.cell? ⟨k5, 0, none⟩ = some (.int .i64 (fld o 10)) ∧ wx.frozen? ⟨k5, 0, none⟩ = false ∧ wx.cell? ⟨k6, 0, none⟩ = some (.int .i64 (fld o 13)) ∧ wx.frozen? ⟨k6, 0, none⟩ = false))
      case first => as_aux_lemma =>
        have hS0 : (fun W : World => W.cell? ⟨b, off + 10, none⟩ = some (.int .i64 (fld o 10)) ∧ W.cell? ⟨b, off + 13, none⟩ = some (.int .i64 (fld o 13))) wr.drew := ⟨by have := HS10.out.2.1.num 10 (by omega); exact this, by have := HS10.out.2.1.num 13 (by omega); exact this⟩
        have HS1 : Hid (IS b off o f J A w 10 A wr.drew) := Lib.hid (HS10.out.step HJ.out hAb (fun k h => .inl h) (Ext.refl _ _).drew)
        clear HS10
        refine wp_region_s (fun W : World => W.cell? ⟨b, off + 10, none⟩ = some (.int .i64 (fld o 10)) ∧ W.cell? ⟨b, off + 13, none⟩ = some (.int .i64 (fld o 13))) (fun _ => false) (by kernel_rfl) ?_
        generalize wr.drew = W1 at hS0 HS1 ⊢
        have hsz := HS1.out.2.2.1.size
        refine wpAnyS_take (i := 0) (d := some 32) rfl rfl rfl (by kernel_rfl) (by kernel_rfl) (by kernel_rfl) (by kernel_rfl) (fun _ _ _ h => h) (.inl ⟨by rfl, fun W hW => by obtain ⟨q0, q1⟩ := hW; go_simp; try rfl⟩) hS0 ?_
        try simp only [Act.put, List.setIfInBounds_toArray, List.set_cons_zero, List.set_cons_succ]
        refine wpAnyS_take (i := 1) (d := some 33) (v := .pointer (some ⟨b, off, none⟩)) rfl rfl rfl (by kernel_rfl) (by kernel_rfl) (by kernel_rfl) (by kernel_rfl) (fun _ _ _ h => h) (.inl ⟨by rfl, fun W hW => by obtain ⟨q0, q1⟩ := hW; go_simp; try rfl⟩) hS0 ?_
        try simp only [Act.put, List.setIfInBounds_toArray, List.set_cons_zero, List.set_cons_succ]
        refine wpAnyS_take (i := 2) (d := some 34) (v := .pointer (some ⟨b, off + 10, none⟩)) rfl rfl rfl (by kernel_rfl) (by kernel_rfl) (by kernel_rfl) (by kernel_rfl) (fun _ _ _ h => h) (.inl ⟨by rfl, fun W hW => by obtain ⟨q0, q1⟩ := hW; go_simp; try rfl⟩) hS0 ?_
        try simp only [Act.put, List.setIfInBounds_toArray, List.set_cons_zero, List.set_cons_succ]
        refine wpAnyS_take (i := 3) (d := some 35) (v := .int .i64 (fld o 10)) rfl rfl rfl (by kernel_rfl) (by kernel_rfl) (by kernel_rfl) (by kernel_rfl) (fun _ _ _ h => h) (.inl ⟨by rfl, fun W hW => by obtain ⟨q0, q1⟩ := hW; go_simp; try rfl⟩) hS0 ?_
        try simp only [Act.put, List.setIfInBounds_toArray, List.set_cons_zero, List.set_cons_succ]
        refine wpAnyS_take (i := 4) (d := some 36) rfl rfl rfl (by kernel_rfl) (by kernel_rfl) (by kernel_rfl) (by kernel_rfl) (fun _ _ _ h => h) (.inl ⟨by rfl, fun W hW => by obtain ⟨q0, q1⟩ := hW; go_simp; try rfl⟩) hS0 ?_
        try simp only [Act.put, List.setIfInBounds_toArray, List.set_cons_zero, List.set_cons_succ]
        refine wpAnyS_take (i := 5) (d := some 37) (v := .pointer (some ⟨b, off, none⟩)) rfl rfl rfl (by kernel_rfl) (by kernel_rfl) (by kernel_rfl) (by kernel_rfl) (fun _ _ _ h => h) (.inl ⟨by rfl, fun W hW => by obtain ⟨q0, q1⟩ := hW; go_simp; try rfl⟩) hS0 ?_
        try simp only [Act.put, List.setIfInBounds_toArray, List.set_cons_zero, List.set_cons_succ]
        refine wpAnyS_take (i := 6) (d := some 38) (v := .pointer (some ⟨b, off + 13, none⟩)) rfl rfl rfl (by kernel_rfl) (by kernel_rfl) (by kernel_rfl) (by kernel_rfl) (fun _ _ _ h => h) (.inl ⟨by rfl, fun W hW => by obtain ⟨q0, q1⟩ := hW; go_simp; try rfl⟩) hS0 ?_
        try simp only [Act.put, List.setIfInBounds_toArray, List.set_cons_zero, List.set_cons_succ]
        refine wpAnyS_take (i := 7) (d := some 39) (v := .int .i64 (fld o 13)) rfl rfl rfl (by kernel_rfl) (by kernel_rfl) (by kernel_rfl) (by kernel_rfl) (fun _ _ _ h => h) (.inl ⟨by rfl, fun W hW => by obtain ⟨q0, q1⟩ := hW; go_simp; try rfl⟩) hS0 ?_
        try simp only [Act.put, List.setIfInBounds_toArray, List.set_cons_zero, List.set_cons_succ]
        refine wpAnyS_any (rs := [8, 9]) (by kernel_rfl) (by simp) (fun i hi => ?_)
        simp only [List.mem_cons, List.not_mem_nil, or_false] at hi
        rcases hi with rfl | rfl
        · refine wpOp_ran (d := some 5) (v := .pointer (some ⟨W1.heap.size, 0, none⟩)) (w' := (W1.alloc (.cells #[.int .i64 0] 3))) rfl rfl (by rfl) (by go_simp; try rfl) ⟨fun _ => ⟨cell_alloc hS0.1 _, cell_alloc hS0.2 _⟩, ?_⟩
          try simp only [Act.put, List.setIfInBounds_toArray, List.set_cons_zero, List.set_cons_succ]
          refine wpAnyS_ran (i := 9) (d := some 6) (v := .pointer (some ⟨W1.heap.size + 1, 0, none⟩)) (w' := ((W1.alloc (.cells #[.int .i64 0] 3)).alloc (.cells #[.int .i64 0] 3))) (by kernel_rfl) rfl rfl (by rfl) (by go_simp; try rfl) (fun _ => ⟨cell_alloc (cell_alloc hS0.1 _) _, cell_alloc (cell_alloc hS0.2 _) _⟩) ?_
          try simp only [Act.put, List.setIfInBounds_toArray, List.set_cons_zero, List.set_cons_succ]
          have hS3 : (fun W : World => W.cell? ⟨b, off + 10, none⟩ = some (.int .i64 (fld o 10)) ∧ W.cell? ⟨b, off + 13, none⟩ = some (.int .i64 (fld o 13))) ((W1.alloc (.cells #[.int .i64 0] 3)).alloc (.cells #[.int .i64 0] 3)) := ⟨cell_alloc (cell_alloc hS0.1 _) _, cell_alloc (cell_alloc hS0.2 _) _⟩
          have HS3 : Hid (Ext (fun _ => False) W1 ((W1.alloc (.cells #[.int .i64 0] 3)).alloc (.cells #[.int .i64 0] 3))) := Lib.hid (((Ext.refl _ _).alloc _).alloc _)
          have z3 : ((W1.alloc (.cells #[.int .i64 0] 3)).alloc (.cells #[.int .i64 0] 3)).heap.size = W1.heap.size + 2 := by simp
          have e1 : ((W1.alloc (.cells #[.int .i64 0] 3)).alloc (.cells #[.int .i64 0] 3)).heap[W1.heap.size]? = some (.cells #[.int .i64 0] 3 (0, 0)) := (Below.heap_alloc _ _ _ (by simp)).trans (heap_new8 W1 _)
          have e2 : ((W1.alloc (.cells #[.int .i64 0] 3)).alloc (.cells #[.int .i64 0] 3)).heap[W1.heap.size + 1]? = some (.cells #[.int .i64 0] 3 (0, 0)) := by have := heap_new8 (W1.alloc (.cells #[.int .i64 0] 3)) (.cells #[.int .i64 0] 3); rwa [World.size_alloc] at this
          generalize ((W1.alloc (.cells #[.int .i64 0] 3)).alloc (.cells #[.int .i64 0] 3)) = W3 at hS3 HS3 z3 e1 e2 ⊢
          clear hS0
          have hb1 : b < W1.heap.size := by omega
          obtain ⟨k1, hk1⟩ : ∃ k1, k1 = W1.heap.size := ⟨_, rfl⟩
          have HK1 := Lib.hid hk1
          rw [← hk1] at e1 e2 z3 hb1 hsz ⊢
          clear hk1
          have c5 := cell_of_one e1
          have f5 := free_of_one e1
          have x5 : Ext (· = k1) W3 (W3.setCell ⟨k1, 0, none⟩ (.int .i64 (fld o 10))) := (Ext.refl (· = k1) W3).setCell (p := ⟨k1, 0, none⟩) (.inr rfl) _
          have hS4 : (fun W : World => W.cell? ⟨b, off + 10, none⟩ = some (.int .i64 (fld o 10)) ∧ W.cell? ⟨b, off + 13, none⟩ = some (.int .i64 (fld o 13))) (W3.setCell ⟨k1, 0, none⟩ (.int .i64 (fld o 10))) := ⟨x5.keep hS3.1 (by omega), x5.keep hS3.2 (by omega)⟩
          refine wpAnyS_mute (i := 10) (d := none) (w' := W3.setCell ⟨k1, 0, none⟩ (.int .i64 (fld o 10))) (by kernel_rfl) rfl rfl (by rfl) (by go_simp; try rfl) (fun _ => hS4) ?_
          try simp only [Act.put, List.setIfInBounds_toArray, List.set_cons_zero, List.set_cons_succ]
          have HS4 : Hid (Ext (fun _ => False) W1 (W3.setCell ⟨k1, 0, none⟩ (.int .i64 (fld o 10)))) := Lib.hid (HS3.out.setCell (p := ⟨k1, 0, none⟩) (.inl (by have := HK1.out; show W1.heap.size ≤ k1; omega)) _)
          have g5 := one_setCell (u := .int .i64 (fld o 10)) e1
          have g6 : (W3.setCell ⟨k1, 0, none⟩ (.int .i64 (fld o 10))).heap[k1 + 1]? = some (.cells #[.int .i64 0] 3 (0, 0)) := (x5.block _ (by omega) (by omega)).trans e2
          have z4 : (W3.setCell ⟨k1, 0, none⟩ (.int .i64 (fld o 10))).heap.size = W3.heap.size := World.size_setCell _ _ _
          generalize W3.setCell ⟨k1, 0, none⟩ (.int .i64 (fld o 10)) = W4 at hS4 HS4 g5 g6 z4 ⊢
          clear hS3 HS3 e1 e2 c5 f5 x5
          have c6 := cell_of_one g6
          have f6 := free_of_one g6
          have x6 : Ext (· = k1 + 1) W4 (W4.setCell ⟨k1 + 1, 0, none⟩ (.int .i64 (fld o 13))) := (Ext.refl (· = k1 + 1) W4).setCell (p := ⟨k1 + 1, 0, none⟩) (.inr rfl) _
          have hS5 : (fun W : World => W.cell? ⟨b, off + 10, none⟩ = some (.int .i64 (fld o 10)) ∧ W.cell? ⟨b, off + 13, none⟩ = some (.int .i64 (fld o 13))) (W4.setCell ⟨k1 + 1, 0, none⟩ (.int .i64 (fld o 13))) := ⟨x6.keep hS4.1 (by omega), x6.keep hS4.2 (by omega)⟩
          refine wpAnyS_mute (i := 11) (d := none) (w' := W4.setCell ⟨k1 + 1, 0, none⟩ (.int .i64 (fld o 13))) (by kernel_rfl) rfl rfl (by rfl) (by go_simp; try rfl) (fun _ => hS5) ?_
          try simp only [Act.put, List.setIfInBounds_toArray, List.set_cons_zero, List.set_cons_succ]
          refine wpAnyS_done (by kernel_rfl) ?_ _
          have HS5 : Hid (IS b off o f J A w 10 (fun k => A k ∨ k = k1 ∨ k = k1 + 1) (W4.setCell ⟨k1 + 1, 0, none⟩ (.int .i64 (fld o 13)))) := Lib.hid (HS1.out.step HJ.out hAb (fun k h => h.elim .inl (fun e => .inr (by have h1 := HK1.out; have h2 := World.size_setCell W4 ⟨k1 + 1, 0, none⟩ (.int .i64 (fld o 13)); constructor <;> omega))) (HS4.out.setCell (p := ⟨k1 + 1, 0, none⟩) (.inl (by have := HK1.out; show W1.heap.size ≤ k1 + 1; omega)) _))
          have g7 := one_setCell (u := .int .i64 (fld o 13)) g6
          have g8 : (W4.setCell ⟨k1 + 1, 0, none⟩ (.int .i64 (fld o 13))).heap[k1]? = some (.cells #[.int .i64 (fld o 10)] 3 (0, 0)) := (x6.block _ (by have := (Array.getElem?_eq_some_iff.1 g5).1; omega) (by omega)).trans g5
          have HFIN : Hid (IS b off o f J A w 10 (fun k => A k ∨ k = k1 ∨ k = k1 + 1) (W4.setCell ⟨k1 + 1, 0, none⟩ (.int .i64 (fld o 13))) ∧ _ ∧ _ ∧ _ ∧ _) := Lib.hid ⟨HS5.out, cell_of_one g8, free_of_one g8, cell_of_one g7, free_of_one g7⟩
          clear hS4 hS5 HS4 HS5 g5 g6 g7 g8 c6 f6 x6
          go_wp2_with fail
          go_meet
          case rel => exact ⟨k1, k1 + 1, rfl, rfl, by omega, by omega, by omega, HFIN⟩
        · refine wpOp_ran (d := some 6) (v := .pointer (some ⟨W1.heap.size, 0, none⟩)) (w' := (W1.alloc (.cells #[.int .i64 0] 3))) rfl rfl (by rfl) (by go_simp; try rfl) ⟨fun _ => ⟨cell_alloc hS0.1 _, cell_alloc hS0.2 _⟩, ?_⟩
          try simp only [Act.put, List.setIfInBounds_toArray, List.set_cons_zero, List.set_cons_succ]
          refine wpAnyS_ran (i := 8) (d := some 5) (v := .pointer (some ⟨W1.heap.size + 1, 0, none⟩)) (w' := ((W1.alloc (.cells #[.int .i64 0] 3)).alloc (.cells #[.int .i64 0] 3))) (by kernel_rfl) rfl rfl (by rfl) (by go_simp; try rfl) (fun _ => ⟨cell_alloc (cell_alloc hS0.1 _) _, cell_alloc (cell_alloc hS0.2 _) _⟩) ?_
          try simp only [Act.put, List.setIfInBounds_toArray, List.set_cons_zero, List.set_cons_succ]
          have hS3 : (fun W : World => W.cell? ⟨b, off + 10, none⟩ = some (.int .i64 (fld o 10)) ∧ W.cell? ⟨b, off + 13, none⟩ = some (.int .i64 (fld o 13))) ((W1.alloc (.cells #[.int .i64 0] 3)).alloc (.cells #[.int .i64 0] 3)) := ⟨cell_alloc (cell_alloc hS0.1 _) _, cell_alloc (cell_alloc hS0.2 _) _⟩
          have HS3 : Hid (Ext (fun _ => False) W1 ((W1.alloc (.cells #[.int .i64 0] 3)).alloc (.cells #[.int .i64 0] 3))) := Lib.hid (((Ext.refl _ _).alloc _).alloc _)
          have z3 : ((W1.alloc (.cells #[.int .i64 0] 3)).alloc (.cells #[.int .i64 0] 3)).heap.size = W1.heap.size + 2 := by simp
          have e1 : ((W1.alloc (.cells #[.int .i64 0] 3)).alloc (.cells #[.int .i64 0] 3)).heap[W1.heap.size]? = some (.cells #[.int .i64 0] 3 (0, 0)) := (Below.heap_alloc _ _ _ (by simp)).trans (heap_new8 W1 _)
          have e2 : ((W1.alloc (.cells #[.int .i64 0] 3)).alloc (.cells #[.int .i64 0] 3)).heap[W1.heap.size + 1]? = some (.cells #[.int .i64 0] 3 (0, 0)) := by have := heap_new8 (W1.alloc (.cells #[.int .i64 0] 3)) (.cells #[.int .i64 0] 3); rwa [World.size_alloc] at this
          generalize ((W1.alloc (.cells #[.int .i64 0] 3)).alloc (.cells #[.int .i64 0] 3)) = W3 at hS3 HS3 z3 e1 e2 ⊢
          clear hS0
          have hb1 : b < W1.heap.size := by omega
          obtain ⟨k1, hk1⟩ : ∃ k1, k1 = W1.heap.size := ⟨_, rfl⟩
          have HK1 := Lib.hid hk1
          rw [← hk1] at e1 e2 z3 hb1 hsz ⊢
          clear hk1
          have c5 := cell_of_one e2
          have f5 := free_of_one e2
          have x5 : Ext (· = k1 + 1) W3 (W3.setCell ⟨k1 + 1, 0, none⟩ (.int .i64 (fld o 10))) := (Ext.refl (· = k1 + 1) W3).setCell (p := ⟨k1 + 1, 0, none⟩) (.inr rfl) _
          have hS4 : (fun W : World => W.cell? ⟨b, off + 10, none⟩ = some (.int .i64 (fld o 10)) ∧ W.cell? ⟨b, off + 13, none⟩ = some (.int .i64 (fld o 13))) (W3.setCell ⟨k1 + 1, 0, none⟩ (.int .i64 (fld o 10))) := ⟨x5.keep hS3.1 (by omega), x5.keep hS3.2 (by omega)⟩
          refine wpAnyS_mute (i := 10) (d := none) (w' := W3.setCell ⟨k1 + 1, 0, none⟩ (.int .i64 (fld o 10))) (by kernel_rfl) rfl rfl (by rfl) (by go_simp; try rfl) (fun _ => hS4) ?_
          try simp only [Act.put, List.setIfInBounds_toArray, List.set_cons_zero, List.set_cons_succ]
          have HS4 : Hid (Ext (fun _ => False) W1 (W3.setCell ⟨k1 + 1, 0, none⟩ (.int .i64 (fld o 10)))) := Lib.hid (HS3.out.setCell (p := ⟨k1 + 1, 0, none⟩) (.inl (by have := HK1.out; show W1.heap.size ≤ k1 + 1; omega)) _)
          have g5 := one_setCell (u := .int .i64 (fld o 10)) e2
          have g6 : (W3.setCell ⟨k1 + 1, 0, none⟩ (.int .i64 (fld o 10))).heap[k1]? = some (.cells #[.int .i64 0] 3 (0, 0)) := (x5.block _ (by omega) (by omega)).trans e1
          have z4 : (W3.setCell ⟨k1 + 1, 0, none⟩ (.int .i64 (fld o 10))).heap.size = W3.heap.size := World.size_setCell _ _ _
          generalize W3.setCell ⟨k1 + 1, 0, none⟩ (.int .i64 (fld o 10)) = W4 at hS4 HS4 g5 g6 z4 ⊢
          clear hS3 HS3 e1 e2 c5 f5 x5
          have c6 := cell_of_one g6
          have f6 := free_of_one g6
          have x6 : Ext (· = k1) W4 (W4.setCell ⟨k1, 0, none⟩ (.int .i64 (fld o 13))) := (Ext.refl (· = k1) W4).setCell (p := ⟨k1, 0, none⟩) (.inr rfl) _
          have hS5 : (fun W : World => W.cell? ⟨b, off + 10, none⟩ = some (.int .i64 (fld o 10)) ∧ W.cell? ⟨b, off + 13, none⟩ = some (.int .i64 (fld o 13))) (W4.setCell ⟨k1, 0, none⟩ (.int .i64 (fld o 13))) := ⟨x6.keep hS4.1 (by omega), x6.keep hS4.2 (by omega)⟩
          refine wpAnyS_mute (i := 11) (d := none) (w' := W4.setCell ⟨k1, 0, none⟩ (.int .i64 (fld o 13))) (by kernel_rfl) rfl rfl (by rfl) (by go_simp; try rfl) (fun _ => hS5) ?_
          try simp only [Act.put, List.setIfInBounds_toArray, List.set_cons_zero, List.set_cons_succ]
          refine wpAnyS_done (by kernel_rfl) ?_ _
          have HS5 : Hid (IS b off o f J A w 10 (fun k => A k ∨ k = k1 + 1 ∨ k = k1) (W4.setCell ⟨k1, 0, none⟩ (.int .i64 (fld o 13)))) := Lib.hid (HS1.out.step HJ.out hAb (fun k h => h.elim .inl (fun e => .inr (by have h1 := HK1.out; have h2 := World.size_setCell W4 ⟨k1, 0, none⟩ (.int .i64 (fld o 13)); constructor <;> omega))) (HS4.out.setCell (p := ⟨k1, 0, none⟩) (.inl (by have := HK1.out; show W1.heap.size ≤ k1; omega)) _))
          have g7 := one_setCell (u := .int .i64 (fld o 13)) g6
          have g8 : (W4.setCell ⟨k1, 0, none⟩ (.int .i64 (fld o 13))).heap[k1 + 1]? = some (.cells #[.int .i64 (fld o 10)] 3 (0, 0)) := (x6.block _ (by have := (Array.getElem?_eq_some_iff.1 g5).1; omega) (by omega)).trans g5
          have HFIN : Hid (IS b off o f J A w 10 (fun k => A k ∨ k = k1 + 1 ∨ k = k1) (W4.setCell ⟨k1, 0, none⟩ (.int .i64 (fld o 13))) ∧ _ ∧ _ ∧ _ ∧ _) := Lib.hid ⟨HS5.out, cell_of_one g8, free_of_one g8, cell_of_one g7, free_of_one g7⟩
          clear hS4 hS5 HS4 HS5 g5 g6 g7 g8 c6 f6 x6
          go_wp2_with fail
          go_meet
          case rel => exact ⟨k1 + 1, k1, rfl, rfl, by omega, by omega, by omega, HFIN⟩
      case rest =>
        obtain ⟨k5, k6, rfl, rfl, hk5, hk6, hk56, HF⟩ := hcut
        clear HS10
        have hAA : ∀ k, A k → (A k ∨ k = k5 ∨ k = k6) := fun k h => .inl h
        go_wp2_with fail
        refine (IS.box HU.out HF.out.1 (.inl rfl) HF.out.2.1 HF.out.2.2.1 hk5 (.inr (.inl rfl)) hbw hAb hAA).mono ?_
        rintro e w4 ⟨⟨vv, rfl⟩, h4, hp4, hf4, hx4⟩
        have hno : ¬ (¬ (A k6 ∨ k6 = k5 ∨ k6 = k6) ∨ k6 = k5) := fun h => h.elim (fun h => h (.inr (.inr rfl))) (fun e => by omega)
        have HF4 : Hid (KF b off o f J A w k5 k6 11 (f 10) (fld o 13) (fun k => A k ∨ k = k5 ∨ k = k6) w4) := Lib.hid ⟨h4, hp4, hf4, hx4.keep HF.out.2.2.2.1 hno, (hx4.frozen (p := ⟨k6, 0, none⟩) (cell_lt HF.out.2.2.2.1) hno).trans HF.out.2.2.2.2⟩
        clear h4 hp4 hf4 hx4 hno HF
        go_wp2_with fail
        refine (IS.use HU.out hAb hAA HF4.out.1 (by omega) (by omega) (by omega)).mono ?_
        rintro e w5 ⟨⟨vv, rfl⟩, h4, hx4⟩
        have HF5 : Hid (KF b off o f J A w k5 k6 12 (f 10) (fld o 13) (fun k => A k ∨ k = k5 ∨ k = k6) w5) := Lib.hid (KF.ext HF4.out h4 hx4 (fun h => h.elim (fun h => h (.inr (.inl rfl))) (fun e => by omega)) (fun h => h.elim (fun h => h (.inr (.inr rfl))) (fun e => by omega)))
        clear h4 hx4 HF4
        go_wp2_with fail
        refine (IS.use HU.out hAb hAA HF5.out.1 (by omega) (by omega) (by omega)).mono ?_
        rintro e w6 ⟨⟨vv, rfl⟩, h4, hx4⟩
        have HF6 : Hid (KF b off o f J A w k5 k6 13 (f 10) (fld o 13) (fun k => A k ∨ k = k5 ∨ k = k6) w6) := Lib.hid (KF.ext HF5.out h4 hx4 (fun h => h.elim (fun h => h (.inr (.inl rfl))) (fun e => by omega)) (fun h => h.elim (fun h => h (.inr (.inr rfl))) (fun e => by omega)))
        clear h4 hx4 HF5
        go_wp2_with fail
        refine (IS.box HU.out HF6.out.1 (.inr rfl) HF6.out.2.2.2.1 HF6.out.2.2.2.2 hk6 (.inr (.inr rfl)) hbw hAb hAA).mono ?_
        rintro e w7 ⟨⟨vv, rfl⟩, h4, hp4, hf4, hx4⟩
        have hno : ¬ (¬ (A k5 ∨ k5 = k5 ∨ k5 = k6) ∨ k5 = k6) := fun h => h.elim (fun h => h (.inr (.inl rfl))) (fun e => by omega)
        have HF7 : Hid (KF b off o f J A w k5 k6 14 (f 10) (f 13) (fun k => A k ∨ k = k5 ∨ k = k6) w7) := Lib.hid ⟨h4, hx4.keep HF6.out.2.1 hno, (hx4.frozen (p := ⟨k5, 0, none⟩) (cell_lt HF6.out.2.1) hno).trans HF6.out.2.2.1, hp4, hf4⟩
        clear h4 hp4 hf4 hx4 hno HF6
        go_upto_region 12 with fail
        have HF8 : Hid (KF b off o f J A w k5 k6 14 (f 10) (f 13) (fun k => A k ∨ k = k5 ∨ k = k6) w7.drew) := Lib.hid (KF.step HF7.out HJ.out (hAA b hAb) (fun k h => .inl h) (Ext.refl _ _).drew)
        clear HF7
        have hS0 : (fun _ : World => True) w7.drew := trivial
        refine wp_region_s (fun _ => True) (fun _ => false) (by kernel_rfl) ?_
        generalize w7.drew = W1 at hS0 HF8 ⊢
        refine wpAnyS_take (i := 0) (d := some 56) rfl rfl rfl (by kernel_rfl) (by kernel_rfl) (by kernel_rfl) (by kernel_rfl) (fun _ _ _ h => h) (.inl ⟨by rfl, fun W hW => by go_simp; try rfl⟩) hS0 ?_
        try simp only [Act.put, List.setIfInBounds_toArray, List.set_cons_zero, List.set_cons_succ]
        refine wpAnyS_take (i := 1) (d := some 57) (v := .pointer (some ⟨b, off, none⟩)) rfl rfl rfl (by kernel_rfl) (by kernel_rfl) (by kernel_rfl) (by kernel_rfl) (fun _ _ _ h => h) (.inl ⟨by rfl, fun W hW => by go_simp; try rfl⟩) hS0 ?_
        try simp only [Act.put, List.setIfInBounds_toArray, List.set_cons_zero, List.set_cons_succ]
        refine wpAnyS_take (i := 2) (d := some 58) (v := .pointer (some ⟨b, off + 14, none⟩)) rfl rfl rfl (by kernel_rfl) (by kernel_rfl) (by kernel_rfl) (by kernel_rfl) (fun _ _ _ h => h) (.inl ⟨by rfl, fun W hW => by go_simp; try rfl⟩) hS0 ?_
        try simp only [Act.put, List.setIfInBounds_toArray, List.set_cons_zero, List.set_cons_succ]
        refine wpAnyS_take (i := 3) (d := some 59) rfl rfl rfl (by kernel_rfl) (by kernel_rfl) (by kernel_rfl) (by kernel_rfl) (fun _ _ _ h => h) (.inl ⟨by rfl, fun W hW => by go_simp; try rfl⟩) hS0 ?_
        try simp only [Act.put, List.setIfInBounds_toArray, List.set_cons_zero, List.set_cons_succ]
        refine wpAnyS_take (i := 4) (d := some 60) (v := .pointer (some ⟨b, off, none⟩)) rfl rfl rfl (by kernel_rfl) (by kernel_rfl) (by kernel_rfl) (by kernel_rfl) (fun _ _ _ h => h) (.inl ⟨by rfl, fun W hW => by go_simp; try rfl⟩) hS0 ?_
        try simp only [Act.put, List.setIfInBounds_toArray, List.set_cons_zero, List.set_cons_succ]
        refine wpAnyS_take (i := 5) (d := some 61) (v := .pointer (some ⟨b, off + 15, none⟩)) rfl rfl rfl (by kernel_rfl) (by kernel_rfl) (by kernel_rfl) (by kernel_rfl) (fun _ _ _ h => h) (.inl ⟨by rfl, fun W hW => by go_simp; try rfl⟩) hS0 ?_
        try simp only [Act.put, List.setIfInBounds_toArray, List.set_cons_zero, List.set_cons_succ]
        refine wpAnyS_take (i := 6) (d := some 62) (v := .pointer (some ⟨b, off + 15, none⟩)) rfl rfl rfl (by kernel_rfl) (by kernel_rfl) (by kernel_rfl) (by kernel_rfl) (fun _ _ _ h => h) (.inl ⟨by rfl, fun W hW => by go_simp; try rfl⟩) hS0 ?_
        try simp only [Act.put, List.setIfInBounds_toArray, List.set_cons_zero, List.set_cons_succ]
        refine wpAnyS_take (i := 7) (d := some 63) rfl rfl rfl (by kernel_rfl) (by kernel_rfl) (by kernel_rfl) (by kernel_rfl) (fun _ _ _ h => h) (.inl ⟨by rfl, fun W hW => by go_simp; try rfl⟩) hS0 ?_
        try simp only [Act.put, List.setIfInBounds_toArray, List.set_cons_zero, List.set_cons_succ]
        refine wpAnyS_take (i := 8) (d := some 64) (v := .pointer (some ⟨b, off, none⟩)) rfl rfl rfl (by kernel_rfl) (by kernel_rfl) (by kernel_rfl) (by kernel_rfl) (fun _ _ _ h => h) (.inl ⟨by rfl, fun W hW => by go_simp; try rfl⟩) hS0 ?_
        try simp only [Act.put, List.setIfInBounds_toArray, List.set_cons_zero, List.set_cons_succ]
        refine wpAnyS_take (i := 9) (d := some 65) (v := .pointer (some ⟨b, off + 15, none⟩)) rfl rfl rfl (by kernel_rfl) (by kernel_rfl) (by kernel_rfl) (by kernel_rfl) (fun _ _ _ h => h) (.inl ⟨by rfl, fun W hW => by go_simp; try rfl⟩) hS0 ?_
        try simp only [Act.put, List.setIfInBounds_toArray, List.set_cons_zero, List.set_cons_succ]
        refine wpAnyS_take (i := 10) (d := some 66) (v := .pointer (some ⟨b, off + 16, none⟩)) rfl rfl rfl (by kernel_rfl) (by kernel_rfl) (by kernel_rfl) (by kernel_rfl) (fun _ _ _ h => h) (.inl ⟨by rfl, fun W hW => by go_simp; try rfl⟩) hS0 ?_
        try simp only [Act.put, List.setIfInBounds_toArray, List.set_cons_zero, List.set_cons_succ]
        refine wpAnyS_take (i := 11) (d := some 67) rfl rfl rfl (by kernel_rfl) (by kernel_rfl) (by kernel_rfl) (by kernel_rfl) (fun _ _ _ h => h) (.inl ⟨by rfl, fun W hW => by go_simp; try rfl⟩) hS0 ?_
        try simp only [Act.put, List.setIfInBounds_toArray, List.set_cons_zero, List.set_cons_succ]
        refine wpAnyS_take (i := 12) (d := some 68) (v := .pointer (some ⟨b, off, none⟩)) rfl rfl rfl (by kernel_rfl) (by kernel_rfl) (by kernel_rfl) (by kernel_rfl) (fun _ _ _ h => h) (.inl ⟨by rfl, fun W hW => by go_simp; try rfl⟩) hS0 ?_
        try simp only [Act.put, List.setIfInBounds_toArray, List.set_cons_zero, List.set_cons_succ]
        refine wpAnyS_take (i := 13) (d := some 69) (v := .pointer (some ⟨b, off + 20, none⟩)) rfl rfl rfl (by kernel_rfl) (by kernel_rfl) (by kernel_rfl) (by kernel_rfl) (fun _ _ _ h => h) (.inl ⟨by rfl, fun W hW => by go_simp; try rfl⟩) hS0 ?_
        try simp only [Act.put, List.setIfInBounds_toArray, List.set_cons_zero, List.set_cons_succ]
        refine wpAnyS_take (i := 14) (d := some 70) (v := .pointer (some ⟨b, off + 20, none⟩)) rfl rfl rfl (by kernel_rfl) (by kernel_rfl) (by kernel_rfl) (by kernel_rfl) (fun _ _ _ h => h) (.inl ⟨by rfl, fun W hW => by go_simp; try rfl⟩) hS0 ?_
        try simp only [Act.put, List.setIfInBounds_toArray, List.set_cons_zero, List.set_cons_succ]
        refine wpAnyS_take (i := 15) (d := some 71) (v := .pointer (some ⟨b, off + 20, none⟩)) rfl rfl rfl (by kernel_rfl) (by kernel_rfl) (by kernel_rfl) (by kernel_rfl) (fun _ _ _ h => h) (.inl ⟨by rfl, fun W hW => by go_simp; try rfl⟩) hS0 ?_
        try simp only [Act.put, List.setIfInBounds_toArray, List.set_cons_zero, List.set_cons_succ]
        refine wpAnyS_take (i := 16) (d := some 72) rfl rfl rfl (by kernel_rfl) (by kernel_rfl) (by kernel_rfl) (by kernel_rfl) (fun _ _ _ h => h) (.inl ⟨by rfl, fun W hW => by go_simp; try rfl⟩) hS0 ?_
        try simp only [Act.put, List.setIfInBounds_toArray, List.set_cons_zero, List.set_cons_succ]
        refine wpAnyS_take (i := 17) (d := some 73) (v := .pointer (some ⟨b, off, none⟩)) rfl rfl rfl (by kernel_rfl) (by kernel_rfl) (by kernel_rfl) (by kernel_rfl) (fun _ _ _ h => h) (.inl ⟨by rfl, fun W hW => by go_simp; try rfl⟩) hS0 ?_
        try simp only [Act.put, List.setIfInBounds_toArray, List.set_cons_zero, List.set_cons_succ]
        refine wpAnyS_take (i := 18) (d := some 74) (v := .pointer (some ⟨b, off + 20, none⟩)) rfl rfl rfl (by kernel_rfl) (by kernel_rfl) (by kernel_rfl) (by kernel_rfl) (fun _ _ _ h => h) (.inl ⟨by rfl, fun W hW => by go_simp; try rfl⟩) hS0 ?_
        try simp only [Act.put, List.setIfInBounds_toArray, List.set_cons_zero, List.set_cons_succ]
        refine wpAnyS_take (i := 19) (d := some 75) (v := .pointer (some ⟨b, off + 20, none⟩)) rfl rfl rfl (by kernel_rfl) (by kernel_rfl) (by kernel_rfl) (by kernel_rfl) (fun _ _ _ h => h) (.inl ⟨by rfl, fun W hW => by go_simp; try rfl⟩) hS0 ?_
        try simp only [Act.put, List.setIfInBounds_toArray, List.set_cons_zero, List.set_cons_succ]
        refine wpAnyS_take (i := 20) (d := some 76) (v := .pointer (some ⟨b, off + 21, none⟩)) rfl rfl rfl (by kernel_rfl) (by kernel_rfl) (by kernel_rfl) (by kernel_rfl) (fun _ _ _ h => h) (.inl ⟨by rfl, fun W hW => by go_simp; try rfl⟩) hS0 ?_
        try simp only [Act.put, List.setIfInBounds_toArray, List.set_cons_zero, List.set_cons_succ]
        refine wpAnyS_take (i := 21) (d := some 77) rfl rfl rfl (by kernel_rfl) (by kernel_rfl) (by kernel_rfl) (by kernel_rfl) (fun _ _ _ h => h) (.inl ⟨by rfl, fun W hW => by go_simp; try rfl⟩) hS0 ?_
        try simp only [Act.put, List.setIfInBounds_toArray, List.set_cons_zero, List.set_cons_succ]
        refine wpAnyS_take (i := 22) (d := some 78) (v := .pointer (some ⟨b, off, none⟩)) rfl rfl rfl (by kernel_rfl) (by kernel_rfl) (by kernel_rfl) (by kernel_rfl) (fun _ _ _ h => h) (.inl ⟨by rfl, fun W hW => by go_simp; try rfl⟩) hS0 ?_
        try simp only [Act.put, List.setIfInBounds_toArray, List.set_cons_zero, List.set_cons_succ]
        refine wpAnyS_take (i := 23) (d := some 79) (v := .pointer (some ⟨b, off + 23, none⟩)) rfl rfl rfl (by kernel_rfl) (by kernel_rfl) (by kernel_rfl) (by kernel_rfl) (fun _ _ _ h => h) (.inl ⟨by rfl, fun W hW => by go_simp; try rfl⟩) hS0 ?_
        try simp only [Act.put, List.setIfInBounds_toArray, List.set_cons_zero, List.set_cons_succ]
        refine wpAnyS_take (i := 24) (d := some 80) (v := .pointer (some ⟨b, off + 23, none⟩)) rfl rfl rfl (by kernel_rfl) (by kernel_rfl) (by kernel_rfl) (by kernel_rfl) (fun _ _ _ h => h) (.inl ⟨by rfl, fun W hW => by go_simp; try rfl⟩) hS0 ?_
        try simp only [Act.put, List.setIfInBounds_toArray, List.set_cons_zero, List.set_cons_succ]
        refine wpAnyS_take (i := 25) (d := some 81) (v := .pointer (some ⟨b, off + 23, none⟩)) rfl rfl rfl (by kernel_rfl) (by kernel_rfl) (by kernel_rfl) (by kernel_rfl) (fun _ _ _ h => h) (.inl ⟨by rfl, fun W hW => by go_simp; try rfl⟩) hS0 ?_
        try simp only [Act.put, List.setIfInBounds_toArray, List.set_cons_zero, List.set_cons_succ]
        refine wpAnyS_take (i := 26) (d := some 82) rfl rfl rfl (by kernel_rfl) (by kernel_rfl) (by kernel_rfl) (by kernel_rfl) (fun _ _ _ h => h) (.inl ⟨by rfl, fun W hW => by go_simp; try rfl⟩) hS0 ?_
        try simp only [Act.put, List.setIfInBounds_toArray, List.set_cons_zero, List.set_cons_succ]
        refine wpAnyS_take (i := 27) (d := some 83) (v := .pointer (some ⟨b, off, none⟩)) rfl rfl rfl (by kernel_rfl) (by kernel_rfl) (by kernel_rfl) (by kernel_rfl) (fun _ _ _ h => h) (.inl ⟨by rfl, fun W hW => by go_simp; try rfl⟩) hS0 ?_
        try simp only [Act.put, List.setIfInBounds_toArray, List.set_cons_zero, List.set_cons_succ]
        refine wpAnyS_take (i := 28) (d := some 84) (v := .pointer (some ⟨b, off + 23, none⟩)) rfl rfl rfl (by kernel_rfl) (by kernel_rfl) (by kernel_rfl) (by kernel_rfl) (fun _ _ _ h => h) (.inl ⟨by rfl, fun W hW => by go_simp; try rfl⟩) hS0 ?_
        try simp only [Act.put, List.setIfInBounds_toArray, List.set_cons_zero, List.set_cons_succ]
        refine wpAnyS_take (i := 29) (d := some 85) (v := .pointer (some ⟨b, off + 23, none⟩)) rfl rfl rfl (by kernel_rfl) (by kernel_rfl) (by kernel_rfl) (by kernel_rfl) (fun _ _ _ h => h) (.inl ⟨by rfl, fun W hW => by go_simp; try rfl⟩) hS0 ?_
        try simp only [Act.put, List.setIfInBounds_toArray, List.set_cons_zero, List.set_cons_succ]
        refine wpAnyS_take (i := 30) (d := some 86) (v := .pointer (some ⟨b, off + 24, none⟩)) rfl rfl rfl (by kernel_rfl) (by kernel_rfl) (by kernel_rfl) (by kernel_rfl) (fun _ _ _ h => h) (.inl ⟨by rfl, fun W hW => by go_simp; try rfl⟩) hS0 ?_
        try simp only [Act.put, List.setIfInBounds_toArray, List.set_cons_zero, List.set_cons_succ]
        refine wpAnyS_take (i := 33) (d := some 89) (v := .int .i64 0) rfl rfl rfl (by kernel_rfl) (by kernel_rfl) (by kernel_rfl) (by kernel_rfl) (fun _ _ _ h => h) (.inl ⟨by rfl, fun W hW => by go_simp; try rfl⟩) hS0 ?_
        try simp only [Act.put, List.setIfInBounds_toArray, List.set_cons_zero, List.set_cons_succ]
        refine wpAnyS_ran (i := 31) (d := some 87) (v := .slice (some ⟨W1.heap.size, 0, none⟩) 7 7) (w' := W1.alloc (.cells #[.pointer (some ⟨b, off + 14, none⟩), .pointer (some ⟨b, off + 15, none⟩), .pointer (some ⟨b, off + 16, none⟩), .pointer (some ⟨b, off + 20, none⟩), .pointer (some ⟨b, off + 21, none⟩), .pointer (some ⟨b, off + 23, none⟩), .pointer (some ⟨b, off + 24, none⟩)] 52)) (by kernel_rfl) rfl rfl (by rfl) (by go_simp; try rfl) (fun _ => trivial) ?_
        try simp only [Act.put, List.setIfInBounds_toArray, List.set_cons_zero, List.set_cons_succ]
        have HF9 : Hid (KF b off o f J A w k5 k6 14 (f 10) (f 13) (fun k => (A k ∨ k = k5 ∨ k = k6) ∨ k = W1.heap.size) (W1.alloc (.cells #[.pointer (some ⟨b, off + 14, none⟩), .pointer (some ⟨b, off + 15, none⟩), .pointer (some ⟨b, off + 16, none⟩), .pointer (some ⟨b, off + 20, none⟩), .pointer (some ⟨b, off + 21, none⟩), .pointer (some ⟨b, off + 23, none⟩), .pointer (some ⟨b, off + 24, none⟩)] 52))) := Lib.hid (KF.step HF8.out HJ.out (hAA b hAb) (fun k h => h.elim .inl (fun e => .inr (by rw [World.size_alloc]; omega))) ((Ext.refl _ _).alloc _))
        have hps : ∀ k : Nat, k < 7 → (W1.alloc (.cells #[.pointer (some ⟨b, off + 14, none⟩), .pointer (some ⟨b, off + 15, none⟩), .pointer (some ⟨b, off + 16, none⟩), .pointer (some ⟨b, off + 20, none⟩), .pointer (some ⟨b, off + 21, none⟩), .pointer (some ⟨b, off + 23, none⟩), .pointer (some ⟨b, off + 24, none⟩)] 52)).cell? ⟨W1.heap.size, k, none⟩ = some (.pointer (some ⟨b, off + offC (14 + k), none⟩)) := fun k hk => cells_new W1 [.pointer (some ⟨b, off + 14, none⟩), .pointer (some ⟨b, off + 15, none⟩), .pointer (some ⟨b, off + 16, none⟩), .pointer (some ⟨b, off + 20, none⟩), .pointer (some ⟨b, off + 21, none⟩), .pointer (some ⟨b, off + 23, none⟩), .pointer (some ⟨b, off + 24, none⟩)] _ k _ (by
          match k, hk with
          | 0, _ => rfl
          | 1, _ => rfl
          | 2, _ => rfl
          | 3, _ => rfl
          | 4, _ => rfl
          | 5, _ => rfl
          | 6, _ => rfl
          | n + 7, h => exact absurd h (by omega))
        obtain ⟨SB, hSB⟩ : ∃ SB, SB = W1.heap.size := ⟨_, rfl⟩
        have hSw : w.heap.size ≤ SB := by rw [hSB]; exact HF8.out.1.2.2.1.size
        rw [← hSB] at hps HF9 ⊢
        have hA7 : ∀ k, A k → ((A k ∨ k = k5 ∨ k = k6) ∨ k = SB) := fun k h => .inl (.inl h)
        generalize W1.alloc (.cells #[.pointer (some ⟨b, off + 14, none⟩), .pointer (some ⟨b, off + 15, none⟩), .pointer (some ⟨b, off + 16, none⟩), .pointer (some ⟨b, off + 20, none⟩), .pointer (some ⟨b, off + 21, none⟩), .pointer (some ⟨b, off + 23, none⟩), .pointer (some ⟨b, off + 24, none⟩)] 52) = W2 at HF9 hps ⊢
        have HPS := Lib.hid hps
        clear hSB HF8 hps hS0
        have hS0 : (fun _ : World => True) W2 := trivial
        refine wpAnyS_take (i := 32) (d := some 88) (v := .int .i64 7) rfl rfl rfl (by kernel_rfl) (by kernel_rfl) (by kernel_rfl) (by kernel_rfl) (fun _ _ _ h => h) (.inl ⟨by rfl, fun W hW => by go_simp; try rfl⟩) hS0 ?_
        try simp only [Act.put, List.setIfInBounds_toArray, List.set_cons_zero, List.set_cons_succ]
        refine wpAnyS_done (by kernel_rfl) ?_ _
        clear hS0
        go_wp2_with fail
        go_loopg [89] 7 (fun g kv wx => ∃ k : Nat, g = 7 - k ∧ kv = .int .i64 k ∧ k ≤ 7 ∧ Hid (KF b off o f J A w k5 k6 (14 + k) (f 10) (f 13) (fun k => (A k ∨ k = k5 ∨ k = k6) ∨ k = SB) wx) ∧ Hid (∀ q : Nat, q < 7 → wx.cell? ⟨SB, q, none⟩ = some (.pointer (some ⟨b, off + offC (14 + q), none⟩))))
        case atStart => exact ⟨0, rfl, rfl, by omega, HF9, HPS⟩
        case round =>
          clear HF9 HPS
          obtain ⟨k, hg, rfl, hk, HF, HPS⟩ := hrel
          have HG := Lib.hid hg
          clear hg
          by_cases hlt : k < 7
          · have hk1 : (k : Int) < 7 := by omega
            have hcell := HPS.out k hlt
            have hc := IS.use HU.out hAb hA7 HF.out.1 (c := 14 + k) (by omega) (by omega) (by omega)
            rw [show dlt (14 + k) = false by unfold dlt; simp; omega] at hc
            generalize off + offC (14 + k) = pk at hcell hc
            have HC := Lib.hid hc
            clear hc
            go_wp2_with fail
            refine HC.out.mono ?_
            rintro e w3 ⟨⟨v3, rfl⟩, h3, hx3⟩
            have HF3 : Hid (KF b off o f J A w k5 k6 (14 + k + 1) (f 10) (f 13) (fun k => (A k ∨ k = k5 ∨ k = k6) ∨ k = SB) w3) := Lib.hid (HF.out.ext h3 hx3 (fun h => h.elim (fun h => h (.inl (.inr (.inl rfl)))) (fun e => by omega)) (fun h => h.elim (fun h => h (.inl (.inr (.inr rfl)))) (fun e => by omega)))
            have HPS3 : Hid (∀ q : Nat, q < 7 → w3.cell? ⟨SB, q, none⟩ = some (.pointer (some ⟨b, off + offC (14 + q), none⟩))) := Lib.hid (fun q hq => hx3.keep (HPS.out q hq) (fun h => h.elim (fun h => h (.inr rfl)) (fun e => by omega)))
            clear h3 hx3 HC HF HPS hcell
            go_wp2_with fail
            go_roundg (7 - (k + 1))
            case measure => rw [HG.out]; omega
            case rel => exact ⟨k + 1, rfl, by simp, by omega, HF3, HPS3⟩
          · obtain rfl : k = 7 := by omega
            have hk1 : ¬ (7 : Int) < 7 := by omega
            have HF21 : Hid (KF b off o f J A w k5 k6 21 (f 10) (f 13) (fun k => (A k ∨ k = k5 ∨ k = k6) ∨ k = SB) wr) := HF
            clear hlt HF HPS hk
            have hA := HF21.out.1.2.1
            have c10 : wr.cell? ⟨b, off + 10, none⟩ = some (.int .i64 (stg f o 21 10)) := hA.num 10 (by omega)
            have f10 : wr.frozen? ⟨b, off + 10, none⟩ = false := hA.free 10 (by omega)
            have c13 : wr.cell? ⟨b, off + 13, none⟩ = some (.int .i64 (stg f o 21 13)) := hA.num 13 (by omega)
            have f13 : wr.frozen? ⟨b, off + 13, none⟩ = false := hA.free 13 (by omega)
            have c5 := HF21.out.2.1
            have c6 := HF21.out.2.2.2.1
            have hbk5 : ¬ b = k5 := by omega
            have hbk6 : ¬ b = k6 := by omega
            have x1 : Ext (· = b) wr (wr.setCell ⟨b, off + 10, none⟩ (.int .i64 (f 10))) := (Ext.refl (· = b) wr).setCell (p := ⟨b, off + 10, none⟩) (.inr rfl) _
            have hA1 := hA.put (c := 10) (x := f 10) (by omega) (cell_setCell_same8 c10) (fun q hq => cell_setCell_ne8 hq) (fun q => World.frozen?_setCell _ _ _ _)
            have x2 : Ext (· = b) (wr.setCell ⟨b, off + 10, none⟩ (.int .i64 (f 10))) ((wr.setCell ⟨b, off + 10, none⟩ (.int .i64 (f 10))).setCell ⟨b, off + 13, none⟩ (.int .i64 (f 13))) := (Ext.refl (· = b) _).setCell (p := ⟨b, off + 13, none⟩) (.inr rfl) _
            have hA2 := hA1.put (c := 13) (x := f 13) (by omega) (cell_setCell_same8 (hA1.num 13 (by omega))) (fun q hq => cell_setCell_ne8 hq) (fun q => World.frozen?_setCell _ _ _ _)
            have HFIN := Lib.hid (And.intro (HJ.out _ _ A _ _ (HJ.out _ _ A _ _ HF21.out.1.1 x1 (fun k h => .inl (hA7 k h)) (hA7 b hAb)) x2 (fun k h => .inl h) hAb) (And.intro (hA2.num_eq f (stg_end f o)) (And.intro ((HF21.out.1.2.2.1.andThen x1 (fun i hi e => .inr e)).andThen x2 (fun i hi e => .inr e)) ((HF21.out.1.2.2.2.trans (Rst.set (b := b) (off := off) (po := off + 10) wr (.int .i64 (f 10)) (by omega) (by omega))).trans (Rst.set (b := b) (off := off) (po := off + 13) _ (.int .i64 (f 13)) (by omega) (by omega))))))
            clear hA hA1 hA2 x1 x2 HF21
            go_wp2_with fail
            go_end0
            exact ⟨⟨_, rfl⟩, HFIN.out⟩

end Go.Proofs.YtdlnokbeadkdfaaGreatDoor

namespace Go.Proofs.YtdlnokbeadkdfaaGreatDoor
open Go.RowKit Go.Deep
set_option linter.unusedSimpArgs false
set_option linter.unusedVariables false

def colsL (c : Nat) : List Bool := (List.range c).map dlt
theorem colsL_len (c : Nat) : (colsL c).length = c := by simp [colsL]
theorem colsL_succ (c : Nat) : colsL c ++ [dlt c] = colsL (c + 1) := by simp [colsL, List.range_succ]
/-- What the collecting function keeps. -/
def JC (Bo base : Nat) (c : Nat) (A : Nat → Prop) (W : World) : Prop := (∃ v, W.heap[Bo]? = some (.cells #[v] 47 (0, 0)) ∧ Own btc 1 4 base W v (colsL c) ∧ ∀ k, v.ownBlock = some k → ¬ A k) ∧ ¬ A Bo ∧ Bo < base ∧ base ≤ W.heap.size ∧ ∀ k, A k → k < W.heap.size
theorem JC.jok (Bo base b : Nat) : JOK b (JC Bo base) := by
  rintro c A A' W W' ⟨⟨v, h1, h2, h3⟩, h4, h5, h6, h7⟩ hx hA hb
  have hlt := (Array.getElem?_eq_some_iff.1 h1).1
  have hs := hx.size
  refine ⟨⟨v, (hx.block _ hlt (fun e => h4 (by rw [e]; exact hb))).trans h1, h2.ext hx (fun k hk e => h3 k hk (by rw [e]; exact hb)), fun k hk ha => ?_⟩, fun ha => ?_, h5, by omega, fun k hk => ?_⟩
  · rcases hA k ha with e | ⟨e, _⟩
    · exact h3 k hk e
    · have := (h2.blk k hk).2; omega
  · rcases hA Bo ha with e | ⟨e, _⟩
    · exact h4 e
    · omega
  · rcases hA k hk with e | ⟨_, e⟩
    · have := h7 k e; omega
    · exact e

set_option maxRecDepth 20000 in
set_option maxHeartbeats 1000000 in
theorem cols_use (Bo base : Nat) (o : OpD) : UseOK Tryz.prog 47 #[.pointer (some ⟨Bo, 0, none⟩)] (fld o) (fld o) (JC Bo base) := by
  rintro c A W pb po hc ⟨⟨v, hb, ho, hnA⟩, hAB, hBb, hbs, hAl⟩ hcell hfree hA
  show Calls Tryz.prog 47 #[.pointer (some ⟨pb, po, none⟩), .bool (dlt c), .pointer (some ⟨Bo, 0, none⟩)] W _
  obtain ⟨i0, hi, hy0, hy1, hy2⟩ := info_parts info_bt
  obtain ⟨⟨sa, sn, sc⟩, e⟩ := ho.sl
  dsimp only at e
  subst e
  have b0 := cell_of_one hb
  have hlt := (Array.getElem?_eq_some_iff.1 hb).1
  have hll := colsL_len c
  have HBD : Hid ((colsL c).length + 1 ≤ maxLen ∧ ((colsL c).length + 1) * 1 ≤ 140737488355328) := Lib.hid (by rw [hll]; unfold maxLen; omega)
  have hpl := cell_lt hcell
  have HW := Lib.hid (And.intro hcell hfree)
  clear hcell hfree hll
  go_enter Tryz.func47, Tryz.ntmps47
  go_wp2_with (at_builtin; refine wpList_append_struct2 rfl _ _ _ rfl i0 _ 1 Tryz.underlying47 hi hy0 hy1 hy2 rfl (by omega) btc_len btc_one rfl (ho.alloc _) (dlt c) W.heap.size 1 rfl (bt_new _ (dlt c)) HBD.out.1 HBD.out.2 (by simp; omega) ?_)
  intro v' w3 hown3 hx3 hn3
  obtain ⟨⟨ua, un, uc⟩, e3⟩ := hown3.sl
  dsimp only at e3
  subst e3
  rw [colsL_succ] at hown3
  have hne : ¬ (Value.slice sa sn sc).ownBlock = some Bo := fun e => by have := (ho.blk _ e).1; omega
  have hb3 : w3.heap[Bo]? = some (.cells #[.slice sa sn sc] 47 (0, 0)) := (hx3.block _ (by simp; omega) hne).trans ((Below.heap_alloc _ _ _ hlt).trans hb)
  have c3 := cell_of_one hb3
  have f3 := free_of_one hb3
  have hx4 : Ext (· = Bo) w3 (w3.setCell ⟨Bo, 0, none⟩ (.slice ua un uc)) := (Ext.refl (· = Bo) w3).setCell (p := ⟨Bo, 0, none⟩) (.inr rfl) _
  have hxa : Ext (fun k => (Value.slice sa sn sc).ownBlock = some k) W w3 := (Ext.alloc (Ext.refl _ _) _).andThen hx3 (fun i hi e => e)
  have hpB : pb ≠ Bo := fun e => hAB (by rw [← e]; exact hA)
  have hpO : ¬ (Value.slice sa sn sc).ownBlock = some pb := fun e => hnA pb e hA
  have hP4 : ∀ q, (w3.setCell ⟨Bo, 0, none⟩ (.slice ua un uc)).cell? ⟨pb, q, none⟩ = W.cell? ⟨pb, q, none⟩ := fun q => (hx4.cell (p := ⟨pb, q, none⟩) (by have := hxa.size; show pb < _; omega) hpB).trans (hxa.cell (p := ⟨pb, q, none⟩) hpl hpO)
  have hF4 : ∀ q, (w3.setCell ⟨Bo, 0, none⟩ (.slice ua un uc)).frozen? ⟨pb, q, none⟩ = W.frozen? ⟨pb, q, none⟩ := fun q => (hx4.frozen (p := ⟨pb, q, none⟩) (by have := hxa.size; show pb < _; omega) hpB).trans (hxa.frozen (p := ⟨pb, q, none⟩) hpl hpO)
  have hs3 := hxa.size
  have hJ4 : JC Bo base (c + 1) A (w3.setCell ⟨Bo, 0, none⟩ (.slice ua un uc)) := ⟨⟨_, one_setCell hb3, hown3.ext hx4 (fun b hb e => by have := (hown3.blk b hb).1; omega), fun k hk ha => (hn3 k hk).elim (fun e => hnA k e ha) (fun e => by have h9 := hAl k ha; omega)⟩, hAB, hBb, by rw [World.size_setCell]; omega, fun k hk => by have := hAl k hk; rw [World.size_setCell]; omega⟩
  have hX4 : Ext (fun k => ¬ A k ∨ k = pb) W (w3.setCell ⟨Bo, 0, none⟩ (.slice ua un uc)) := (hxa.mono (T := fun k => ¬ A k ∨ k = pb) (fun k _ e => .inl (hnA k e))).andThen hx4 (fun i hi e => .inl (by rw [e]; exact hAB))
  have HFIN := Lib.hid (And.intro hJ4 (And.intro ((hP4 po).trans HW.out.1) (And.intro (fun q (_ : q ≠ po) => hP4 q) (And.intro hF4 (And.intro hX4 (Shp.same (W := W) (pb := pb) (((hx4.block pb (by have := hxa.size; omega) hpB)).trans (hxa.block pb hpl hpO))))))))
  clear hJ4 hP4 hF4 hX4 hxa hx3 hx4 hown3 hn3 hb3 ho hnA hb
  go_wp2_with fail
  go_end0
  exact ⟨⟨_, rfl⟩, HFIN.out⟩

def zeroOp : OpD := ⟨⟨0, 0⟩, 0, 0, 0, 0, 0, 0, 0, 0, 0, ⟨0, 0⟩, 0, 0, ⟨0, 0⟩, ⟨#[]⟩, ⟨#[]⟩, ⟨#[]⟩, ⟨0, 0⟩, false, ⟨0, 0⟩, false⟩
set_option maxRecDepth 20000 in
set_option maxHeartbeats 1000000 in
theorem columns_any (w : World) : Calls Tryz.prog 16 #[] w fun e w' => ∃ v, e = .returned v ∧ Own btc 1 4 w.heap.size w' v (colsL 21) ∧ Below w.heap.size w w' := by
  go_enter Tryz.func16, Tryz.ntmps16
  go_wp2_with fail
  have hb0 : Below w.heap.size w ((w.alloc (.cells #[.slice none 0 0] 47)).alloc (.cells zeroOp.cells.toArray 33)) := ((Below.refl _ _).alloc (Nat.le_refl _) _).alloc (by simp) _
  have hz0 : ((w.alloc (.cells #[.slice none 0 0] 47)).alloc (.cells zeroOp.cells.toArray 33)).heap.size = w.heap.size + 2 := by simp
  have ho0 : ((w.alloc (.cells #[.slice none 0 0] 47)).alloc (.cells zeroOp.cells.toArray 33)).heap[w.heap.size]? = some (.cells #[.slice none 0 0] 47 (0, 0)) := (Below.heap_alloc _ _ _ (by simp)).trans (heap_new8 w _)
  have hop : ((w.alloc (.cells #[.slice none 0 0] 47)).alloc (.cells zeroOp.cells.toArray 33)).heap[w.heap.size + 1]? = some (.cells zeroOp.cells.toArray 33 (0, 0)) := by
    have := heap_new8 (w.alloc (.cells #[.slice none 0 0] 47)) (.cells zeroOp.cells.toArray 33)
    rwa [World.size_alloc] at this
  have hA : At (w.heap.size + 1) 0 zeroOp (fld zeroOp) ((w.alloc (.cells #[.slice none 0 0] 47)).alloc (.cells zeroOp.cells.toArray 33)) := At.of_cells (fun j u hj => by
    rw [Nat.zero_add]
    unfold World.cell?
    rw [hop]
    simpa using hj) (fun j hj => by
    unfold World.frozen?
    rw [hop]
    simp)
  show Calls Tryz.prog 17 #[.pointer (some ⟨w.heap.size + 1, 0, none⟩), .func (.func 47) #[] #[.pointer (some ⟨w.heap.size, 0, none⟩)]] ((w.alloc (.cells #[.slice none 0 0] 47)).alloc (.cells zeroOp.cells.toArray 33)) _
  generalize (w.alloc (.cells #[.slice none 0 0] 47)).alloc (.cells zeroOp.cells.toArray 33) = W0 at hb0 hz0 ho0 hop hA ⊢
  have hJ0 : JC w.heap.size (w.heap.size + 2) 0 (fun k => k < w.heap.size ∨ k = w.heap.size + 1) W0 := ⟨⟨_, ho0, Own.nil, fun k hk => by cases hk⟩, fun h => by omega, by omega, by omega, fun k hk => by omega⟩
  have HB0 := Lib.hid hb0
  refine (ints_any (enters_of Tryz.func47 (by kernel_rfl) rfl) (w.heap.size + 1) 0 zeroOp (fld zeroOp) (JC w.heap.size (w.heap.size + 2)) (fun k => k < w.heap.size ∨ k = w.heap.size + 1) W0 (cols_use _ _ zeroOp) (JC.jok _ _ _) (.inr rfl) hA hJ0).mono ?_
  rintro e w1 ⟨⟨v1, rfl⟩, ⟨⟨v, g1, g2, g3⟩, g4, g5, g6, g7⟩, -, hx, -⟩
  have c1 := cell_of_one g1
  have HB1 : Hid (Below w.heap.size w w1) := Lib.hid (Ext.new HB0.out hx (fun i hi _ e => e.elim (fun e => e (.inl hi)) (fun e => by omega)) (by omega))
  have HG := Lib.hid (g2.mono (show w.heap.size ≤ w.heap.size + 2 by omega))
  clear g1 g2 g3 g4 g7 hx hJ0 hA hop ho0 hb0
  go_wp2_with fail
  go_ret
  exact ⟨_, rfl, HG.out, HB1.out⟩

end Go.Proofs.YtdlnokbeadkdfaaGreatDoor

namespace Go.Proofs.YtdlnokbeadkdfaaGreatDoor
open Go.RowKit Go.Deep
set_option linter.unusedSimpArgs false
set_option linter.unusedVariables false
theorem results_cell8 {fn : Func} {p : Tmp} {ty : TypeId} (h : fn.results = #[.cell p ty]) (tmps : Array Value) (P : Program) (w : World) :
    (results fn tmps).run P w = ((asAddr (tmps.getD p undef)).run P w).andThen fun a w₁ => (loadVar ty a).run P w₁ := by
  simp only [results, h]
  simp [Sem.run_bind, Result.andThen]

set_option maxRecDepth 20000 in
set_option maxHeartbeats 1000000 in
theorem truths_any (b off : Nat) (w : World) : Calls Tryz.prog 21 #[.pointer (some ⟨b, off, none⟩)] w fun e w' => e = .returned (.agg #[.pointer (some ⟨b, off + 22, none⟩), .pointer (some ⟨b, off + 25, none⟩)]) ∧ Below w.heap.size w w' := by
  go_enter Tryz.func21, Tryz.ntmps21
  go_upto_region 1 with fail
  have hb0 : Below w.heap.size w (w.alloc (.cells #[.pointer none, .pointer none] 57)).drew := ((Below.refl _ _).alloc (Nat.le_refl _) _).drew
  have ho0 : (w.alloc (.cells #[.pointer none, .pointer none] 57)).drew.heap[w.heap.size]? = some (.cells #[.pointer none, .pointer none] 57 (0, 0)) := heap_new8 w _
  have hS0 : (fun _ : World => True) (w.alloc (.cells #[.pointer none, .pointer none] 57)).drew := trivial
  refine wp_region_s (fun _ => True) (fun _ => false) (by kernel_rfl) ?_
  generalize (w.alloc (.cells #[.pointer none, .pointer none] 57)).drew = W1 at hS0 hb0 ho0 ⊢
  refine wpAnyS_take (i := 0) (d := some 3) rfl rfl rfl (by kernel_rfl) (by kernel_rfl) (by kernel_rfl) (by kernel_rfl) (fun _ _ _ h => h) (.inl ⟨by rfl, fun W hW => by go_simp; try rfl⟩) hS0 ?_
  try simp only [Act.put, List.setIfInBounds_toArray, List.set_cons_zero, List.set_cons_succ]
  refine wpAnyS_take (i := 1) (d := some 4) (v := .pointer (some ⟨b, off, none⟩)) rfl rfl rfl (by kernel_rfl) (by kernel_rfl) (by kernel_rfl) (by kernel_rfl) (fun _ _ _ h => h) (.inl ⟨by rfl, fun W hW => by go_simp; try rfl⟩) hS0 ?_
  try simp only [Act.put, List.setIfInBounds_toArray, List.set_cons_zero, List.set_cons_succ]
  refine wpAnyS_take (i := 2) (d := some 5) (v := .pointer (some ⟨b, off + 20, none⟩)) rfl rfl rfl (by kernel_rfl) (by kernel_rfl) (by kernel_rfl) (by kernel_rfl) (fun _ _ _ h => h) (.inl ⟨by rfl, fun W hW => by go_simp; try rfl⟩) hS0 ?_
  try simp only [Act.put, List.setIfInBounds_toArray, List.set_cons_zero, List.set_cons_succ]
  refine wpAnyS_take (i := 3) (d := some 6) (v := .pointer (some ⟨b, off + 22, none⟩)) rfl rfl rfl (by kernel_rfl) (by kernel_rfl) (by kernel_rfl) (by kernel_rfl) (fun _ _ _ h => h) (.inl ⟨by rfl, fun W hW => by go_simp; try rfl⟩) hS0 ?_
  try simp only [Act.put, List.setIfInBounds_toArray, List.set_cons_zero, List.set_cons_succ]
  refine wpAnyS_take (i := 4) (d := some 7) rfl rfl rfl (by kernel_rfl) (by kernel_rfl) (by kernel_rfl) (by kernel_rfl) (fun _ _ _ h => h) (.inl ⟨by rfl, fun W hW => by go_simp; try rfl⟩) hS0 ?_
  try simp only [Act.put, List.setIfInBounds_toArray, List.set_cons_zero, List.set_cons_succ]
  refine wpAnyS_take (i := 5) (d := some 8) (v := .pointer (some ⟨b, off, none⟩)) rfl rfl rfl (by kernel_rfl) (by kernel_rfl) (by kernel_rfl) (by kernel_rfl) (fun _ _ _ h => h) (.inl ⟨by rfl, fun W hW => by go_simp; try rfl⟩) hS0 ?_
  try simp only [Act.put, List.setIfInBounds_toArray, List.set_cons_zero, List.set_cons_succ]
  refine wpAnyS_take (i := 6) (d := some 9) (v := .pointer (some ⟨b, off + 23, none⟩)) rfl rfl rfl (by kernel_rfl) (by kernel_rfl) (by kernel_rfl) (by kernel_rfl) (fun _ _ _ h => h) (.inl ⟨by rfl, fun W hW => by go_simp; try rfl⟩) hS0 ?_
  try simp only [Act.put, List.setIfInBounds_toArray, List.set_cons_zero, List.set_cons_succ]
  refine wpAnyS_take (i := 7) (d := some 10) (v := .pointer (some ⟨b, off + 25, none⟩)) rfl rfl rfl (by kernel_rfl) (by kernel_rfl) (by kernel_rfl) (by kernel_rfl) (fun _ _ _ h => h) (.inl ⟨by rfl, fun W hW => by go_simp; try rfl⟩) hS0 ?_
  try simp only [Act.put, List.setIfInBounds_toArray, List.set_cons_zero, List.set_cons_succ]
  refine wpAnyS_take (i := 8) (d := some 11) (v := .agg #[.pointer (some ⟨b, off + 22, none⟩), .pointer (some ⟨b, off + 25, none⟩)]) rfl rfl rfl (by kernel_rfl) (by kernel_rfl) (by kernel_rfl) (by kernel_rfl) (fun _ _ _ h => h) (.inl ⟨by rfl, fun W hW => by go_simp; try rfl⟩) hS0 ?_
  try simp only [Act.put, List.setIfInBounds_toArray, List.set_cons_zero, List.set_cons_succ]
  have c0 : W1.cell? ⟨w.heap.size, 0, none⟩ = some (.pointer none) := by simp [World.cell?, ho0]
  have c1 : W1.cell? ⟨w.heap.size, 1, none⟩ = some (.pointer none) := by simp [World.cell?, ho0]
  have f0 : W1.frozen? ⟨w.heap.size, 0, none⟩ = false := by simp [World.frozen?, ho0]
  have f1 : W1.frozen? ⟨w.heap.size, 1, none⟩ = false := by simp [World.frozen?, ho0]
  refine wpAnyS_mute (i := 9) (d := none) (w' := ((W1.setCell ⟨w.heap.size, 0, none⟩ (.pointer (some ⟨b, off + 22, none⟩))).setCell ⟨w.heap.size, 1, none⟩ (.pointer (some ⟨b, off + 25, none⟩)))) (by kernel_rfl) rfl rfl (by rfl) (by go_simp; try rfl) (fun _ => trivial) ?_
  try simp only [Act.put, List.setIfInBounds_toArray, List.set_cons_zero, List.set_cons_succ]
  refine wpAnyS_done (by kernel_rfl) ?_ _
  have HB : Hid (Below w.heap.size w ((W1.setCell ⟨w.heap.size, 0, none⟩ (.pointer (some ⟨b, off + 22, none⟩))).setCell ⟨w.heap.size, 1, none⟩ (.pointer (some ⟨b, off + 25, none⟩)))) := Lib.hid ((hb0.setCell (p := ⟨w.heap.size, 0, none⟩) (Nat.le_refl _) (.pointer (some ⟨b, off + 22, none⟩))).setCell (p := ⟨w.heap.size, 1, none⟩) (Nat.le_refl _) (.pointer (some ⟨b, off + 25, none⟩)))
  clear hb0 hS0
  go_wp2_with fail
  refine bodyPost_ret (v := .agg #[.pointer (some ⟨b, off + 22, none⟩), .pointer (some ⟨b, off + 25, none⟩)]) (by rw [results_cell8 rfl]; go_simp) rfl ?_
  exact ⟨rfl, HB.out⟩
  
set_option maxRecDepth 20000 in
set_option maxHeartbeats 1000000 in
theorem texts_any (b off : Nat) (w : World) : Calls Tryz.prog 23 #[.pointer (some ⟨b, off, none⟩)] w fun e w' => e = .returned (.agg #[.pointer (some ⟨b, off + 17, none⟩), .pointer (some ⟨b, off + 18, none⟩), .pointer (some ⟨b, off + 19, none⟩)]) ∧ Below w.heap.size w w' := by
  go_enter Tryz.func23, Tryz.ntmps23
  go_upto_region 1 with fail
  have hb0 : Below w.heap.size w (w.alloc (.cells #[.pointer none, .pointer none, .pointer none] 61)).drew := ((Below.refl _ _).alloc (Nat.le_refl _) _).drew
  have ho0 : (w.alloc (.cells #[.pointer none, .pointer none, .pointer none] 61)).drew.heap[w.heap.size]? = some (.cells #[.pointer none, .pointer none, .pointer none] 61 (0, 0)) := heap_new8 w _
  have hS0 : (fun _ : World => True) (w.alloc (.cells #[.pointer none, .pointer none, .pointer none] 61)).drew := trivial
  refine wp_region_s (fun _ => True) (fun _ => false) (by kernel_rfl) ?_
  generalize (w.alloc (.cells #[.pointer none, .pointer none, .pointer none] 61)).drew = W1 at hS0 hb0 ho0 ⊢
  refine wpAnyS_take (i := 0) (d := some 3) rfl rfl rfl (by kernel_rfl) (by kernel_rfl) (by kernel_rfl) (by kernel_rfl) (fun _ _ _ h => h) (.inl ⟨by rfl, fun W hW => by go_simp; try rfl⟩) hS0 ?_
  try simp only [Act.put, List.setIfInBounds_toArray, List.set_cons_zero, List.set_cons_succ]
  refine wpAnyS_take (i := 1) (d := some 4) (v := .pointer (some ⟨b, off, none⟩)) rfl rfl rfl (by kernel_rfl) (by kernel_rfl) (by kernel_rfl) (by kernel_rfl) (fun _ _ _ h => h) (.inl ⟨by rfl, fun W hW => by go_simp; try rfl⟩) hS0 ?_
  try simp only [Act.put, List.setIfInBounds_toArray, List.set_cons_zero, List.set_cons_succ]
  refine wpAnyS_take (i := 2) (d := some 5) (v := .pointer (some ⟨b, off + 17, none⟩)) rfl rfl rfl (by kernel_rfl) (by kernel_rfl) (by kernel_rfl) (by kernel_rfl) (fun _ _ _ h => h) (.inl ⟨by rfl, fun W hW => by go_simp; try rfl⟩) hS0 ?_
  try simp only [Act.put, List.setIfInBounds_toArray, List.set_cons_zero, List.set_cons_succ]
  refine wpAnyS_take (i := 3) (d := some 6) rfl rfl rfl (by kernel_rfl) (by kernel_rfl) (by kernel_rfl) (by kernel_rfl) (fun _ _ _ h => h) (.inl ⟨by rfl, fun W hW => by go_simp; try rfl⟩) hS0 ?_
  try simp only [Act.put, List.setIfInBounds_toArray, List.set_cons_zero, List.set_cons_succ]
  refine wpAnyS_take (i := 4) (d := some 7) (v := .pointer (some ⟨b, off, none⟩)) rfl rfl rfl (by kernel_rfl) (by kernel_rfl) (by kernel_rfl) (by kernel_rfl) (fun _ _ _ h => h) (.inl ⟨by rfl, fun W hW => by go_simp; try rfl⟩) hS0 ?_
  try simp only [Act.put, List.setIfInBounds_toArray, List.set_cons_zero, List.set_cons_succ]
  refine wpAnyS_take (i := 5) (d := some 8) (v := .pointer (some ⟨b, off + 18, none⟩)) rfl rfl rfl (by kernel_rfl) (by kernel_rfl) (by kernel_rfl) (by kernel_rfl) (fun _ _ _ h => h) (.inl ⟨by rfl, fun W hW => by go_simp; try rfl⟩) hS0 ?_
  try simp only [Act.put, List.setIfInBounds_toArray, List.set_cons_zero, List.set_cons_succ]
  refine wpAnyS_take (i := 6) (d := some 9) rfl rfl rfl (by kernel_rfl) (by kernel_rfl) (by kernel_rfl) (by kernel_rfl) (fun _ _ _ h => h) (.inl ⟨by rfl, fun W hW => by go_simp; try rfl⟩) hS0 ?_
  try simp only [Act.put, List.setIfInBounds_toArray, List.set_cons_zero, List.set_cons_succ]
  refine wpAnyS_take (i := 7) (d := some 10) (v := .pointer (some ⟨b, off, none⟩)) rfl rfl rfl (by kernel_rfl) (by kernel_rfl) (by kernel_rfl) (by kernel_rfl) (fun _ _ _ h => h) (.inl ⟨by rfl, fun W hW => by go_simp; try rfl⟩) hS0 ?_
  try simp only [Act.put, List.setIfInBounds_toArray, List.set_cons_zero, List.set_cons_succ]
  refine wpAnyS_take (i := 8) (d := some 11) (v := .pointer (some ⟨b, off + 19, none⟩)) rfl rfl rfl (by kernel_rfl) (by kernel_rfl) (by kernel_rfl) (by kernel_rfl) (fun _ _ _ h => h) (.inl ⟨by rfl, fun W hW => by go_simp; try rfl⟩) hS0 ?_
  try simp only [Act.put, List.setIfInBounds_toArray, List.set_cons_zero, List.set_cons_succ]
  refine wpAnyS_take (i := 9) (d := some 12) (v := .agg #[.pointer (some ⟨b, off + 17, none⟩), .pointer (some ⟨b, off + 18, none⟩), .pointer (some ⟨b, off + 19, none⟩)]) rfl rfl rfl (by kernel_rfl) (by kernel_rfl) (by kernel_rfl) (by kernel_rfl) (fun _ _ _ h => h) (.inl ⟨by rfl, fun W hW => by go_simp; try rfl⟩) hS0 ?_
  try simp only [Act.put, List.setIfInBounds_toArray, List.set_cons_zero, List.set_cons_succ]
  have c0 : W1.cell? ⟨w.heap.size, 0, none⟩ = some (.pointer none) := by simp [World.cell?, ho0]
  have c1 : W1.cell? ⟨w.heap.size, 1, none⟩ = some (.pointer none) := by simp [World.cell?, ho0]
  have c2 : W1.cell? ⟨w.heap.size, 2, none⟩ = some (.pointer none) := by simp [World.cell?, ho0]
  have f0 : W1.frozen? ⟨w.heap.size, 0, none⟩ = false := by simp [World.frozen?, ho0]
  have f1 : W1.frozen? ⟨w.heap.size, 1, none⟩ = false := by simp [World.frozen?, ho0]
  have f2 : W1.frozen? ⟨w.heap.size, 2, none⟩ = false := by simp [World.frozen?, ho0]
  refine wpAnyS_mute (i := 10) (d := none) (w' := (((W1.setCell ⟨w.heap.size, 0, none⟩ (.pointer (some ⟨b, off + 17, none⟩))).setCell ⟨w.heap.size, 1, none⟩ (.pointer (some ⟨b, off + 18, none⟩))).setCell ⟨w.heap.size, 2, none⟩ (.pointer (some ⟨b, off + 19, none⟩)))) (by kernel_rfl) rfl rfl (by rfl) (by go_simp; try rfl) (fun _ => trivial) ?_
  try simp only [Act.put, List.setIfInBounds_toArray, List.set_cons_zero, List.set_cons_succ]
  refine wpAnyS_done (by kernel_rfl) ?_ _
  have HB : Hid (Below w.heap.size w (((W1.setCell ⟨w.heap.size, 0, none⟩ (.pointer (some ⟨b, off + 17, none⟩))).setCell ⟨w.heap.size, 1, none⟩ (.pointer (some ⟨b, off + 18, none⟩))).setCell ⟨w.heap.size, 2, none⟩ (.pointer (some ⟨b, off + 19, none⟩)))) := Lib.hid (((hb0.setCell (p := ⟨w.heap.size, 0, none⟩) (Nat.le_refl _) (.pointer (some ⟨b, off + 17, none⟩))).setCell (p := ⟨w.heap.size, 1, none⟩) (Nat.le_refl _) (.pointer (some ⟨b, off + 18, none⟩))).setCell (p := ⟨w.heap.size, 2, none⟩) (Nat.le_refl _) (.pointer (some ⟨b, off + 19, none⟩)))
  clear hb0 hS0
  go_wp2_with fail
  refine bodyPost_ret (v := .agg #[.pointer (some ⟨b, off + 17, none⟩), .pointer (some ⟨b, off + 18, none⟩), .pointer (some ⟨b, off + 19, none⟩)]) (by rw [results_cell8 rfl]; go_simp) rfl ?_
  exact ⟨rfl, HB.out⟩
  
end Go.Proofs.YtdlnokbeadkdfaaGreatDoor

namespace Go.Proofs.YtdlnokbeadkdfaaGreatDoor
open Go.RowKit Go.Deep
set_option linter.unusedSimpArgs false
set_option linter.unusedVariables false

/-- Row q behind c uses. -/
def rowAt (Ls : Nat → List Int) (o : OpD) (c q : Nat) : List Int := if q < c then Ls q ++ [fld o q] else Ls q
/-- The rows in memory. -/
structure RowsIn (R base : Nat) (Ls : Nat → List Int) (A : Nat → Prop) (W : World) : Prop where
  ex : ∃ cs : Array Value, cs.size = 21 ∧ W.heap[R]? = some (.cells cs 53 (0, 0)) ∧ (∀ q, q < 21 → Own intc 1 3 base W (cs.getD q undef) (Ls q)) ∧
    (∀ q r, q < 21 → r < 21 → q ≠ r → ∀ k, (cs.getD q undef).ownBlock = some k → ¬ (cs.getD r undef).ownBlock = some k) ∧ (∀ q, q < 21 → ∀ k, (cs.getD q undef).ownBlock = some k → ¬ A k)
theorem RowsIn.ext {R base : Nat} {Ls : Nat → List Int} {A A' : Nat → Prop} {W W' : World} {S : Nat → Prop} (h : RowsIn R base Ls A W) (hx : Ext S W W') (hR : ¬ S R) (hS : ∀ k, S k → A k ∨ W.heap.size ≤ k) (hA : ∀ k, A' k → A k ∨ W.heap.size ≤ k) : RowsIn R base Ls A' W' := by
  obtain ⟨cs, h1, h2, h3, h4, h5⟩ := h.ex
  have hlt := (Array.getElem?_eq_some_iff.1 h2).1
  refine ⟨cs, h1, (hx.block _ hlt hR).trans h2, fun q hq => (h3 q hq).ext hx (fun k hk e => ?_), h4, fun q hq k hk ha => ?_⟩
  · rcases hS k e with e | e
    · exact h5 q hq k hk e
    · have := ((h3 q hq).blk k hk).2; omega
  · rcases hA k ha with e | e
    · exact h5 q hq k hk e
    · have := ((h3 q hq).blk k hk).2; omega
/-- What the inner function keeps. -/
def JE (R Br Bc base : Nat) (Ls : Nat → List Int) (o : OpD) (c : Nat) (A : Nat → Prop) (W : World) : Prop :=
  RowsIn R base (rowAt Ls o c) A W ∧ W.heap[Br]? = some (.cells #[.slice (some ⟨R, 0, none⟩) 21 21] 49 (0, 0)) ∧ W.heap[Bc]? = some (.cells #[.int .i64 c] 3 (0, 0)) ∧
  (¬ A R ∧ ¬ A Br ∧ ¬ A Bc) ∧ (R ≠ Br ∧ R ≠ Bc ∧ Br ≠ Bc ∧ R < base ∧ Br < base ∧ Bc < W.heap.size) ∧ base ≤ W.heap.size ∧ (∀ k, A k → k < W.heap.size) ∧ (∀ cs, W.heap[R]? = some (.cells cs 53 (0, 0)) → ∀ q, q < 21 → ¬ (cs.getD q undef).ownBlock = some Bc)
theorem JE.jok (R Br Bc base b : Nat) (Ls : Nat → List Int) (o : OpD) : JOK b (JE R Br Bc base Ls o) := by
  rintro c A A' W W' ⟨h1, h2, h3, ⟨h4, h5, h6⟩, h7, h8, h9, h10⟩ hx hA hb
  have l1 := (Array.getElem?_eq_some_iff.1 h2).1
  have l2 := (Array.getElem?_eq_some_iff.1 h3).1
  obtain ⟨cs0, _, hR0, _⟩ := h1.ex
  have l0 := (Array.getElem?_eq_some_iff.1 hR0).1
  have hs := hx.size
  have nb : ∀ {x : Nat}, ¬ A x → ¬ x = b := fun h e => h (by rw [e]; exact hb)
  have nA : ∀ {x : Nat}, ¬ A x → x < W.heap.size → ¬ A' x := fun h hl ha => (hA _ ha).elim h (fun e => by omega)
  refine ⟨h1.ext hx (nb h4) (fun k e => .inl (by rw [e]; exact hb)) (fun k ha => (hA k ha).imp id (fun e => e.1)), (hx.block _ l1 (nb h5)).trans h2, (hx.block _ l2 (nb h6)).trans h3, ⟨nA h4 l0, nA h5 l1, nA h6 l2⟩, ⟨h7.1, h7.2.1, h7.2.2.1, h7.2.2.2.1, h7.2.2.2.2.1, by omega⟩, by omega, fun k hk => (hA k hk).elim (fun e => by have := h9 k e; omega) (fun e => e.2), fun cs hcs => h10 cs ((hx.block _ l0 (nb h4)).symm.trans hcs)⟩
theorem getD_set (cs : Array Value) (c q : Nat) (v : Value) (hc : c < cs.size) : (cs.setIfInBounds c v).getD q undef = if q = c then v else cs.getD q undef := by
  simp only [Array.getD_eq_getD_getElem?]
  by_cases h : q = c
  · subst h; simp [hc]
  · rw [if_neg h, Array.getElem?_setIfInBounds_ne (Ne.symm h)]

set_option maxRecDepth 20000 in
set_option maxHeartbeats 1000000 in
theorem rows_use (R Br Bc base : Nat) (Ls : Nat → List Int) (o : OpD) (hln : ∀ q, (Ls q).length ≤ 1000000) : UseOK Tryz.prog 18 #[.pointer (some ⟨Br, 0, none⟩), .pointer (some ⟨Bc, 0, none⟩)] (fld o) (fld o) (JE R Br Bc base Ls o) := by
  rintro c A W pb po hc ⟨hr, hBr, hBc, ⟨nR, nBr, nBc⟩, ⟨d1, d2, d3, d4, d5, d6⟩, hbs, hAl, hnc⟩ hcell hfree hA
  show Calls Tryz.prog 18 #[.pointer (some ⟨pb, po, none⟩), .bool (dlt c), .pointer (some ⟨Br, 0, none⟩), .pointer (some ⟨Bc, 0, none⟩)] W _
  obtain ⟨cs, hcs, hR, hown, hdis, hnA⟩ := hr.ex
  obtain ⟨x, hx⟩ : ∃ x, fld o c = x := ⟨_, rfl⟩
  rw [hx] at hcell
  have hoc := hown c hc
  have hrc : rowAt Ls o c c = Ls c := by unfold rowAt; rw [if_neg (by omega)]
  rw [hrc] at hoc
  obtain ⟨⟨sa, sn, sc⟩, e⟩ := hoc.sl
  dsimp only at e
  rw [e] at hoc
  have hRc : W.cell? ⟨R, c, none⟩ = some (.slice sa sn sc) := by
    unfold World.cell?
    rw [hR]
    rw [← e, Array.getD_eq_getD_getElem?]
    simp [hcs, hc]
  have nO : ∀ k, (Value.slice sa sn sc).ownBlock = some k → ¬ A k ∧ base ≤ k ∧ k < W.heap.size ∧ k ≠ Bc := fun k hk => ⟨hnA c hc k (by rw [e]; exact hk), (hoc.blk k hk).1, (hoc.blk k hk).2, fun e2 => hnc cs hR c hc (by rw [e, ← e2]; exact hk)⟩
  have lR := (Array.getElem?_eq_some_iff.1 hR).1
  have lBr := (Array.getElem?_eq_some_iff.1 hBr).1
  have lpb := cell_lt hcell
  have hpR : pb ≠ R := fun e => nR (by rw [← e]; exact hA)
  have hpc : pb ≠ Bc := fun e => nBc (by rw [← e]; exact hA)
  have hpB : pb ≠ Br := fun e => nBr (by rw [← e]; exact hA)
  have hll := hln c
  have hW0 : Ext (fun _ => False) W W.drew := (Ext.refl _ _).drew
  have HOLD := Lib.hid (And.intro hR (And.intro hBr (And.intro hBc (And.intro hcell (And.intro hoc hown)))))
  have b0 := cell_of_one hBr
  have b1 := cell_of_one hBc
  have HFR := Lib.hid hfree
  have HDIS := Lib.hid hdis
  have HNA := Lib.hid hnA
  have HAL := Lib.hid hAl
  have HE := Lib.hid e
  have HNC := Lib.hid hnc
  have HX := Lib.hid hx
  clear hfree hdis hnA hAl e hnc hx hown hrc hln
  go_enter Tryz.func18, Tryz.ntmps18
  go_upto_region 0 with fail
  have hS0 : (fun W : World => W.cell? ⟨Br, 0, none⟩ = some (.slice (some ⟨R, 0, none⟩) 21 21) ∧ W.cell? ⟨Bc, 0, none⟩ = some (.int .i64 c) ∧ W.cell? ⟨R, c, none⟩ = some (.slice sa sn sc) ∧ W.cell? ⟨pb, po, none⟩ = some (.int .i64 x)) W.drew := ⟨b0, b1, hRc, hcell⟩
  have hoc1 : Own intc 1 3 base W.drew (.slice sa sn sc) (Ls c) := hoc
  have hsz1 : W.drew.heap.size = W.heap.size := rfl
  clear b0 b1 hRc hcell hoc hR hBr hBc hr
  refine wp_region_s (fun W : World => W.cell? ⟨Br, 0, none⟩ = some (.slice (some ⟨R, 0, none⟩) 21 21) ∧ W.cell? ⟨Bc, 0, none⟩ = some (.int .i64 c) ∧ W.cell? ⟨R, c, none⟩ = some (.slice sa sn sc) ∧ W.cell? ⟨pb, po, none⟩ = some (.int .i64 x)) (fun i => i == 12) (by kernel_rfl) ?_
  generalize W.drew = W1 at hS0 hW0 hoc1 hsz1 ⊢
  have hc21 : (c : Int) < 21 := by omega
  have hc0 : (0 : Int) ≤ (c : Int) := by omega
  refine wpAnyS_take (i := 0) (d := some 6) (v := .slice (some ⟨R, 0, none⟩) 21 21) rfl rfl rfl (by kernel_rfl) (by kernel_rfl) (by kernel_rfl) (by kernel_rfl) (fun _ _ _ h => h) (.inl ⟨by rfl, fun W hW => by obtain ⟨q0, q1, q2, q3⟩ := hW; go_simp; try rfl⟩) hS0 ?_
  try simp only [Act.put, List.setIfInBounds_toArray, List.set_cons_zero, List.set_cons_succ]
  refine wpAnyS_take (i := 1) (d := some 7) (v := .int .i64 c) rfl rfl rfl (by kernel_rfl) (by kernel_rfl) (by kernel_rfl) (by kernel_rfl) (fun _ _ _ h => h) (.inl ⟨by rfl, fun W hW => by obtain ⟨q0, q1, q2, q3⟩ := hW; go_simp; try rfl⟩) hS0 ?_
  try simp only [Act.put, List.setIfInBounds_toArray, List.set_cons_zero, List.set_cons_succ]
  refine wpAnyS_take (i := 2) (d := some 8) (v := .slice (some ⟨R, 0, none⟩) 21 21) rfl rfl rfl (by kernel_rfl) (by kernel_rfl) (by kernel_rfl) (by kernel_rfl) (fun _ _ _ h => h) (.inl ⟨by rfl, fun W hW => by obtain ⟨q0, q1, q2, q3⟩ := hW; go_simp; try rfl⟩) hS0 ?_
  try simp only [Act.put, List.setIfInBounds_toArray, List.set_cons_zero, List.set_cons_succ]
  refine wpAnyS_take (i := 3) (d := some 9) (v := .int .i64 c) rfl rfl rfl (by kernel_rfl) (by kernel_rfl) (by kernel_rfl) (by kernel_rfl) (fun _ _ _ h => h) (.inl ⟨by rfl, fun W hW => by obtain ⟨q0, q1, q2, q3⟩ := hW; go_simp; try rfl⟩) hS0 ?_
  try simp only [Act.put, List.setIfInBounds_toArray, List.set_cons_zero, List.set_cons_succ]
  refine wpAnyS_take (i := 4) (d := some 10) (v := .pointer (some ⟨R, c, none⟩)) rfl rfl rfl (by kernel_rfl) (by kernel_rfl) (by kernel_rfl) (by kernel_rfl) (fun _ _ _ h => h) (.inl ⟨by rfl, fun W hW => by obtain ⟨q0, q1, q2, q3⟩ := hW; go_simp; try rfl⟩) hS0 ?_
  try simp only [Act.put, List.setIfInBounds_toArray, List.set_cons_zero, List.set_cons_succ]
  refine wpAnyS_take (i := 5) (d := some 11) (v := .slice sa sn sc) rfl rfl rfl (by kernel_rfl) (by kernel_rfl) (by kernel_rfl) (by kernel_rfl) (fun _ _ _ h => h) (.inl ⟨by rfl, fun W hW => by obtain ⟨q0, q1, q2, q3⟩ := hW; go_simp; try rfl⟩) hS0 ?_
  try simp only [Act.put, List.setIfInBounds_toArray, List.set_cons_zero, List.set_cons_succ]
  refine wpAnyS_take (i := 6) (d := some 12) rfl rfl rfl (by kernel_rfl) (by kernel_rfl) (by kernel_rfl) (by kernel_rfl) (fun _ _ _ h => h) (.inl ⟨by rfl, fun W hW => by obtain ⟨q0, q1, q2, q3⟩ := hW; go_simp; try rfl⟩) hS0 ?_
  try simp only [Act.put, List.setIfInBounds_toArray, List.set_cons_zero, List.set_cons_succ]
  refine wpAnyS_take (i := 7) (d := some 13) (v := .pointer (some ⟨pb, po, none⟩)) rfl rfl rfl (by kernel_rfl) (by kernel_rfl) (by kernel_rfl) (by kernel_rfl) (fun _ _ _ h => h) (.inl ⟨by rfl, fun W hW => by obtain ⟨q0, q1, q2, q3⟩ := hW; go_simp; try rfl⟩) hS0 ?_
  try simp only [Act.put, List.setIfInBounds_toArray, List.set_cons_zero, List.set_cons_succ]
  refine wpAnyS_take (i := 8) (d := some 14) (v := .int .i64 x) rfl rfl rfl (by kernel_rfl) (by kernel_rfl) (by kernel_rfl) (by kernel_rfl) (fun _ _ _ h => h) (.inl ⟨by rfl, fun W hW => by obtain ⟨q0, q1, q2, q3⟩ := hW; go_simp; try rfl⟩) hS0 ?_
  try simp only [Act.put, List.setIfInBounds_toArray, List.set_cons_zero, List.set_cons_succ]
  obtain ⟨i0, hi, hy0, hy1, hy2⟩ := info_parts info_int
  have hS1 : (fun W : World => W.cell? ⟨Br, 0, none⟩ = some (.slice (some ⟨R, 0, none⟩) 21 21) ∧ W.cell? ⟨Bc, 0, none⟩ = some (.int .i64 c) ∧ W.cell? ⟨R, c, none⟩ = some (.slice sa sn sc) ∧ W.cell? ⟨pb, po, none⟩ = some (.int .i64 x)) (W1.alloc (.cells #[.int .i64 x] 3)) := ⟨cell_alloc hS0.1 _, cell_alloc hS0.2.1 _, cell_alloc hS0.2.2.1 _, cell_alloc hS0.2.2.2 _⟩
  refine wpAnyS_ran (i := 9) (d := some 15) (v := .slice (some ⟨W1.heap.size, 0, none⟩) 1 1) (w' := W1.alloc (.cells #[.int .i64 x] 3)) (by kernel_rfl) rfl rfl (by rfl) (by go_simp; try rfl) (fun _ => hS1) ?_
  try simp only [Act.put, List.setIfInBounds_toArray, List.set_cons_zero, List.set_cons_succ]
  obtain ⟨v', w3, hr3, hown3, hx3, hn3⟩ := append_struct_run (P := Tryz.prog) 53 53 i0 _ 8 Tryz.underlying53 hi hy0 hy1 hy2 rfl (by omega) intc_len intc_one (hoc1.alloc (.cells #[.int .i64 x] 3)) x W1.heap.size 1 (int_new W1 x) (by unfold maxLen; omega) (by omega) (by rw [World.size_alloc]; omega)
  obtain ⟨⟨ua, un, uc⟩, e3⟩ := hown3.sl
  dsimp only at e3
  subst e3
  have hxa : Ext (fun k => (Value.slice sa sn sc).ownBlock = some k) W w3 := ((hW0.mono (fun _ _ f => f.elim)).alloc _).andThen hx3 (fun i hi e => e)
  have nk : ∀ {k : Nat}, (A k ∨ k < base ∨ k = Bc) → ¬ (Value.slice sa sn sc).ownBlock = some k := fun h e => by
    obtain ⟨e1, e2, _, e4⟩ := nO _ e
    rcases h with h | h | h
    · exact e1 h
    · omega
    · exact e4 h
  have hS3 : (fun W : World => W.cell? ⟨Br, 0, none⟩ = some (.slice (some ⟨R, 0, none⟩) 21 21) ∧ W.cell? ⟨Bc, 0, none⟩ = some (.int .i64 c) ∧ W.cell? ⟨R, c, none⟩ = some (.slice sa sn sc) ∧ W.cell? ⟨pb, po, none⟩ = some (.int .i64 x)) w3 := ⟨hxa.keep (cell_of_one HOLD.out.2.1) (nk (.inr (.inl d5))), hxa.keep (cell_of_one HOLD.out.2.2.1) (nk (.inr (.inr rfl))), hx3.keep hS1.2.2.1 (nk (.inr (.inl d4))), hxa.keep HOLD.out.2.2.2.1 (nk (.inl hA))⟩
  refine wpAnyS_ran (i := 10) (d := some 16) (v := .slice ua un uc) (w' := w3) (by kernel_rfl) rfl rfl (by rfl) (exec_append rfl rfl rfl hr3) (fun _ => hS3) ?_
  try simp only [Act.put, List.setIfInBounds_toArray, List.set_cons_zero, List.set_cons_succ]
  refine wpAnyS_take (i := 11) (d := some 17) (v := .pointer (some ⟨R, c, none⟩)) rfl rfl rfl (by kernel_rfl) (by kernel_rfl) (by kernel_rfl) (by kernel_rfl) (fun _ _ _ h => h) (.inl ⟨by rfl, fun W hW => by obtain ⟨q0, q1, q2, q3⟩ := hW; go_simp; try rfl⟩) hS3 ?_
  try simp only [Act.put, List.setIfInBounds_toArray, List.set_cons_zero, List.set_cons_succ]
  have hR3 : w3.heap[R]? = some (.cells cs 53 (0, 0)) := (hxa.block _ lR (nk (.inr (.inl d4)))).trans HOLD.out.1
  have f3 : w3.frozen? ⟨R, c, none⟩ = false := by simp [World.frozen?, hR3]
  have c3 := hS3.2.2.1
  refine wpAnyS_mute (i := 12) (d := none) (w' := w3.setCell ⟨R, c, none⟩ (.slice ua un uc)) (by kernel_rfl) rfl rfl (by rfl) (by go_simp; try rfl) (fun h => by cases h) ?_
  try simp only [Act.put, List.setIfInBounds_toArray, List.set_cons_zero, List.set_cons_succ]
  refine wpAnyS_done (by kernel_rfl) ?_ _
  have hx4 : Ext (· = R) w3 (w3.setCell ⟨R, c, none⟩ (.slice ua un uc)) := (Ext.refl (· = R) w3).setCell (p := ⟨R, c, none⟩) (.inr rfl) _
  have hR4 : (w3.setCell ⟨R, c, none⟩ (.slice ua un uc)).heap[R]? = some (.cells (cs.setIfInBounds c (.slice ua un uc)) 53 (0, 0)) := heap_setCell_same w3 _ c cs _ (.slice ua un uc) hR3
  have l3 := hxa.size
  have l4 := hx4.size
  have hBc4 : (w3.setCell ⟨R, c, none⟩ (.slice ua un uc)).heap[Bc]? = some (.cells #[.int .i64 c] 3 (0, 0)) := (hx4.block _ (by omega) (fun e => d2 e.symm)).trans ((hxa.block _ d6 (nk (.inr (.inr rfl)))).trans HOLD.out.2.2.1)
  have hBr4 : (w3.setCell ⟨R, c, none⟩ (.slice ua un uc)).heap[Br]? = some (.cells #[.slice (some ⟨R, 0, none⟩) 21 21] 49 (0, 0)) := (hx4.block _ (by omega) (fun e => d1 e.symm)).trans ((hxa.block _ lBr (nk (.inr (.inl d5)))).trans HOLD.out.2.1)
  have ho4 : Own intc 1 3 base (w3.setCell ⟨R, c, none⟩ (.slice ua un uc)) (.slice ua un uc) (Ls c ++ [x]) := hown3.ext hx4 (fun k hk e => by have := (hown3.blk k hk).1; omega)
  have hoq : ∀ q, q < 21 → q ≠ c → Own intc 1 3 base (w3.setCell ⟨R, c, none⟩ (.slice ua un uc)) (cs.getD q undef) (rowAt Ls o c q) := fun q hq hqc => ((HOLD.out.2.2.2.2.2 q hq).ext hxa (fun k hk e => HDIS.out q c hq hc hqc k hk (by rw [HE.out]; exact e))).ext hx4 (fun k hk e => by have := ((HOLD.out.2.2.2.2.2 q hq).blk k hk).1; omega)
  have hu : ∀ k, (Value.slice ua un uc).ownBlock = some k → (Value.slice sa sn sc).ownBlock = some k ∨ W.heap.size ≤ k := fun k hk => (hn3 k hk).imp id (fun e => by rw [World.size_alloc] at e; omega)
  have hrows : ∀ W5, Ext (· = Bc) (w3.setCell ⟨R, c, none⟩ (.slice ua un uc)) W5 → RowsIn R base (rowAt Ls o (c + 1)) A W5 := fun W5 hx5 => by
    refine ⟨_, by rw [Array.size_setIfInBounds]; exact hcs, (hx5.block _ (by omega) d2).trans hR4, fun q hq => ?_, fun q r hq hrr hqr k hk => ?_, fun q hq k hk => ?_⟩
    · rw [getD_set cs c q _ (by omega)]
      by_cases e : q = c
      · subst e
        rw [if_pos rfl, show rowAt Ls o (q + 1) q = Ls q ++ [x] by unfold rowAt; rw [if_pos (by omega), HX.out]]
        exact ho4.ext hx5 (fun k hk e => (hu k hk).elim (fun e2 => (nO k e2).2.2.2 e) (fun e2 => by omega))
      · rw [if_neg e, show rowAt Ls o (c + 1) q = rowAt Ls o c q by unfold rowAt; by_cases h : q < c; rw [if_pos h, if_pos (by omega)]; rw [if_neg h, if_neg (by omega)]]
        exact (hoq q hq e).ext hx5 (fun k hk e2 => HNC.out cs HOLD.out.1 q hq (by rw [← e2]; exact hk))
    · rw [getD_set cs c _ _ (by omega)] at hk ⊢
      by_cases e : q = c
      · rw [if_pos e] at hk
        rw [if_neg (fun e2 => hqr (e.trans e2.symm))]
        intro hk2
        rcases hu k hk with e2 | e2
        · exact HDIS.out r c hrr hc (fun e3 => hqr (e.trans e3.symm)) k hk2 (by rw [HE.out]; exact e2)
        · have := ((HOLD.out.2.2.2.2.2 r hrr).blk k hk2).2; omega
      · rw [if_neg e] at hk
        by_cases e3 : r = c
        · rw [if_pos e3]
          intro hk2
          rcases hu k hk2 with e2 | e2
          · exact HDIS.out q c hq hc e k hk (by rw [HE.out]; exact e2)
          · have := ((HOLD.out.2.2.2.2.2 q hq).blk k hk).2; omega
        · rw [if_neg e3]
          exact HDIS.out q r hq hrr hqr k hk
    · rw [getD_set cs c _ _ (by omega)] at hk
      by_cases e : q = c
      · rw [if_pos e] at hk
        intro ha
        rcases hu k hk with e2 | e2
        · exact (nO k e2).1 ha
        · have := HAL.out k ha; omega
      · rw [if_neg e] at hk
        exact HNA.out q hq k hk
  have hX4 : Ext (fun k => ¬ A k) W (w3.setCell ⟨R, c, none⟩ (.slice ua un uc)) := (hxa.mono (fun k _ e => (nO k e).1)).andThen hx4 (fun i hi e => by rw [e]; exact nR)
  have HALL := Lib.hid (And.intro hrows (And.intro hX4 (And.intro hR4 (And.intro hBr4 (And.intro hBc4 hu)))))
  have b4 := cell_of_one hBc4
  have f4 := free_of_one hBc4
  have hs4 : W.heap.size ≤ (w3.setCell ⟨R, c, none⟩ (.slice ua un uc)).heap.size := by omega
  generalize w3.setCell ⟨R, c, none⟩ (.slice ua un uc) = W4 at HALL b4 f4 hs4 ⊢
  clear hrows hX4 hR4 hBr4 hBc4 hx4 hx3 hxa hown3 ho4 hoq hS0 hS1 hS3 hR3 f3 c3 hr3 hW0 hoc1 hn3 hu nk l3 l4
  have hx5 : Ext (· = Bc) W4 (W4.setCell ⟨Bc, 0, none⟩ (.int .i64 ((c + 1 : Nat) : Int))) := (Ext.refl (· = Bc) W4).setCell (p := ⟨Bc, 0, none⟩) (.inr rfl) _
  have hX5 : Ext (fun k => ¬ A k) W (W4.setCell ⟨Bc, 0, none⟩ (.int .i64 ((c + 1 : Nat) : Int))) := HALL.out.2.1.andThen hx5 (fun i hi e => by rw [e]; exact nBc)
  have hP : ∀ q, (W4.setCell ⟨Bc, 0, none⟩ (.int .i64 ((c + 1 : Nat) : Int))).cell? ⟨pb, q, none⟩ = W.cell? ⟨pb, q, none⟩ := fun q => hX5.cell (p := ⟨pb, q, none⟩) lpb (fun h => h hA)
  have hPf : ∀ q, (W4.setCell ⟨Bc, 0, none⟩ (.int .i64 ((c + 1 : Nat) : Int))).frozen? ⟨pb, q, none⟩ = W.frozen? ⟨pb, q, none⟩ := fun q => hX5.frozen (p := ⟨pb, q, none⟩) lpb (fun h => h hA)
  have hz5 : (W4.setCell ⟨Bc, 0, none⟩ (.int .i64 ((c + 1 : Nat) : Int))).heap.size = W4.heap.size := World.size_setCell _ _ _
  have hJ5 : JE R Br Bc base Ls o (c + 1) A (W4.setCell ⟨Bc, 0, none⟩ (.int .i64 ((c + 1 : Nat) : Int))) := ⟨HALL.out.1 _ hx5, (hx5.block _ (by omega) d3).trans HALL.out.2.2.2.1, one_setCell HALL.out.2.2.2.2.1, ⟨nR, nBr, nBc⟩, ⟨d1, d2, d3, d4, d5, by omega⟩, by omega, fun k hk => by have := HAL.out k hk; omega, fun cs5 hcs5 q hq hk => by
    have h5 := (hx5.block _ (by omega) d2).trans HALL.out.2.2.1
    rw [h5] at hcs5
    cases hcs5
    rw [getD_set cs c _ _ (by omega)] at hk
    by_cases e : q = c
    · rw [if_pos e] at hk
      exact (HALL.out.2.2.2.2.2 _ hk).elim (fun e2 => (nO _ e2).2.2.2 rfl) (fun e2 => by omega)
    · rw [if_neg e] at hk
      exact HNC.out cs HOLD.out.1 q hq hk⟩
  have hfc : (W4.setCell ⟨Bc, 0, none⟩ (.int .i64 ((c + 1 : Nat) : Int))).cell? ⟨pb, po, none⟩ = some (.int .i64 (fld o c)) := by rw [HX.out, hP]; exact HOLD.out.2.2.2.1
  have HFIN := Lib.hid (And.intro hJ5 (And.intro hfc (And.intro (fun q (_ : q ≠ po) => hP q) (And.intro hPf (And.intro (hX5.mono (T := fun k => ¬ A k ∨ k = pb) (fun k _ e => .inl e)) (Shp.same (W := W) (pb := pb) (hX5.block pb lpb (fun h => h hA))))))))
  clear hJ5 hP hPf hX5 hx5 hz5 hfc
  go_wp2_with fail
  go_end0
  exact ⟨⟨_, rfl⟩, HFIN.out⟩

end Go.Proofs.YtdlnokbeadkdfaaGreatDoor

namespace Go.Proofs.YtdlnokbeadkdfaaGreatDoor
open Go.RowKit Go.Deep
set_option linter.unusedSimpArgs false
set_option linter.unusedVariables false

theorem sl_load {W : World} {b off n cap : Nat} {l : List OpD} (h : SliceIs OpD.cells 26 W (.slice (some ⟨b, off, none⟩) n cap) l) {k : Nat} {x : OpD} (hx : l[k]? = some x) :
    (Instr.loadAt 33 (.pointer (some ⟨b, off + k * 26, none⟩))).run Tryz.prog W = .ok (.agg x.cells.toArray) W :=
  load_of_cells op_ty rfl (fun j u hj => by
    obtain ⟨_, _, e, _, _, h4⟩ := h
    cases e
    obtain ⟨b2, o2, e2, h5⟩ := h4 (by rintro rfl; simp at hx)
    cases e2
    exact h5 k x hx j u hj)
theorem SliceIs.some8 {α : Type} {ea : α → List Value} {q : Nat} {W : World} {a : Option Addr} {n cap : Nat} {l : List α} (h : SliceIs ea q W (.slice a n cap) l) (hl : l ≠ []) : ∃ b o, a = some ⟨b, o, none⟩ := by
  obtain ⟨_, _, e, _, _, h4⟩ := h
  cases e
  obtain ⟨b, o, e, _⟩ := h4 hl
  exact ⟨b, o, e⟩
theorem store_fresh8 (W : World) (x : OpD) : (Instr.storeAt 33 (.pointer (some ⟨W.heap.size, 0, none⟩)) (.agg x.cells.toArray)).run Tryz.prog (W.alloc (.cells #[.int .i64 0, .int .i64 0, .int .i64 0, .int .i64 0, .int .i64 0, .int .i64 0, .int .i64 0, .int .i64 0, .int .i64 0, .int .i64 0, .int .i64 0, .int .i64 0, .int .i64 0, .int .i64 0, .int .i64 0, .int .i64 0, .int .i64 0, .string { data := #[] }, .string { data := #[] }, .string { data := #[] }, .int .i64 0, .int .i64 0, .bool false, .int .i64 0, .int .i64 0, .bool false] 33)) = .ok () (W.alloc (.cells x.cells.toArray 33)) :=
  run_store_fresh op_ty rfl (OpD.len x) (OpD.one x)
theorem RowsIn.ne {R base : Nat} {Ls : Nat → List Int} {A : Nat → Prop} {W W' : World} {S : Nat → Prop} (h : RowsIn R base Ls A W) (hx : Ext S W W') (hR : ¬ S R) {k : Nat} (hk : W.heap.size ≤ k) : ∀ cs, W'.heap[R]? = some (.cells cs 53 (0, 0)) → ∀ q, q < 21 → ¬ (cs.getD q undef).ownBlock = some k := by
  intro cs hcs q hq hb
  obtain ⟨cs2, h1, h2, h3, _⟩ := h.ex
  have h4 := (hx.block _ (Array.getElem?_eq_some_iff.1 h2).1 hR).trans h2
  rw [h4] at hcs
  cases hcs
  have := ((h3 q hq).blk k hb).2
  omega
theorem RowsIn.congr {R base : Nat} {Ls Ls' : Nat → List Int} {A A' : Nat → Prop} {W : World} (h : RowsIn R base Ls A W) (he : ∀ q, q < 21 → Ls q = Ls' q) (hA : ∀ k, A' k → A k) : RowsIn R base Ls' A' W := by
  obtain ⟨cs, h1, h2, h3, h4, h5⟩ := h.ex
  exact ⟨cs, h1, h2, fun q hq => by rw [← he q hq]; exact h3 q hq, h4, fun q hq k hk ha => h5 q hq k hk (hA k ha)⟩
theorem rowAt_zero (Ls : Nat → List Int) (o : OpD) : rowAt Ls o 0 = Ls := by funext q; unfold rowAt; rw [if_neg (by omega)]
theorem rowAt_all {l : List OpD} {k : Nat} {x : OpD} (hx : l[k]? = some x) {q : Nat} (hq : q < 21) : rowAt (fun q => numC (l.take k) q) x 21 q = numC (l.take (k + 1)) q := by
  unfold rowAt numC
  rw [if_pos hq, List.take_add_one, hx, Option.toList_some, List.map_append]
  rfl
theorem info_rows : (Tryz.prog.info? 53).map (fun i => (i.zero, i.size, i.bytes)) = some (some (.slice none 0 0), 1, 24) := by kernel_rfl
/-- What the second loop knows. -/
def RW (w5 : World) (l : List OpD) (k : Nat) (W : World) : Prop := RowsIn w5.heap.size (w5.heap.size + 2) (fun q => numC (l.take k) q) (fun j => j < w5.heap.size) W ∧ W.heap[w5.heap.size + 1]? = some (.cells #[.slice (some ⟨w5.heap.size, 0, none⟩) 21 21] 49 (0, 0)) ∧ Below w5.heap.size w5 W ∧ w5.heap.size + 2 ≤ W.heap.size
theorem colB_len {l : List OpD} (hwf : ∀ x ∈ l, x.wf) (hl : l.length ≤ 200) {c : Nat} (hc : c < 21) : (colB l c).length ≤ 4000 ∧ ∀ x ∈ numC l c, -9223372036854775808 ≤ x ∧ x ≤ 9223372036854775807 := by
  have hin : ∀ x ∈ numC l c, -9223372036854775808 ≤ x ∧ x ≤ 9223372036854775807 := fun x hx => by
    obtain ⟨o, ho, rfl⟩ := List.mem_map.1 hx
    exact (hwf o ho).2 c hc
  refine ⟨?_, hin⟩
  have hlen : (numC l c).length = l.length := by simp [numC]
  unfold colB
  split
  · have := runsB_len _ (diffsB (numC l c)) rfl (by rw [diffsB_length, hlen]; omega) (fun x hx => zigN_lt (diffsB_in hin x hx).1 (diffsB_in hin x hx).2)
    rw [diffsB_length, hlen] at this
    omega
  · have := runsB_len _ (numC l c) rfl (by rw [hlen]; omega) (fun x hx => zigN_lt (hin x hx).1 (hin x hx).2)
    rw [hlen] at this
    omega
theorem numsB_len {l : List OpD} (hwf : ∀ x ∈ l, x.wf) (hl : l.length ≤ 200) : ∀ c, c ≤ 21 → (numsB l c).length ≤ 4000 * c
  | 0, _ => by simp [numsB]
  | c + 1, h => by
    rw [numsB_succ, List.length_append]
    have h1 := numsB_len hwf hl c (by omega)
    have h2 := (colB_len hwf hl (c := c) (by omega)).1
    omega
/-- What the third loop knows. -/
structure R3 (w : World) (l : List OpD) (cv : Value) (R : Nat) (cs : Nat → Value) (W : World) (out : Value) (bs : List UInt8) : Prop where
  own : Own u8c 1 5 w.heap.size W out bs
  bel : Below w.heap.size w W
  col : Own btc 1 4 w.heap.size W cv (colsL 21)
  row : ∃ cells, W.heap[R]? = some (.cells cells 53 (0, 0)) ∧ cells.size = 21 ∧ ∀ q, q < 21 → cells.getD q undef = cs q
  num : ∀ q, q < 21 → Own intc 1 3 w.heap.size W (cs q) (numC l q)
theorem R3.below {w W w1 : World} {l : List OpD} {cv : Value} {R : Nat} {cs : Nat → Value} {out : Value} {bs : List UInt8} (h : R3 w l cv R cs W out bs) (hb : Below W.heap.size W w1) : R3 w l cv R cs w1 out bs := by
  obtain ⟨cells, h1, h2, h3⟩ := h.row
  exact ⟨h.own.below1 hb, h.bel.trans (hb.mono h.bel.size), h.col.below1 hb, ⟨cells, (hb.block _ (Array.getElem?_eq_some_iff.1 h1).1).trans h1, h2, h3⟩, fun q hq => (h.num q hq).below1 hb⟩
theorem R3.app {w w1 : World} {l : List OpD} {cv vx : Value} {R : Nat} {cs : Nat → Value} {out : Value} {bs ys : List UInt8} (h : R3 w l cv R cs w1 out bs) (hx : SliceIs u8c 1 w1 vx ys) (hl : bs.length + ys.length ≤ 140737488355328) :
    ∃ (s : Sl) (w2 : World), (Builtin.append_ #[34, 34] 34 #[out, vx]).run Tryz.prog w1 = .ok (.slice s.a s.n s.cap) w2 ∧ R3 w l cv R cs w2 (.slice s.a s.n s.cap) (bs ++ ys) := by
  obtain ⟨i0, hi, hz0, hz1, hz2⟩ := info_parts info_u8
  obtain ⟨v', w', hr, ho2, hx2⟩ := append_structs (P := Tryz.prog) 34 34 i0 _ 1 Tryz.underlying34 hi hz0 hz1 hz2 rfl (by omega) u8c_len u8c_one h.own hx (by unfold maxLen; omega) (by omega) h.bel.size
  obtain ⟨s, rfl⟩ := ho2.sl
  have tag : ∀ {b : Nat} {cur : Array Value} {t : TypeId}, w1.heap[b]? = some (.cells cur t (0, 0)) → t ≠ 5 → ¬ out.ownBlock = some b := fun hb ht e => by
    obtain ⟨cur2, h2⟩ := h.own.tag e
    rw [hb] at h2
    cases h2
    exact ht rfl
  obtain ⟨cells, h1, h2, h3⟩ := h.row
  refine ⟨s, w', hr, ho2, Ext.new h.bel hx2 (fun i hi _ e => by have := (h.own.blk i e).1; omega) h.bel.size, h.col.ext hx2 (fun k hk e => ?_), ⟨cells, (hx2.block _ (Array.getElem?_eq_some_iff.1 h1).1 (tag h1 (by decide))).trans h1, h2, h3⟩, fun q hq => (h.num q hq).ext hx2 (fun k hk e => ?_)⟩
  · obtain ⟨cur, hc⟩ := h.col.tag hk
    exact tag hc (by decide) e
  · obtain ⟨cur, hc⟩ := (h.num q hq).tag hk
    exact tag hc (by decide) e
/-- What the fourth and fifth loops know. -/
structure R4 (w : World) (W : World) (out : Value) (bs : List UInt8) : Prop where
  own : Own u8c 1 5 w.heap.size W out bs
  bel : Below w.heap.size w W
theorem R4.below {w W w1 : World} {out : Value} {bs : List UInt8} (h : R4 w W out bs) {k : Nat} (hb : Below k W w1) (hk : W.heap.size ≤ k) : R4 w w1 out bs :=
  ⟨h.own.below1 (hb.mono hk), h.bel.trans (hb.mono (Nat.le_trans h.bel.size hk))⟩
theorem R4.app {w w1 : World} {vx : Value} {out : Value} {bs ys : List UInt8} (h : R4 w w1 out bs) (hx : SliceIs u8c 1 w1 vx ys) (hl : bs.length + ys.length ≤ 140737488355328) :
    ∃ (s : Sl) (w2 : World), (Builtin.append_ #[34, 34] 34 #[out, vx]).run Tryz.prog w1 = .ok (.slice s.a s.n s.cap) w2 ∧ R4 w w2 (.slice s.a s.n s.cap) (bs ++ ys) ∧ Ext (fun b => out.ownBlock = some b) w1 w2 := by
  obtain ⟨i0, hi, hz0, hz1, hz2⟩ := info_parts info_u8
  obtain ⟨v', w', hr, ho2, hx2⟩ := append_structs (P := Tryz.prog) 34 34 i0 _ 1 Tryz.underlying34 hi hz0 hz1 hz2 rfl (by omega) u8c_len u8c_one h.own hx (by unfold maxLen; omega) (by omega) h.bel.size
  obtain ⟨s, rfl⟩ := ho2.sl
  exact ⟨s, w', hr, ⟨ho2, Ext.new h.bel hx2 (fun i hi _ e => by have := (h.own.blk i e).1; omega) h.bel.size⟩, hx2⟩
theorem app_string {base : Nat} {w : World} {v : Value} {l : List UInt8} (h : Own u8c 1 5 base w v l) (s : ByteArray) (hb : base ≤ w.heap.size) (hl : l.length + s.size ≤ 140737488355328) :
    ∃ (r : Sl) (w2 : World), (Builtin.append_ #[34, 9] 34 #[v, .string s]).run Tryz.prog w = .ok (.slice r.a r.n r.cap) w2 ∧ Own u8c 1 5 base w2 (.slice r.a r.n r.cap) (l ++ s.data.toList) ∧ Ext (fun b => v.ownBlock = some b) w w2 := by
  obtain ⟨i0, hi, hz0, hz1, hz2⟩ := info_parts info_u8
  obtain ⟨v', w', hr, ho2, hx2, -⟩ := Lib.run_append_own_string (P := Tryz.prog) w base 34 9 34 5 i0 Tryz.underlying34 Tryz.underlying9 hi hz0 hz1 hz2 v l.length (l.flatMap u8c) h s (by unfold maxLen; omega) hl hb
  have ho3 : Own u8c 1 5 base w' v' (l ++ s.data.toList) := by
    unfold Own
    rw [List.length_append, List.flatMap_append, show s.data.toList.length = s.size from by rw [Array.length_toList]; rfl, show s.data.toList.flatMap u8c = Lib.strCells s from by
      unfold Lib.strCells
      induction s.data.toList with
      | nil => rfl
      | cons a t ih => rw [List.flatMap_cons, ih, List.map_cons]; rfl]
    exact ho2
  obtain ⟨r, rfl⟩ := ho3.sl
  exact ⟨r, w', hr, ho3, Ext.of_grown hx2⟩
theorem truC_len (l : List OpD) (c : Nat) : (truC l c).length = l.length := by simp [truC]
theorem lenC_len (l : List OpD) (c : Nat) : (lenC l c).length = l.length := by simp [lenC]
theorem truC_take {l : List OpD} {k : Nat} {x : OpD} (hx : l[k]? = some x) (c : Nat) : truC (l.take (k + 1)) c = truC (l.take k) c ++ [tru x c] := by
  unfold truC
  rw [List.take_add_one, hx, Option.toList_some, List.map_append]
  rfl
theorem lenC_take {l : List OpD} {k : Nat} {x : OpD} (hx : l[k]? = some x) (c : Nat) : lenC (l.take (k + 1)) c = lenC (l.take k) c ++ [((txt x c).size : Int)] := by
  unfold lenC
  rw [List.take_add_one, hx, Option.toList_some, List.map_append]
  rfl
theorem catC_take {l : List OpD} {k : Nat} {x : OpD} (hx : l[k]? = some x) (c : Nat) : catC (l.take (k + 1)) c = catC (l.take k) c ++ (txt x c).data.toList := by
  unfold catC
  rw [List.take_add_one, hx, Option.toList_some, List.flatMap_append]
  simp
theorem trusB_len {l : List OpD} (hl : l.length ≤ 200) : ∀ c, (trusB l c).length ≤ 2010 * c
  | 0 => by simp [trusB]
  | c + 1 => by
    rw [trusB_succ, List.length_append]
    have h1 := trusB_len hl c
    have h2 := boolsB_len (l := truC l c) (by rw [truC_len]; omega)
    rw [truC_len] at h2
    omega
theorem catC_len {l : List OpD} (hr : ∀ x ∈ l, x.right = true) (c : Nat) : (catC l c).length ≤ 64 * l.length := by
  induction l with
  | nil => simp [catC]
  | cons x l ih =>
    have h1 := ih (fun y hy => hr y (List.mem_cons_of_mem _ hy))
    have h2 := (hr x (List.mem_cons_self ..))
    have h3 := OpD.right_txt h2 c
    have h4 : (catC (x :: l) c).length = (txt x c).size + (catC l c).length := by simp [catC]
    rw [h4, List.length_cons]
    omega
theorem lenC_in {l : List OpD} (hr : ∀ x ∈ l, x.right = true) (c : Nat) : ∀ n ∈ lenC l c, -9223372036854775808 ≤ n ∧ n ≤ 9223372036854775807 := fun n hn => by
  obtain ⟨o, ho, rfl⟩ := List.mem_map.1 hn
  have := OpD.right_txt (hr o ho) c
  omega
theorem lenB_len {l : List OpD} (hr : ∀ x ∈ l, x.right = true) (hl : l.length ≤ 200) (c : Nat) : (runsB (lenC l c)).length ≤ 4000 := by
  have := runsB_len _ (lenC l c) rfl (by rw [lenC_len]; omega) (fun x hx => zigN_lt (lenC_in hr c x hx).1 (lenC_in hr c x hx).2)
  rw [lenC_len] at this
  omega
theorem txtsB_len {l : List OpD} (hr : ∀ x ∈ l, x.right = true) (hl : l.length ≤ 200) : ∀ c, (txtsB l c).length ≤ 16800 * c
  | 0 => by simp [txtsB]
  | c + 1 => by
    rw [txtsB_succ, List.length_append, List.length_append]
    have h1 := txtsB_len hr hl c
    have h2 := lenB_len hr hl c
    have h3 := catC_len hr c
    omega
theorem run_index2 (p0 p1 : Option Addr) (w : World) : (Instr.index 57 (.agg #[.pointer p0, .pointer p1]) (.int .i64 0)).run Tryz.prog w = .ok (.pointer p0) w ∧ (Instr.index 57 (.agg #[.pointer p0, .pointer p1]) (.int .i64 1)).run Tryz.prog w = .ok (.pointer p1) w := ⟨by kernel_rfl, by kernel_rfl⟩
theorem run_index3 (p0 p1 p2 : Option Addr) (w : World) : (Instr.index 61 (.agg #[.pointer p0, .pointer p1, .pointer p2]) (.int .i64 0)).run Tryz.prog w = .ok (.pointer p0) w ∧ (Instr.index 61 (.agg #[.pointer p0, .pointer p1, .pointer p2]) (.int .i64 1)).run Tryz.prog w = .ok (.pointer p1) w ∧ (Instr.index 61 (.agg #[.pointer p0, .pointer p1, .pointer p2]) (.int .i64 2)).run Tryz.prog w = .ok (.pointer p2) w := ⟨by kernel_rfl, by kernel_rfl, by kernel_rfl⟩
/-- What Encode answers. -/
def EncPost (w : World) (l : List OpD) (e : Ending) (w' : World) : Prop :=
  (l.length ≤ 200 ∧ (∀ x ∈ l, x.right = true) ∧ ∃ v, e = .returned (.tuple #[v, .int .i64 0]) ∧ Own u8c 1 5 w.heap.size w' v (encB l) ∧ Below w.heap.size w w') ∨
  (200 < l.length ∧ e = .returned (.tuple #[.slice none 0 0, .int .i64 1]) ∧ Below w.heap.size w w') ∨
  (l.length ≤ 200 ∧ (∃ x ∈ l, x.right = false) ∧ e = .returned (.tuple #[.slice none 0 0, .int .i64 71]) ∧ Below w.heap.size w w')

set_option maxRecDepth 20000 in
set_option maxHeartbeats 4000000 in
theorem encode_any (v : Value) (l : List OpD) (w : World) (h : SliceIs OpD.cells 26 w v l) (hwf : ∀ x ∈ l, x.wf) (hn : l.length ≤ 1000000) : Calls Tryz.prog 7 #[v] w fun e w' => EncPost w l e w' := by
  obtain ⟨a, cap, rfl, hcap, hmax, -⟩ := id h
  unfold maxLen at hmax
  have HH := Lib.hid h
  have HWF := Lib.hid hwf
  clear h hwf
  by_cases hbig : 200 < l.length
  · have hb1 : (200 : Int) < (l.length : Int) := by omega
    go_enter Tryz.func7, Tryz.ntmps7
    go_wp2_with fail
    go_ret2
    exact .inr (.inl ⟨hbig, rfl, Below.refl _ _⟩)
  · have hb1 : ¬ (200 : Int) < (l.length : Int) := by omega
    go_enter Tryz.func7, Tryz.ntmps7
    go_wp2_with fail
    go_loopg [29] l.length (fun g kv wx => ∃ k : Nat, g = l.length - k ∧ kv = .int .i64 k ∧ k ≤ l.length ∧ Hid ((∀ x ∈ l.take k, x.right = true) ∧ Below w.heap.size w wx))
    case atStart => exact ⟨0, rfl, rfl, Nat.zero_le _, Lib.hid ⟨fun x hx => by simp at hx, Below.refl _ _⟩⟩
    case round =>
      obtain ⟨k, hg, rfl, hk, HR⟩ := hrel
      have HG := Lib.hid hg
      clear hg
      by_cases hlt : k < l.length
      · have hk1 : (k : Int) < (l.length : Int) := by omega
        obtain ⟨x, hx⟩ : ∃ x, l[k]? = some x := ⟨_, List.getElem?_eq_getElem hlt⟩
        have hsl := HH.out.below HR.out.2
        obtain ⟨b0, o0, rfl⟩ := hsl.some8 (by rintro rfl; simp at hlt)
        have hld := sl_load hsl hx
        have hst := store_fresh8 wr x
        have HLD := Lib.hid (And.intro hld hst)
        have HX := Lib.hid hx
        have hxw := HWF.out x (List.mem_of_getElem? hx)
        have HXW := Lib.hid hxw
        have hb2 : Below w.heap.size w (wr.alloc (.cells x.cells.toArray 33)) := HR.out.2.alloc HR.out.2.size _
        have hob := OB.new wr x
        have hw2 := OB.whole hob
        have HW2 := Lib.hid (And.intro hb2 hw2)
        clear hsl hld hst hx hxw hob hw2 hb2
        go_wp2_with (first | ((with_reducible_and_instances refine wpList_ranG (o := ⟨some 32, _, _, _, _, _⟩) (v := .agg x.cells.toArray) ?_ ?_ ?_); rfl; exact exec_load rfl rfl HLD.out.1) | (refine wpList_store_run (T := 33) rfl rfl rfl rfl HLD.out.2 ?_) | ((with_reducible_and_instances refine wpList_ranG (o := ⟨some 33, _, _, _, _, _⟩) (v := .agg x.cells.toArray) ?_ ?_ ?_); rfl; exact exec_load rfl rfl HW2.out.2))
        refine (oright_any x _ HXW.out.1).mono ?_
        rintro e w3 ⟨rfl, b3⟩
        have HB3 : Hid (Below w.heap.size w w3) := Lib.hid (HW2.out.1.trans (b3.mono HW2.out.1.size))
        clear b3 HW2 HLD
        cases hr : x.right with
        | false =>
          have HBAD : Hid (∃ x ∈ l, x.right = false) := Lib.hid ⟨x, List.mem_of_getElem? HX.out, hr⟩
          clear hr
          go_wp2_with fail
          go_ret2
          exact .inr (.inr ⟨by omega, HBAD.out, rfl, HB3.out⟩)
        | true =>
          have HN : Hid ((∀ y ∈ l.take (k + 1), y.right = true) ∧ Below w.heap.size w w3) := Lib.hid ⟨fun y hy => by
            rw [List.take_add_one, HX.out, Option.toList_some] at hy
            rcases List.mem_append.1 hy with hy | hy
            · exact HR.out.1 y hy
            · rw [List.mem_singleton.1 hy]; exact hr, HB3.out⟩
          clear hr HR HB3
          go_wp2_with fail
          go_roundg (l.length - (k + 1))
          case measure => rw [HG.out]; omega
          case rel => exact ⟨k + 1, rfl, by simp, by omega, HN⟩
      · obtain rfl : k = l.length := by omega
        have hk1 : ¬ (l.length : Int) < (l.length : Int) := by omega
        have HALL : Hid (∀ x ∈ l, x.right = true) := Lib.hid (by have := HR.out.1; rwa [List.take_length] at this)
        have HB : Hid (Below w.heap.size w wr) := Lib.hid HR.out.2
        clear hlt HR hk
        have hlw : IntKind.u64.wrap (l.length : Int) = (l.length : Int) := by rw [u64_wrap]; omega
        go_wp2_with fail
        refine (put_any l.length _ (by omega)).mono ?_
        rintro e w4 ⟨v4, rfl, hown4, b4⟩
        obtain ⟨⟨pa, pn, pc⟩, e4⟩ := hown4.sl
        dsimp only at e4
        subst e4
        have HB4 : Hid (Below w.heap.size w w4 ∧ Own u8c 1 5 w.heap.size w4 (.slice pa pn pc) (putB l.length)) := Lib.hid ⟨HB.out.trans (b4.mono HB.out.size), hown4.mono HB.out.size⟩
        clear hown4 b4 HB hlw
        go_wp2_with fail
        refine (columns_any _).mono ?_
        rintro e w5 ⟨v5, rfl, hown5, b5⟩
        obtain ⟨⟨ca, cn, cc⟩, e5⟩ := hown5.sl
        dsimp only at e5
        subst e5
        obtain rfl : cn = 21 := by have := (hown5.nlen btc_len).1; rw [colsL_len] at this; exact this
        have HB5 : Hid (Below w.heap.size w w5 ∧ Own u8c 1 5 w.heap.size w5 (.slice pa pn pc) (putB l.length) ∧ Own btc 1 4 w.heap.size w5 (.slice ca 21 cc) (colsL 21)) := Lib.hid ⟨HB4.out.1.trans (b5.mono HB4.out.1.size), HB4.out.2.below1 b5, hown5.mono HB4.out.1.size⟩
        clear hown5 b5 HB4
        obtain ⟨i1, hi1, hy10, hy11, hy12⟩ := info_parts info_rows
        have hmk := run_makeSlice (P := Tryz.prog) w5 49 53 i1 (.slice none 0 0) Tryz.underlying49 hi1 hy10 .i64 .i64 21 21 (by omega) (by omega) (by rw [hy11]; decide) (by rw [hy12]; omega) (by omega)
        rw [hy11] at hmk
        obtain ⟨MC, hMC⟩ : ∃ MC : List Value, MC = List.replicate 21 (Value.slice none 0 0) := ⟨_, rfl⟩
        have hmc : madeCells (Value.slice none 0 0).cells ((21 : Int).toNat * 1) = MC.toArray := by rw [hMC, show (21 : Int).toNat = 21 from rfl, made_rep _ rfl]; rfl
        rw [hmc] at hmk
        obtain ⟨W6, hW6⟩ : ∃ W6, (w5.alloc (.cells MC.toArray 53)).alloc (.cells #[.slice (some ⟨w5.heap.size, 0, none⟩) 21 21] 49) = W6 := ⟨_, rfl⟩
        have HR0 : Hid (RW w5 l 0 W6) := Lib.hid (by
          have h1 : W6.heap[w5.heap.size]? = some (.cells MC.toArray 53 (0, 0)) := by rw [← hW6]; exact (Below.heap_alloc _ _ _ (by simp)).trans (heap_new8 w5 _)
          have h2 : W6.heap[w5.heap.size + 1]? = some (.cells #[.slice (some ⟨w5.heap.size, 0, none⟩) 21 21] 49 (0, 0)) := by
            rw [← hW6]
            have := heap_new8 (w5.alloc (.cells MC.toArray 53)) (.cells #[.slice (some ⟨w5.heap.size, 0, none⟩) 21 21] 49)
            rwa [World.size_alloc] at this
          have hg : ∀ q, q < 21 → MC.toArray.getD q undef = .slice none 0 0 := fun q hq => by
            rw [Array.getD_eq_getD_getElem?, List.getElem?_toArray, hMC, List.getElem?_replicate, if_pos hq]
            rfl
          refine ⟨⟨_, by simp [hMC], h1, fun q hq => ?_, fun q r hq hr _ k hk => ?_, fun q hq k hk => ?_⟩, h2, by rw [← hW6]; exact ((Below.refl _ _).alloc (Nat.le_refl _) _).alloc (by simp) _, by rw [← hW6]; simp⟩
          · rw [hg q hq]; exact Own.nil
          · rw [hg q hq] at hk; cases hk
          · rw [hg q hq] at hk; cases hk)
        have HW6 := Lib.hid hW6
        clear hW6 hmc hMC
        go_upto_region 12 with fail
        rw [HW6.out]
        clear hmk HW6
        go_wp2_with fail
        go_loopg [47] l.length (fun g kv wx => ∃ k : Nat, g = l.length - k ∧ kv = .int .i64 k ∧ k ≤ l.length ∧ Hid (RW w5 l k wx))
        case atStart => exact ⟨0, rfl, rfl, Nat.zero_le _, HR0⟩
        case round =>
          clear HR0
          obtain ⟨k, hg, rfl, hk, HR⟩ := hrel
          have HG := Lib.hid hg
          clear hg
          by_cases hlt : k < l.length
          · have hk1 : (k : Int) < (l.length : Int) := by omega
            obtain ⟨x, hx⟩ : ∃ x, l[k]? = some x := ⟨_, List.getElem?_eq_getElem hlt⟩
            have hsl := HH.out.below (HB5.out.1.trans (HR.out.2.2.1.mono HB5.out.1.size))
            obtain ⟨b0, o0, rfl⟩ := hsl.some8 (by rintro rfl; simp at hlt)
            have HLD := Lib.hid (And.intro (sl_load hsl hx) (store_fresh8 wr x))
            have HX := Lib.hid hx
            clear hsl hx
            go_wp2_with (first | ((with_reducible_and_instances refine wpList_ranG (o := ⟨some 50, _, _, _, _, _⟩) (v := .agg x.cells.toArray) ?_ ?_ ?_); rfl; exact exec_load rfl rfl HLD.out.1) | (refine wpList_store_run (T := 33) rfl rfl rfl rfl HLD.out.2 ?_))
            have hz2 : ((wr.alloc (.cells x.cells.toArray 33)).alloc (.cells #[.int .i64 0] 3)).heap.size = wr.heap.size + 2 := by simp
            have hx2 : Ext (fun _ => False) wr ((wr.alloc (.cells x.cells.toArray 33)).alloc (.cells #[.int .i64 0] 3)) := ((Ext.refl _ _).alloc _).alloc _
            have hop : OB wr.heap.size x ((wr.alloc (.cells x.cells.toArray 33)).alloc (.cells #[.int .i64 0] 3)) := (OB.new wr x).alloc _
            have hc2 : ((wr.alloc (.cells x.cells.toArray 33)).alloc (.cells #[.int .i64 0] 3)).heap[wr.heap.size + 1]? = some (.cells #[.int .i64 0] 3 (0, 0)) := by
              have := heap_new8 (wr.alloc (.cells x.cells.toArray 33)) (.cells #[.int .i64 0] 3)
              rwa [World.size_alloc] at this
            generalize (wr.alloc (.cells x.cells.toArray 33)).alloc (.cells #[.int .i64 0] 3) = W2 at hz2 hx2 hop hc2 ⊢
            have hA : At wr.heap.size 0 x (fld x) W2 := At.of_cells (fun j u hj => by rw [Nat.zero_add]; exact hop.cell hj) (fun j _ => by rw [Nat.zero_add]; exact hop.free j)
            have hr := HR.out
            have hJ0 : JE w5.heap.size (w5.heap.size + 1) (wr.heap.size + 1) (w5.heap.size + 2) (fun q => numC (l.take k) q) x 0 (fun j => j < w5.heap.size ∨ j = wr.heap.size) W2 :=
              ⟨by rw [rowAt_zero]; exact hr.1.ext hx2 id (fun _ f => f.elim) (fun j hj => hj.imp id (fun e => by omega)), (hx2.block _ (by have := hr.2.2.2; omega) id).trans hr.2.1, hc2, ⟨fun h => by have := hr.2.2.2; omega, fun h => by have := hr.2.2.2; omega, fun h => by have := hr.2.2.2; omega⟩, ⟨by omega, by have := hr.2.2.2; omega, by have := hr.2.2.2; omega, by omega, by omega, by omega⟩, by have := hr.2.2.2; omega, fun j hj => by have := hr.2.2.2; omega, hr.1.ne hx2 id (by omega)⟩
            refine (ints_any (enters_of Tryz.func18 (by kernel_rfl) rfl) wr.heap.size 0 x (fld x) _ (fun j => j < w5.heap.size ∨ j = wr.heap.size) W2 (rows_use w5.heap.size (w5.heap.size + 1) (wr.heap.size + 1) (w5.heap.size + 2) (fun q => numC (l.take k) q) x (fun q => by unfold numC; rw [List.length_map, List.length_take]; omega)) (JE.jok _ _ _ _ _ _ _) (.inr rfl) hA hJ0).mono ?_
            rintro e w3 ⟨⟨v3, rfl⟩, hJ, -, hx3, -⟩
            have HN : Hid (RW w5 l (k + 1) w3) := Lib.hid ⟨hJ.1.congr (fun q hq => rowAt_all HX.out hq) (fun j hj => .inl hj), hJ.2.1, Ext.new (hr.2.2.1.trans ((Ext.below hx2).mono (by have := hr.2.2.2; omega))) hx3 (fun i hi _ e => e.elim (fun e => e (.inl hi)) (fun e => by have := hr.2.2.2; omega)) (by have := hr.2.2.2; omega), by have := hx3.size; have := hr.2.2.2; omega⟩
            clear hJ hx3 hJ0 hr hA hop hc2 hx2 hz2 HLD HR
            go_wp2_with fail
            go_roundg (l.length - (k + 1))
            case measure => rw [HG.out]; omega
            case rel => exact ⟨k + 1, rfl, by simp, by omega, HN⟩
          · obtain rfl : k = l.length := by omega
            have hk1 : ¬ (l.length : Int) < (l.length : Int) := by omega
            clear hlt hk
            obtain ⟨⟨cells, hcs1, hcs2, hcs3, -, -⟩, hcs6, hcs7, -⟩ := HR.out
            have HR3 : Hid (R3 w l (.slice ca 21 cc) w5.heap.size (fun q => cells.getD q undef) wr (.slice pa pn pc) (putB l.length ++ numsB l 0)) := Lib.hid ⟨by rw [show numsB l 0 = [] from rfl, List.append_nil]; exact HB5.out.2.1.below1 hcs7, HB5.out.1.trans (hcs7.mono HB5.out.1.size), HB5.out.2.2.below1 hcs7, ⟨cells, hcs2, hcs1, fun q hq => rfl⟩, fun q hq => by have := hcs3 q hq; simp only [List.take_length] at this; exact this.mono (by have := HB5.out.1.size; omega)⟩
            have c6 := cell_of_one hcs6
            generalize (fun q => cells.getD q undef) = cs at HR3
            obtain ⟨R, hR⟩ : ∃ R, R = w5.heap.size := ⟨_, rfl⟩
            clear hcs1 hcs2 hcs3 hcs6 hcs7 HR
            go_wp2_with fail
            clear c6
            go_loopg [56, 6] 21 (fun g kv ov wx => ∃ (k : Nat) (s : Sl), g = 21 - k ∧ kv = .int .i64 k ∧ ov = .slice s.a s.n s.cap ∧ k ≤ 21 ∧ Hid (R3 w l (.slice ca 21 cc) w5.heap.size cs wx (.slice s.a s.n s.cap) (putB l.length ++ numsB l k)))
            case atStart => exact ⟨0, ⟨pa, pn, pc⟩, rfl, rfl, rfl, by omega, HR3⟩
            case round =>
              clear HR3
              obtain ⟨k, ⟨ta, tn, tc⟩, hg, rfl, rfl, hk, HR⟩ := hrel
              dsimp only at HR ⊢
              have HG := Lib.hid hg
              clear hg
              by_cases hlt : k < 21
              · have hk1 : (k : Int) < 21 := by omega
                have hcell : wr.cell? ⟨w5.heap.size, k, none⟩ = some (cs k) := by
                  obtain ⟨cells, h1, h2, h3⟩ := HR.out.row
                  unfold World.cell?
                  rw [h1, ← h3 k hlt, Array.getD_eq_getD_getElem?]
                  simp [h2, hlt]
                obtain ⟨⟨ra, rn, rc⟩, er⟩ := (HR.out.num k hlt).sl
                dsimp only at er
                rw [er] at hcell
                have HNUM : Hid (SliceIs intc 1 wr (.slice ra rn rc) (numC l k)) := Lib.hid (by rw [← er]; exact (HR.out.num k hlt).slice intc_len)
                obtain ⟨b9, o9, e9, c9⟩ := (HR.out.col.slice btc_len).at1 (k := k) (x := dlt k) (by simp [colsL, hlt]) rfl
                cases e9
                have HCL := Lib.hid (colB_len HWF.out (by omega) hlt)
                have hln : (numC l k).length = l.length := by simp [numC]
                have HLN := Lib.hid hln
                have HLEN : Hid ((putB l.length ++ numsB l k).length + (colB l k).length ≤ 140737488355328) := Lib.hid (by have h1 := numsB_len HWF.out (by omega) k (by omega); have h2 := HCL.out.1; have h3 := putB_le10 (n := l.length) (by omega); rw [List.length_append]; omega)
                clear hln er
                cases hd : dlt k with
                  | false =>
                    have hcol : colB l k = runsB (numC l k) := by unfold colB; rw [hd]; rfl
                    have HCOL := Lib.hid hcol
                    clear hcol
                    rw [hd] at c9
                    clear hd
                    go_wp2_with fail
                    refine (cruns_any _ (numC l k) _ HNUM.out (by rw [HLN.out]; omega) HCL.out.2).mono ?_
                    rintro e w7 ⟨v7, rfl, hown7, b7⟩
                    obtain ⟨⟨ua, un, uc⟩, w8, hr8, h8⟩ := R3.app (HR.out.below b7) (hown7.slice u8c_len) (by have := HLEN.out; rw [HCOL.out] at this; exact this)
                    rw [← HCOL.out, List.append_assoc, ← numsB_succ] at h8
                    have HN := Lib.hid h8
                    clear h8 hown7 b7 HNUM hcell c9
                    go_wp2_with (at_builtin; refine Lib.wpList_append_run _ rfl _ _ _ _ rfl _ _ rfl rfl _ _ hr8 ?_)
                    go_roundg (21 - (k + 1))
                    case measure => rw [HG.out]; omega
                    case rel => exact ⟨k + 1, ⟨ua, un, uc⟩, rfl, by simp, rfl, by omega, HN⟩
                  | true =>
                    have hcol : colB l k = runsB (diffsB (numC l k)) := by unfold colB; rw [hd]; rfl
                    have HCOL := Lib.hid hcol
                    clear hcol
                    rw [hd] at c9
                    clear hd
                    go_wp2_with fail
                    refine (cdeltas_any _ (numC l k) _ HNUM.out (by rw [HLN.out]; omega) HCL.out.2).mono ?_
                    rintro e w7 ⟨v7, rfl, hown7, b7⟩
                    obtain ⟨⟨ua, un, uc⟩, w8, hr8, h8⟩ := R3.app (HR.out.below b7) (hown7.slice u8c_len) (by have := HLEN.out; rw [HCOL.out] at this; exact this)
                    rw [← HCOL.out, List.append_assoc, ← numsB_succ] at h8
                    have HN := Lib.hid h8
                    clear h8 hown7 b7 HNUM hcell c9
                    go_wp2_with (at_builtin; refine Lib.wpList_append_run _ rfl _ _ _ _ rfl _ _ rfl rfl _ _ hr8 ?_)
                    go_roundg (21 - (k + 1))
                    case measure => rw [HG.out]; omega
                    case rel => exact ⟨k + 1, ⟨ua, un, uc⟩, rfl, by simp, rfl, by omega, HN⟩
              · obtain rfl : k = 21 := by omega
                have hk1 : ¬ (21 : Int) < 21 := by omega
                have HO : Hid (R4 w wr (.slice ta tn tc) (putB l.length ++ numsB l 21 ++ trusB l 0)) := Lib.hid (by rw [show trusB l 0 = [] from rfl, List.append_nil]; exact ⟨HR.out.own, HR.out.bel⟩)
                clear hlt hk HR
                go_wp2_with fail
                go_loopg [74, 6] 2 (fun g kv ov wx => ∃ (k : Nat) (s : Sl), g = 2 - k ∧ kv = .int .i64 k ∧ ov = .slice s.a s.n s.cap ∧ k ≤ 2 ∧ Hid (R4 w wx (.slice s.a s.n s.cap) (putB l.length ++ numsB l 21 ++ trusB l k)))
                case atStart => exact ⟨0, ⟨ta, tn, tc⟩, rfl, rfl, rfl, by omega, HO⟩
                case round =>
                  clear HO
                  obtain ⟨k, ⟨ta, tn, tc⟩, hg, rfl, rfl, hk, HR⟩ := hrel
                  dsimp only at HR ⊢
                  have HG := Lib.hid hg
                  clear hg
                  obtain ⟨w9, rfl⟩ : ∃ w9, w9 = wr := ⟨_, rfl⟩
                  obtain ⟨i0, hi, hy0, hy1, hy2⟩ := info_parts info_bt
                  rcases (by omega : k = 0 ∨ k = 1 ∨ k = 2) with rfl | rfl | rfl
                  · rw [show ((0 : Nat) : Int) = 0 from rfl]
                    clear hk
                    go_wp2_with fail
                    go_loopg [79, 15] l.length (fun g kv bv wx => ∃ (j : Nat) (s : Sl), g = l.length - j ∧ kv = .int .i64 j ∧ bv = .slice s.a s.n s.cap ∧ j ≤ l.length ∧ Hid (Own btc 1 4 w9.heap.size wx (.slice s.a s.n s.cap) (truC (l.take j) 0) ∧ Below w9.heap.size w9 wx))
                    case atStart => exact ⟨0, ⟨none, 0, 0⟩, rfl, rfl, rfl, Nat.zero_le _, Lib.hid ⟨Own.nil, Below.refl _ _⟩⟩
                    case round =>
                      obtain ⟨j, ⟨sa, sn, sc⟩, hg, rfl, rfl, hj, HI⟩ := hrel
                      dsimp only at HI ⊢
                      have HG2 := Lib.hid hg
                      clear hg
                      by_cases hlt : j < l.length
                      · have hk1 : (j : Int) < (l.length : Int) := by omega
                        obtain ⟨x, hx⟩ : ∃ x, l[j]? = some x := ⟨_, List.getElem?_eq_getElem hlt⟩
                        have hsl := HH.out.below (HR.out.bel.trans (HI.out.2.mono HR.out.bel.size))
                        obtain ⟨b0, o0, rfl⟩ := hsl.some8 (by rintro rfl; simp at hlt)
                        have HLD := Lib.hid (And.intro (sl_load hsl hx) (store_fresh8 wr x))
                        have HX := Lib.hid hx
                        have HOB := Lib.hid (OB.new wr x)
                        clear hsl hx
                        go_wp2_with (first | ((with_reducible_and_instances refine wpList_ranG (o := ⟨some 82, _, _, _, _, _⟩) (v := .agg x.cells.toArray) ?_ ?_ ?_); rfl; exact exec_load rfl rfl HLD.out.1) | (refine wpList_store_run (T := 33) rfl rfl rfl rfl HLD.out.2 ?_))
                        refine (truths_any wr.heap.size 0 _).mono ?_
                        rintro e w3 ⟨rfl, b3⟩
                        have c9 : w3.cell? ⟨wr.heap.size, 22, none⟩ = some (.bool (tru x 0)) := (HOB.out.below b3 (by simp)).cell rfl
                        have HI2 := Lib.hid ((HI.out.1.alloc (.cells x.cells.toArray 33)).below1 b3)
                        have HB3 : Hid (Below w9.heap.size w9 w3) := Lib.hid ((HI.out.2.alloc HI.out.2.size _).trans (b3.mono (by have := HI.out.2.size; simp; omega)))
                        have HBD : Hid ((truC (l.take j) 0).length + 1 ≤ maxLen ∧ ((truC (l.take j) 0).length + 1) * 1 ≤ 140737488355328) := Lib.hid (by rw [truC_len, List.length_take]; unfold maxLen; omega)
                        have hix := (run_index2 (some ⟨wr.heap.size, 22, none⟩) (some ⟨wr.heap.size, 25, none⟩) w3).1
                        simp only [Nat.zero_add]
                        clear b3 HLD HOB HI
                        go_wp2_with (at_builtin; refine wpList_append_struct2 rfl _ _ _ rfl i0 _ 1 Tryz.underlying47 hi hy0 hy1 hy2 rfl (by omega) btc_len btc_one rfl (HI2.out.alloc _) (tru x 0) w3.heap.size 1 rfl (bt_new _ (tru x 0)) HBD.out.1 HBD.out.2 (by have := HB3.out.size; simp; omega) ?_)
                        intro v' w4 hown4 hx4 hn4
                        rw [← truC_take HX.out] at hown4
                        obtain ⟨⟨ua, un, uc⟩, e4⟩ := hown4.sl
                        dsimp only at e4
                        subst e4
                        have HN : Hid (Own btc 1 4 w9.heap.size w4 (.slice ua un uc) (truC (l.take (j + 1)) 0) ∧ Below w9.heap.size w9 w4) := Lib.hid ⟨hown4, Ext.new (HB3.out.alloc HB3.out.size _) hx4 (fun i hi _ e => by have := (HI2.out.blk i e).1; omega) (by have := HB3.out.size; simp; omega)⟩
                        clear hown4 hx4 hn4 c9 hix HI2 HB3
                        go_wp2_with fail
                        go_roundg (l.length - (j + 1))
                        case measure => rw [HG2.out]; omega
                        case rel => exact ⟨j + 1, ⟨ua, un, uc⟩, rfl, by simp, rfl, by omega, HN⟩
                      · obtain rfl : j = l.length := by omega
                        have hk1 : ¬ (l.length : Int) < (l.length : Int) := by omega
                        have HBL : Hid (SliceIs btc 1 wr (.slice sa sn sc) (truC l 0)) := Lib.hid (by have := HI.out.1.slice btc_len; rwa [List.take_length] at this)
                        have HRR : Hid (R4 w wr (.slice ta tn tc) (putB l.length ++ numsB l 21 ++ trusB l 0)) := Lib.hid (HR.out.below HI.out.2 (Nat.le_refl _))
                        have HLEN : Hid ((putB l.length ++ numsB l 21 ++ trusB l 0).length + (boolsB (truC l 0)).length ≤ 140737488355328) := Lib.hid (by have h1 := numsB_len HWF.out (by omega) 21 (by omega); have h2 := boolsB_len (l := truC l 0) (by rw [truC_len]; omega); rw [truC_len] at h2; have h3 := putB_le10 (n := l.length) (by omega); have h4 := trusB_len (l := l) (by omega) 0; rw [List.length_append, List.length_append]; omega)
                        clear HI HR hlt hj
                        go_wp2_with fail
                        refine (cbools_any _ (truC l 0) _ HBL.out (by rw [truC_len]; omega)).mono ?_
                        rintro e w7 ⟨v7, rfl, hown7, b7⟩
                        obtain ⟨⟨ua, un, uc⟩, w8, hr8, h8, -⟩ := R4.app (HRR.out.below b7 (Nat.le_refl _)) (hown7.slice u8c_len) HLEN.out
                        rw [List.append_assoc, ← trusB_succ] at h8
                        have HN := Lib.hid h8
                        clear h8 hown7 b7 HBL HRR HLEN
                        go_wp2_with (at_builtin; refine Lib.wpList_append_run _ rfl _ _ _ _ rfl _ _ rfl rfl _ _ hr8 ?_)
                        go_roundg (2 - (0 + 1))
                        case measure => rw [HG.out]; omega
                        case rel => exact ⟨1, ⟨ua, un, uc⟩, rfl, rfl, rfl, by omega, HN⟩
                  · rw [show ((1 : Nat) : Int) = 1 from rfl]
                    clear hk
                    go_wp2_with fail
                    go_loopg [79, 15] l.length (fun g kv bv wx => ∃ (j : Nat) (s : Sl), g = l.length - j ∧ kv = .int .i64 j ∧ bv = .slice s.a s.n s.cap ∧ j ≤ l.length ∧ Hid (Own btc 1 4 w9.heap.size wx (.slice s.a s.n s.cap) (truC (l.take j) 1) ∧ Below w9.heap.size w9 wx))
                    case atStart => exact ⟨0, ⟨none, 0, 0⟩, rfl, rfl, rfl, Nat.zero_le _, Lib.hid ⟨Own.nil, Below.refl _ _⟩⟩
                    case round =>
                      obtain ⟨j, ⟨sa, sn, sc⟩, hg, rfl, rfl, hj, HI⟩ := hrel
                      dsimp only at HI ⊢
                      have HG2 := Lib.hid hg
                      clear hg
                      by_cases hlt : j < l.length
                      · have hk1 : (j : Int) < (l.length : Int) := by omega
                        obtain ⟨x, hx⟩ : ∃ x, l[j]? = some x := ⟨_, List.getElem?_eq_getElem hlt⟩
                        have hsl := HH.out.below (HR.out.bel.trans (HI.out.2.mono HR.out.bel.size))
                        obtain ⟨b0, o0, rfl⟩ := hsl.some8 (by rintro rfl; simp at hlt)
                        have HLD := Lib.hid (And.intro (sl_load hsl hx) (store_fresh8 wr x))
                        have HX := Lib.hid hx
                        have HOB := Lib.hid (OB.new wr x)
                        clear hsl hx
                        go_wp2_with (first | ((with_reducible_and_instances refine wpList_ranG (o := ⟨some 82, _, _, _, _, _⟩) (v := .agg x.cells.toArray) ?_ ?_ ?_); rfl; exact exec_load rfl rfl HLD.out.1) | (refine wpList_store_run (T := 33) rfl rfl rfl rfl HLD.out.2 ?_))
                        refine (truths_any wr.heap.size 0 _).mono ?_
                        rintro e w3 ⟨rfl, b3⟩
                        have c9 : w3.cell? ⟨wr.heap.size, 25, none⟩ = some (.bool (tru x 1)) := (HOB.out.below b3 (by simp)).cell rfl
                        have HI2 := Lib.hid ((HI.out.1.alloc (.cells x.cells.toArray 33)).below1 b3)
                        have HB3 : Hid (Below w9.heap.size w9 w3) := Lib.hid ((HI.out.2.alloc HI.out.2.size _).trans (b3.mono (by have := HI.out.2.size; simp; omega)))
                        have HBD : Hid ((truC (l.take j) 1).length + 1 ≤ maxLen ∧ ((truC (l.take j) 1).length + 1) * 1 ≤ 140737488355328) := Lib.hid (by rw [truC_len, List.length_take]; unfold maxLen; omega)
                        have hix := (run_index2 (some ⟨wr.heap.size, 22, none⟩) (some ⟨wr.heap.size, 25, none⟩) w3).2
                        simp only [Nat.zero_add]
                        clear b3 HLD HOB HI
                        go_wp2_with (at_builtin; refine wpList_append_struct2 rfl _ _ _ rfl i0 _ 1 Tryz.underlying47 hi hy0 hy1 hy2 rfl (by omega) btc_len btc_one rfl (HI2.out.alloc _) (tru x 1) w3.heap.size 1 rfl (bt_new _ (tru x 1)) HBD.out.1 HBD.out.2 (by have := HB3.out.size; simp; omega) ?_)
                        intro v' w4 hown4 hx4 hn4
                        rw [← truC_take HX.out] at hown4
                        obtain ⟨⟨ua, un, uc⟩, e4⟩ := hown4.sl
                        dsimp only at e4
                        subst e4
                        have HN : Hid (Own btc 1 4 w9.heap.size w4 (.slice ua un uc) (truC (l.take (j + 1)) 1) ∧ Below w9.heap.size w9 w4) := Lib.hid ⟨hown4, Ext.new (HB3.out.alloc HB3.out.size _) hx4 (fun i hi _ e => by have := (HI2.out.blk i e).1; omega) (by have := HB3.out.size; simp; omega)⟩
                        clear hown4 hx4 hn4 c9 hix HI2 HB3
                        go_wp2_with fail
                        go_roundg (l.length - (j + 1))
                        case measure => rw [HG2.out]; omega
                        case rel => exact ⟨j + 1, ⟨ua, un, uc⟩, rfl, by simp, rfl, by omega, HN⟩
                      · obtain rfl : j = l.length := by omega
                        have hk1 : ¬ (l.length : Int) < (l.length : Int) := by omega
                        have HBL : Hid (SliceIs btc 1 wr (.slice sa sn sc) (truC l 1)) := Lib.hid (by have := HI.out.1.slice btc_len; rwa [List.take_length] at this)
                        have HRR : Hid (R4 w wr (.slice ta tn tc) (putB l.length ++ numsB l 21 ++ trusB l 1)) := Lib.hid (HR.out.below HI.out.2 (Nat.le_refl _))
                        have HLEN : Hid ((putB l.length ++ numsB l 21 ++ trusB l 1).length + (boolsB (truC l 1)).length ≤ 140737488355328) := Lib.hid (by have h1 := numsB_len HWF.out (by omega) 21 (by omega); have h2 := boolsB_len (l := truC l 1) (by rw [truC_len]; omega); rw [truC_len] at h2; have h3 := putB_le10 (n := l.length) (by omega); have h4 := trusB_len (l := l) (by omega) 1; rw [List.length_append, List.length_append]; omega)
                        clear HI HR hlt hj
                        go_wp2_with fail
                        refine (cbools_any _ (truC l 1) _ HBL.out (by rw [truC_len]; omega)).mono ?_
                        rintro e w7 ⟨v7, rfl, hown7, b7⟩
                        obtain ⟨⟨ua, un, uc⟩, w8, hr8, h8, -⟩ := R4.app (HRR.out.below b7 (Nat.le_refl _)) (hown7.slice u8c_len) HLEN.out
                        rw [List.append_assoc, ← trusB_succ] at h8
                        have HN := Lib.hid h8
                        clear h8 hown7 b7 HBL HRR HLEN
                        go_wp2_with (at_builtin; refine Lib.wpList_append_run _ rfl _ _ _ _ rfl _ _ rfl rfl _ _ hr8 ?_)
                        go_roundg (2 - (1 + 1))
                        case measure => rw [HG.out]; omega
                        case rel => exact ⟨2, ⟨ua, un, uc⟩, rfl, rfl, rfl, by omega, HN⟩
                  · rw [show ((2 : Nat) : Int) = 2 from rfl]
                    clear hk hi hy0 hy1 hy2
                    have HO : Hid (R4 w w9 (.slice ta tn tc) (putB l.length ++ numsB l 21 ++ trusB l 2 ++ txtsB l 0)) := Lib.hid (by rw [show txtsB l 0 = [] from rfl, List.append_nil]; exact HR.out)
                    clear HR
                    go_wp2_with fail
                    go_loopg [97, 6] 3 (fun g kv ov wx => ∃ (k : Nat) (s : Sl), g = 3 - k ∧ kv = .int .i64 k ∧ ov = .slice s.a s.n s.cap ∧ k ≤ 3 ∧ Hid (R4 w wx (.slice s.a s.n s.cap) (putB l.length ++ numsB l 21 ++ trusB l 2 ++ txtsB l k)))
                    case atStart => exact ⟨0, ⟨ta, tn, tc⟩, rfl, rfl, rfl, by omega, HO⟩
                    case round =>
                      clear HO
                      obtain ⟨k, ⟨ta, tn, tc⟩, hg, rfl, rfl, hk, HR⟩ := hrel
                      dsimp only at HR ⊢
                      have HG := Lib.hid hg
                      clear hg
                      obtain ⟨w9, rfl⟩ : ∃ w9, w9 = wr := ⟨_, rfl⟩
                      obtain ⟨i0, hi, hy0, hy1, hy2⟩ := info_parts info_int
                      rcases (by omega : k = 0 ∨ k = 1 ∨ k = 2 ∨ k = 3) with rfl | rfl | rfl | rfl
                      · rw [show ((0 : Nat) : Int) = 0 from rfl]
                        clear hk
                        go_wp2_with fail
                        go_loopg [102, 19, 20] l.length (fun g kv nv av wx => ∃ (j : Nat) (s r : Sl), g = l.length - j ∧ kv = .int .i64 j ∧ nv = .slice s.a s.n s.cap ∧ av = .slice r.a r.n r.cap ∧ j ≤ l.length ∧ Hid (Own intc 1 3 w9.heap.size wx (.slice s.a s.n s.cap) (lenC (l.take j) 0) ∧ Own u8c 1 5 w9.heap.size wx (.slice r.a r.n r.cap) (catC (l.take j) 0) ∧ Below w9.heap.size w9 wx))
                        case atStart => exact ⟨0, ⟨none, 0, 0⟩, ⟨none, 0, 0⟩, rfl, rfl, rfl, rfl, Nat.zero_le _, Lib.hid ⟨Own.nil, Own.nil, Below.refl _ _⟩⟩
                        case round =>
                          obtain ⟨j, ⟨sa, sn, sc⟩, ⟨ra, rn, rc⟩, hg, rfl, rfl, rfl, hj, HI⟩ := hrel
                          dsimp only at HI ⊢
                          have HG2 := Lib.hid hg
                          clear hg
                          by_cases hlt : j < l.length
                          · have hk1 : (j : Int) < (l.length : Int) := by omega
                            obtain ⟨x, hx⟩ : ∃ x, l[j]? = some x := ⟨_, List.getElem?_eq_getElem hlt⟩
                            have hsl := HH.out.below (HR.out.bel.trans (HI.out.2.2.mono HR.out.bel.size))
                            obtain ⟨b0, o0, rfl⟩ := hsl.some8 (by rintro rfl; simp at hlt)
                            have HLD := Lib.hid (And.intro (sl_load hsl hx) (store_fresh8 wr x))
                            have HX := Lib.hid hx
                            have HOB := Lib.hid (OB.new wr x)
                            have HTX := Lib.hid (OpD.right_txt (HALL.out x (List.mem_of_getElem? hx)) 0)
                            have HCT : Hid ((catC (l.take j) 0).length ≤ 12800) := Lib.hid (by have := catC_len (l := l.take j) (fun y hy => HALL.out y (List.mem_of_mem_take hy)) 0; rw [List.length_take] at this; omega)
                            clear hsl hx
                            go_wp2_with (first | ((with_reducible_and_instances refine wpList_ranG (o := ⟨some 105, _, _, _, _, _⟩) (v := .agg x.cells.toArray) ?_ ?_ ?_); rfl; exact exec_load rfl rfl HLD.out.1) | (refine wpList_store_run (T := 33) rfl rfl rfl rfl HLD.out.2 ?_))
                            refine (texts_any wr.heap.size 0 _).mono ?_
                            rintro e w3 ⟨rfl, b3⟩
                            obtain ⟨T, hT⟩ : ∃ T, txt x 0 = T := ⟨_, rfl⟩
                            have c9 : w3.cell? ⟨wr.heap.size, 17, none⟩ = some (.string T) := by rw [← hT]; exact (HOB.out.below b3 (by simp)).cell rfl
                            have HI2 := Lib.hid ((HI.out.1.alloc (.cells x.cells.toArray 33)).below1 b3)
                            have HA2 := Lib.hid ((HI.out.2.1.alloc (.cells x.cells.toArray 33)).below1 b3)
                            have HB3 : Hid (Below w9.heap.size w9 w3) := Lib.hid ((HI.out.2.2.alloc HI.out.2.2.size _).trans (b3.mono (by have := HI.out.2.2.size; simp; omega)))
                            have HBD : Hid ((lenC (l.take j) 0).length + 1 ≤ maxLen ∧ ((lenC (l.take j) 0).length + 1) * 8 ≤ 140737488355328) := Lib.hid (by rw [lenC_len, List.length_take]; unfold maxLen; omega)
                            have hix := (run_index3 (some ⟨wr.heap.size, 17, none⟩) (some ⟨wr.heap.size, 18, none⟩) (some ⟨wr.heap.size, 19, none⟩) w3).1
                            have htl : T.size ≤ 64 := by rw [← hT]; exact HTX.out
                            have HT := Lib.hid hT
                            simp only [Nat.zero_add]
                            clear b3 HLD HOB HI hT
                            go_wp2_with (at_builtin; refine wpList_append_struct2 rfl _ _ _ rfl i0 _ 8 Tryz.underlying53 hi hy0 hy1 hy2 rfl (by omega) intc_len intc_one rfl (HI2.out.alloc _) (T.size : Int) w3.heap.size 1 rfl (int_new _ (T.size : Int)) HBD.out.1 HBD.out.2 (by have := HB3.out.size; simp; omega) ?_)
                            intro v' w4 hown4 hx4 hn4
                            rw [← HT.out, ← lenC_take HX.out] at hown4
                            obtain ⟨⟨ua, un, uc⟩, e4⟩ := hown4.sl
                            dsimp only at e4
                            subst e4
                            have HA4 := Lib.hid ((HA2.out.alloc (.cells #[.int .i64 (T.size : Int)] 3)).ext hx4 (fun b hb e => by
                              obtain ⟨c1, h1⟩ := (HA2.out.alloc (.cells #[.int .i64 (T.size : Int)] 3)).tag hb
                              obtain ⟨c2, h2⟩ := (HI2.out.alloc (.cells #[.int .i64 (T.size : Int)] 3)).tag e
                              rw [h1] at h2
                              cases h2))
                            have HB4 : Hid (Below w9.heap.size w9 w4) := Lib.hid (Ext.new (HB3.out.alloc HB3.out.size _) hx4 (fun i hi _ e => by have := (HI2.out.blk i e).1; omega) (by have := HB3.out.size; simp; omega))
                            obtain ⟨⟨qa, qn, qc⟩, w5x, hr5, hown5, hx5⟩ := app_string HA4.out T HB4.out.size (by have := HCT.out; omega)
                            rw [← HT.out, ← catC_take HX.out] at hown5
                            have HN : Hid (Own intc 1 3 w9.heap.size w5x (.slice ua un uc) (lenC (l.take (j + 1)) 0) ∧ Own u8c 1 5 w9.heap.size w5x (.slice qa qn qc) (catC (l.take (j + 1)) 0) ∧ Below w9.heap.size w9 w5x) := Lib.hid ⟨hown4.ext hx5 (fun b hb e => by
                              obtain ⟨c1, h1⟩ := hown4.tag hb
                              obtain ⟨c2, h2⟩ := HA4.out.tag e
                              rw [h1] at h2
                              cases h2), hown5, Ext.new HB4.out hx5 (fun i hi _ e => by have := (HA4.out.blk i e).1; omega) HB4.out.size⟩
                            clear hown4 hown5 hx4 hx5 hn4 c9 hix HI2 HB3 HA2 HA4 HB4
                            go_wp2_with (at_builtin; refine Lib.wpList_append_run _ rfl _ _ _ _ rfl _ _ rfl rfl _ _ hr5 ?_)
                            go_roundg (l.length - (j + 1))
                            case measure => rw [HG2.out]; omega
                            case rel => exact ⟨j + 1, ⟨ua, un, uc⟩, ⟨qa, qn, qc⟩, rfl, by simp, rfl, rfl, by omega, HN⟩
                          · obtain rfl : j = l.length := by omega
                            have hk1 : ¬ (l.length : Int) < (l.length : Int) := by omega
                            have HBL : Hid (SliceIs intc 1 wr (.slice sa sn sc) (lenC l 0) ∧ Own u8c 1 5 w9.heap.size wr (.slice ra rn rc) (catC l 0)) := Lib.hid (by have h1 := HI.out.1.slice intc_len; have h2 := HI.out.2.1; rw [List.take_length] at h1 h2; exact ⟨h1, h2⟩)
                            have HRR : Hid (R4 w wr (.slice ta tn tc) (putB l.length ++ numsB l 21 ++ trusB l 2 ++ txtsB l 0)) := Lib.hid (HR.out.below HI.out.2.2 (Nat.le_refl _))
                            have HLEN : Hid ((putB l.length ++ numsB l 21 ++ trusB l 2 ++ txtsB l 0).length + (runsB (lenC l 0)).length + (catC l 0).length ≤ 140737488355328) := Lib.hid (by have h1 := numsB_len HWF.out (by omega) 21 (by omega); have h2 := trusB_len (l := l) (by omega) 2; have h3 := putB_le10 (n := l.length) (by omega); have h4 := txtsB_len HALL.out (by omega) 0; have h5 := lenB_len HALL.out (by omega) 0; have h6 := catC_len HALL.out 0; rw [List.length_append, List.length_append, List.length_append]; omega)
                            have HAP : Hid (∀ b, (Value.slice ra rn rc).ownBlock = some b → (Value.slice ta tn tc).ownBlock = some b → False) := Lib.hid (fun b h1 h2 => by have h3 := (HBL.out.2.blk b h1).1; have h4 := (HR.out.own.blk b h2).2; omega)
                            clear HI HR hlt hj
                            go_wp2_with fail
                            refine (cruns_any _ (lenC l 0) _ HBL.out.1 (by rw [lenC_len]; omega) (lenC_in HALL.out 0)).mono ?_
                            rintro e w7 ⟨v7, rfl, hown7, b7⟩
                            obtain ⟨⟨ua, un, uc⟩, w8, hr8, h8, hx8⟩ := R4.app (HRR.out.below b7 (Nat.le_refl _)) (hown7.slice u8c_len) (by have := HLEN.out; omega)
                            obtain ⟨⟨za, zn, zc⟩, w10, hr10, h10, -⟩ := R4.app h8 (((HBL.out.2.below1 b7).ext hx8 (fun b hb e => HAP.out b hb e)).slice u8c_len) (by have := HLEN.out; rw [List.length_append]; omega)
                            rw [List.append_assoc, List.append_assoc, ← txtsB_succ] at h10
                            have HN := Lib.hid h10
                            clear h8 h10 hx8 hown7 b7 HBL HRR HLEN HAP
                            go_wp2_with (at_builtin; first | (refine Lib.wpList_append_run _ rfl _ _ _ _ rfl _ _ rfl rfl _ _ hr8 ?_) | (refine Lib.wpList_append_run _ rfl _ _ _ _ rfl _ _ rfl rfl _ _ hr10 ?_))
                            go_roundg (3 - (0 + 1))
                            case measure => rw [HG.out]; omega
                            case rel => exact ⟨1, ⟨za, zn, zc⟩, rfl, rfl, rfl, by omega, HN⟩
                      · rw [show ((1 : Nat) : Int) = 1 from rfl]
                        clear hk
                        go_wp2_with fail
                        go_loopg [102, 19, 20] l.length (fun g kv nv av wx => ∃ (j : Nat) (s r : Sl), g = l.length - j ∧ kv = .int .i64 j ∧ nv = .slice s.a s.n s.cap ∧ av = .slice r.a r.n r.cap ∧ j ≤ l.length ∧ Hid (Own intc 1 3 w9.heap.size wx (.slice s.a s.n s.cap) (lenC (l.take j) 1) ∧ Own u8c 1 5 w9.heap.size wx (.slice r.a r.n r.cap) (catC (l.take j) 1) ∧ Below w9.heap.size w9 wx))
                        case atStart => exact ⟨0, ⟨none, 0, 0⟩, ⟨none, 0, 0⟩, rfl, rfl, rfl, rfl, Nat.zero_le _, Lib.hid ⟨Own.nil, Own.nil, Below.refl _ _⟩⟩
                        case round =>
                          obtain ⟨j, ⟨sa, sn, sc⟩, ⟨ra, rn, rc⟩, hg, rfl, rfl, rfl, hj, HI⟩ := hrel
                          dsimp only at HI ⊢
                          have HG2 := Lib.hid hg
                          clear hg
                          by_cases hlt : j < l.length
                          · have hk1 : (j : Int) < (l.length : Int) := by omega
                            obtain ⟨x, hx⟩ : ∃ x, l[j]? = some x := ⟨_, List.getElem?_eq_getElem hlt⟩
                            have hsl := HH.out.below (HR.out.bel.trans (HI.out.2.2.mono HR.out.bel.size))
                            obtain ⟨b0, o0, rfl⟩ := hsl.some8 (by rintro rfl; simp at hlt)
                            have HLD := Lib.hid (And.intro (sl_load hsl hx) (store_fresh8 wr x))
                            have HX := Lib.hid hx
                            have HOB := Lib.hid (OB.new wr x)
                            have HTX := Lib.hid (OpD.right_txt (HALL.out x (List.mem_of_getElem? hx)) 1)
                            have HCT : Hid ((catC (l.take j) 1).length ≤ 12800) := Lib.hid (by have := catC_len (l := l.take j) (fun y hy => HALL.out y (List.mem_of_mem_take hy)) 1; rw [List.length_take] at this; omega)
                            clear hsl hx
                            go_wp2_with (first | ((with_reducible_and_instances refine wpList_ranG (o := ⟨some 105, _, _, _, _, _⟩) (v := .agg x.cells.toArray) ?_ ?_ ?_); rfl; exact exec_load rfl rfl HLD.out.1) | (refine wpList_store_run (T := 33) rfl rfl rfl rfl HLD.out.2 ?_))
                            refine (texts_any wr.heap.size 0 _).mono ?_
                            rintro e w3 ⟨rfl, b3⟩
                            obtain ⟨T, hT⟩ : ∃ T, txt x 1 = T := ⟨_, rfl⟩
                            have c9 : w3.cell? ⟨wr.heap.size, 18, none⟩ = some (.string T) := by rw [← hT]; exact (HOB.out.below b3 (by simp)).cell rfl
                            have HI2 := Lib.hid ((HI.out.1.alloc (.cells x.cells.toArray 33)).below1 b3)
                            have HA2 := Lib.hid ((HI.out.2.1.alloc (.cells x.cells.toArray 33)).below1 b3)
                            have HB3 : Hid (Below w9.heap.size w9 w3) := Lib.hid ((HI.out.2.2.alloc HI.out.2.2.size _).trans (b3.mono (by have := HI.out.2.2.size; simp; omega)))
                            have HBD : Hid ((lenC (l.take j) 1).length + 1 ≤ maxLen ∧ ((lenC (l.take j) 1).length + 1) * 8 ≤ 140737488355328) := Lib.hid (by rw [lenC_len, List.length_take]; unfold maxLen; omega)
                            have hix := (run_index3 (some ⟨wr.heap.size, 17, none⟩) (some ⟨wr.heap.size, 18, none⟩) (some ⟨wr.heap.size, 19, none⟩) w3).2.1
                            have htl : T.size ≤ 64 := by rw [← hT]; exact HTX.out
                            have HT := Lib.hid hT
                            simp only [Nat.zero_add]
                            clear b3 HLD HOB HI hT
                            go_wp2_with (at_builtin; refine wpList_append_struct2 rfl _ _ _ rfl i0 _ 8 Tryz.underlying53 hi hy0 hy1 hy2 rfl (by omega) intc_len intc_one rfl (HI2.out.alloc _) (T.size : Int) w3.heap.size 1 rfl (int_new _ (T.size : Int)) HBD.out.1 HBD.out.2 (by have := HB3.out.size; simp; omega) ?_)
                            intro v' w4 hown4 hx4 hn4
                            rw [← HT.out, ← lenC_take HX.out] at hown4
                            obtain ⟨⟨ua, un, uc⟩, e4⟩ := hown4.sl
                            dsimp only at e4
                            subst e4
                            have HA4 := Lib.hid ((HA2.out.alloc (.cells #[.int .i64 (T.size : Int)] 3)).ext hx4 (fun b hb e => by
                              obtain ⟨c1, h1⟩ := (HA2.out.alloc (.cells #[.int .i64 (T.size : Int)] 3)).tag hb
                              obtain ⟨c2, h2⟩ := (HI2.out.alloc (.cells #[.int .i64 (T.size : Int)] 3)).tag e
                              rw [h1] at h2
                              cases h2))
                            have HB4 : Hid (Below w9.heap.size w9 w4) := Lib.hid (Ext.new (HB3.out.alloc HB3.out.size _) hx4 (fun i hi _ e => by have := (HI2.out.blk i e).1; omega) (by have := HB3.out.size; simp; omega))
                            obtain ⟨⟨qa, qn, qc⟩, w5x, hr5, hown5, hx5⟩ := app_string HA4.out T HB4.out.size (by have := HCT.out; omega)
                            rw [← HT.out, ← catC_take HX.out] at hown5
                            have HN : Hid (Own intc 1 3 w9.heap.size w5x (.slice ua un uc) (lenC (l.take (j + 1)) 1) ∧ Own u8c 1 5 w9.heap.size w5x (.slice qa qn qc) (catC (l.take (j + 1)) 1) ∧ Below w9.heap.size w9 w5x) := Lib.hid ⟨hown4.ext hx5 (fun b hb e => by
                              obtain ⟨c1, h1⟩ := hown4.tag hb
                              obtain ⟨c2, h2⟩ := HA4.out.tag e
                              rw [h1] at h2
                              cases h2), hown5, Ext.new HB4.out hx5 (fun i hi _ e => by have := (HA4.out.blk i e).1; omega) HB4.out.size⟩
                            clear hown4 hown5 hx4 hx5 hn4 c9 hix HI2 HB3 HA2 HA4 HB4
                            go_wp2_with (at_builtin; refine Lib.wpList_append_run _ rfl _ _ _ _ rfl _ _ rfl rfl _ _ hr5 ?_)
                            go_roundg (l.length - (j + 1))
                            case measure => rw [HG2.out]; omega
                            case rel => exact ⟨j + 1, ⟨ua, un, uc⟩, ⟨qa, qn, qc⟩, rfl, by simp, rfl, rfl, by omega, HN⟩
                          · obtain rfl : j = l.length := by omega
                            have hk1 : ¬ (l.length : Int) < (l.length : Int) := by omega
                            have HBL : Hid (SliceIs intc 1 wr (.slice sa sn sc) (lenC l 1) ∧ Own u8c 1 5 w9.heap.size wr (.slice ra rn rc) (catC l 1)) := Lib.hid (by have h1 := HI.out.1.slice intc_len; have h2 := HI.out.2.1; rw [List.take_length] at h1 h2; exact ⟨h1, h2⟩)
                            have HRR : Hid (R4 w wr (.slice ta tn tc) (putB l.length ++ numsB l 21 ++ trusB l 2 ++ txtsB l 1)) := Lib.hid (HR.out.below HI.out.2.2 (Nat.le_refl _))
                            have HLEN : Hid ((putB l.length ++ numsB l 21 ++ trusB l 2 ++ txtsB l 1).length + (runsB (lenC l 1)).length + (catC l 1).length ≤ 140737488355328) := Lib.hid (by have h1 := numsB_len HWF.out (by omega) 21 (by omega); have h2 := trusB_len (l := l) (by omega) 2; have h3 := putB_le10 (n := l.length) (by omega); have h4 := txtsB_len HALL.out (by omega) 1; have h5 := lenB_len HALL.out (by omega) 1; have h6 := catC_len HALL.out 1; rw [List.length_append, List.length_append, List.length_append]; omega)
                            have HAP : Hid (∀ b, (Value.slice ra rn rc).ownBlock = some b → (Value.slice ta tn tc).ownBlock = some b → False) := Lib.hid (fun b h1 h2 => by have h3 := (HBL.out.2.blk b h1).1; have h4 := (HR.out.own.blk b h2).2; omega)
                            clear HI HR hlt hj
                            go_wp2_with fail
                            refine (cruns_any _ (lenC l 1) _ HBL.out.1 (by rw [lenC_len]; omega) (lenC_in HALL.out 1)).mono ?_
                            rintro e w7 ⟨v7, rfl, hown7, b7⟩
                            obtain ⟨⟨ua, un, uc⟩, w8, hr8, h8, hx8⟩ := R4.app (HRR.out.below b7 (Nat.le_refl _)) (hown7.slice u8c_len) (by have := HLEN.out; omega)
                            obtain ⟨⟨za, zn, zc⟩, w10, hr10, h10, -⟩ := R4.app h8 (((HBL.out.2.below1 b7).ext hx8 (fun b hb e => HAP.out b hb e)).slice u8c_len) (by have := HLEN.out; rw [List.length_append]; omega)
                            rw [List.append_assoc, List.append_assoc, ← txtsB_succ] at h10
                            have HN := Lib.hid h10
                            clear h8 h10 hx8 hown7 b7 HBL HRR HLEN HAP
                            go_wp2_with (at_builtin; first | (refine Lib.wpList_append_run _ rfl _ _ _ _ rfl _ _ rfl rfl _ _ hr8 ?_) | (refine Lib.wpList_append_run _ rfl _ _ _ _ rfl _ _ rfl rfl _ _ hr10 ?_))
                            go_roundg (3 - (1 + 1))
                            case measure => rw [HG.out]; omega
                            case rel => exact ⟨2, ⟨za, zn, zc⟩, rfl, rfl, rfl, by omega, HN⟩
                      · rw [show ((2 : Nat) : Int) = 2 from rfl]
                        clear hk
                        go_wp2_with fail
                        go_loopg [102, 19, 20] l.length (fun g kv nv av wx => ∃ (j : Nat) (s r : Sl), g = l.length - j ∧ kv = .int .i64 j ∧ nv = .slice s.a s.n s.cap ∧ av = .slice r.a r.n r.cap ∧ j ≤ l.length ∧ Hid (Own intc 1 3 w9.heap.size wx (.slice s.a s.n s.cap) (lenC (l.take j) 2) ∧ Own u8c 1 5 w9.heap.size wx (.slice r.a r.n r.cap) (catC (l.take j) 2) ∧ Below w9.heap.size w9 wx))
                        case atStart => exact ⟨0, ⟨none, 0, 0⟩, ⟨none, 0, 0⟩, rfl, rfl, rfl, rfl, Nat.zero_le _, Lib.hid ⟨Own.nil, Own.nil, Below.refl _ _⟩⟩
                        case round =>
                          obtain ⟨j, ⟨sa, sn, sc⟩, ⟨ra, rn, rc⟩, hg, rfl, rfl, rfl, hj, HI⟩ := hrel
                          dsimp only at HI ⊢
                          have HG2 := Lib.hid hg
                          clear hg
                          by_cases hlt : j < l.length
                          · have hk1 : (j : Int) < (l.length : Int) := by omega
                            obtain ⟨x, hx⟩ : ∃ x, l[j]? = some x := ⟨_, List.getElem?_eq_getElem hlt⟩
                            have hsl := HH.out.below (HR.out.bel.trans (HI.out.2.2.mono HR.out.bel.size))
                            obtain ⟨b0, o0, rfl⟩ := hsl.some8 (by rintro rfl; simp at hlt)
                            have HLD := Lib.hid (And.intro (sl_load hsl hx) (store_fresh8 wr x))
                            have HX := Lib.hid hx
                            have HOB := Lib.hid (OB.new wr x)
                            have HTX := Lib.hid (OpD.right_txt (HALL.out x (List.mem_of_getElem? hx)) 2)
                            have HCT : Hid ((catC (l.take j) 2).length ≤ 12800) := Lib.hid (by have := catC_len (l := l.take j) (fun y hy => HALL.out y (List.mem_of_mem_take hy)) 2; rw [List.length_take] at this; omega)
                            clear hsl hx
                            go_wp2_with (first | ((with_reducible_and_instances refine wpList_ranG (o := ⟨some 105, _, _, _, _, _⟩) (v := .agg x.cells.toArray) ?_ ?_ ?_); rfl; exact exec_load rfl rfl HLD.out.1) | (refine wpList_store_run (T := 33) rfl rfl rfl rfl HLD.out.2 ?_))
                            refine (texts_any wr.heap.size 0 _).mono ?_
                            rintro e w3 ⟨rfl, b3⟩
                            obtain ⟨T, hT⟩ : ∃ T, txt x 2 = T := ⟨_, rfl⟩
                            have c9 : w3.cell? ⟨wr.heap.size, 19, none⟩ = some (.string T) := by rw [← hT]; exact (HOB.out.below b3 (by simp)).cell rfl
                            have HI2 := Lib.hid ((HI.out.1.alloc (.cells x.cells.toArray 33)).below1 b3)
                            have HA2 := Lib.hid ((HI.out.2.1.alloc (.cells x.cells.toArray 33)).below1 b3)
                            have HB3 : Hid (Below w9.heap.size w9 w3) := Lib.hid ((HI.out.2.2.alloc HI.out.2.2.size _).trans (b3.mono (by have := HI.out.2.2.size; simp; omega)))
                            have HBD : Hid ((lenC (l.take j) 2).length + 1 ≤ maxLen ∧ ((lenC (l.take j) 2).length + 1) * 8 ≤ 140737488355328) := Lib.hid (by rw [lenC_len, List.length_take]; unfold maxLen; omega)
                            have hix := (run_index3 (some ⟨wr.heap.size, 17, none⟩) (some ⟨wr.heap.size, 18, none⟩) (some ⟨wr.heap.size, 19, none⟩) w3).2.2
                            have htl : T.size ≤ 64 := by rw [← hT]; exact HTX.out
                            have HT := Lib.hid hT
                            simp only [Nat.zero_add]
                            clear b3 HLD HOB HI hT
                            go_wp2_with (at_builtin; refine wpList_append_struct2 rfl _ _ _ rfl i0 _ 8 Tryz.underlying53 hi hy0 hy1 hy2 rfl (by omega) intc_len intc_one rfl (HI2.out.alloc _) (T.size : Int) w3.heap.size 1 rfl (int_new _ (T.size : Int)) HBD.out.1 HBD.out.2 (by have := HB3.out.size; simp; omega) ?_)
                            intro v' w4 hown4 hx4 hn4
                            rw [← HT.out, ← lenC_take HX.out] at hown4
                            obtain ⟨⟨ua, un, uc⟩, e4⟩ := hown4.sl
                            dsimp only at e4
                            subst e4
                            have HA4 := Lib.hid ((HA2.out.alloc (.cells #[.int .i64 (T.size : Int)] 3)).ext hx4 (fun b hb e => by
                              obtain ⟨c1, h1⟩ := (HA2.out.alloc (.cells #[.int .i64 (T.size : Int)] 3)).tag hb
                              obtain ⟨c2, h2⟩ := (HI2.out.alloc (.cells #[.int .i64 (T.size : Int)] 3)).tag e
                              rw [h1] at h2
                              cases h2))
                            have HB4 : Hid (Below w9.heap.size w9 w4) := Lib.hid (Ext.new (HB3.out.alloc HB3.out.size _) hx4 (fun i hi _ e => by have := (HI2.out.blk i e).1; omega) (by have := HB3.out.size; simp; omega))
                            obtain ⟨⟨qa, qn, qc⟩, w5x, hr5, hown5, hx5⟩ := app_string HA4.out T HB4.out.size (by have := HCT.out; omega)
                            rw [← HT.out, ← catC_take HX.out] at hown5
                            have HN : Hid (Own intc 1 3 w9.heap.size w5x (.slice ua un uc) (lenC (l.take (j + 1)) 2) ∧ Own u8c 1 5 w9.heap.size w5x (.slice qa qn qc) (catC (l.take (j + 1)) 2) ∧ Below w9.heap.size w9 w5x) := Lib.hid ⟨hown4.ext hx5 (fun b hb e => by
                              obtain ⟨c1, h1⟩ := hown4.tag hb
                              obtain ⟨c2, h2⟩ := HA4.out.tag e
                              rw [h1] at h2
                              cases h2), hown5, Ext.new HB4.out hx5 (fun i hi _ e => by have := (HA4.out.blk i e).1; omega) HB4.out.size⟩
                            clear hown4 hown5 hx4 hx5 hn4 c9 hix HI2 HB3 HA2 HA4 HB4
                            go_wp2_with (at_builtin; refine Lib.wpList_append_run _ rfl _ _ _ _ rfl _ _ rfl rfl _ _ hr5 ?_)
                            go_roundg (l.length - (j + 1))
                            case measure => rw [HG2.out]; omega
                            case rel => exact ⟨j + 1, ⟨ua, un, uc⟩, ⟨qa, qn, qc⟩, rfl, by simp, rfl, rfl, by omega, HN⟩
                          · obtain rfl : j = l.length := by omega
                            have hk1 : ¬ (l.length : Int) < (l.length : Int) := by omega
                            have HBL : Hid (SliceIs intc 1 wr (.slice sa sn sc) (lenC l 2) ∧ Own u8c 1 5 w9.heap.size wr (.slice ra rn rc) (catC l 2)) := Lib.hid (by have h1 := HI.out.1.slice intc_len; have h2 := HI.out.2.1; rw [List.take_length] at h1 h2; exact ⟨h1, h2⟩)
                            have HRR : Hid (R4 w wr (.slice ta tn tc) (putB l.length ++ numsB l 21 ++ trusB l 2 ++ txtsB l 2)) := Lib.hid (HR.out.below HI.out.2.2 (Nat.le_refl _))
                            have HLEN : Hid ((putB l.length ++ numsB l 21 ++ trusB l 2 ++ txtsB l 2).length + (runsB (lenC l 2)).length + (catC l 2).length ≤ 140737488355328) := Lib.hid (by have h1 := numsB_len HWF.out (by omega) 21 (by omega); have h2 := trusB_len (l := l) (by omega) 2; have h3 := putB_le10 (n := l.length) (by omega); have h4 := txtsB_len HALL.out (by omega) 2; have h5 := lenB_len HALL.out (by omega) 2; have h6 := catC_len HALL.out 2; rw [List.length_append, List.length_append, List.length_append]; omega)
                            have HAP : Hid (∀ b, (Value.slice ra rn rc).ownBlock = some b → (Value.slice ta tn tc).ownBlock = some b → False) := Lib.hid (fun b h1 h2 => by have h3 := (HBL.out.2.blk b h1).1; have h4 := (HR.out.own.blk b h2).2; omega)
                            clear HI HR hlt hj
                            go_wp2_with fail
                            refine (cruns_any _ (lenC l 2) _ HBL.out.1 (by rw [lenC_len]; omega) (lenC_in HALL.out 2)).mono ?_
                            rintro e w7 ⟨v7, rfl, hown7, b7⟩
                            obtain ⟨⟨ua, un, uc⟩, w8, hr8, h8, hx8⟩ := R4.app (HRR.out.below b7 (Nat.le_refl _)) (hown7.slice u8c_len) (by have := HLEN.out; omega)
                            obtain ⟨⟨za, zn, zc⟩, w10, hr10, h10, -⟩ := R4.app h8 (((HBL.out.2.below1 b7).ext hx8 (fun b hb e => HAP.out b hb e)).slice u8c_len) (by have := HLEN.out; rw [List.length_append]; omega)
                            rw [List.append_assoc, List.append_assoc, ← txtsB_succ] at h10
                            have HN := Lib.hid h10
                            clear h8 h10 hx8 hown7 b7 HBL HRR HLEN HAP
                            go_wp2_with (at_builtin; first | (refine Lib.wpList_append_run _ rfl _ _ _ _ rfl _ _ rfl rfl _ _ hr8 ?_) | (refine Lib.wpList_append_run _ rfl _ _ _ _ rfl _ _ rfl rfl _ _ hr10 ?_))
                            go_roundg (3 - (2 + 1))
                            case measure => rw [HG.out]; omega
                            case rel => exact ⟨3, ⟨za, zn, zc⟩, rfl, rfl, rfl, by omega, HN⟩
                      · rw [show ((3 : Nat) : Int) = 3 from rfl]
                        clear hk hi hy0 hy1 hy2
                        go_wp2_with fail
                        go_ret2
                        exact .inl ⟨by omega, HALL.out, _, rfl, HR.out.own, HR.out.bel⟩

end Go.Proofs.YtdlnokbeadkdfaaGreatDoor
