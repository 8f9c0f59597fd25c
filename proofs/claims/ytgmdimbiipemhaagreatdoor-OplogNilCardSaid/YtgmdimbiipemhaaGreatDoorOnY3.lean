/- OplogNil, part 3 of what the proof leans on (made short by a program). -/
import Derived.Test.YtgmdimbiipemhaaGreatDoorOnY2
import Derived.Test.YtgmdimbiipemhaaGreatDoorOnY1
import Derived.Deep.LoopGhost
import Derived.Deep.QuietTactic
import Derived.Deep.CutBlock
import Derived.Deep.DeepCutAuto
import Derived.IntWalk
import Derived.Outline
import Derived.OneCell
import Derived.OwnWalkIn
import Derived.WalkKit
import Derived.LaidEql
import Derived.Stop.Asserts
import Derived.RowKitTokens
set_option linter.unusedSimpArgs false
set_option linter.unusedVariables false
set_option linter.unusedSectionVars false
namespace Go.Proofs.YtgmdimbiipemhaaGreatDoor
open Go.RowKit Go.Deep
def IS (b off : Nat) (o : OpD) (f : Nat → Int) (J : Nat → (Nat → Prop) → World → Prop) (A : Nat → Prop) (w : World) (c : Nat) (A' : Nat → Prop) (W : World) : Prop := J c A' W ∧ At b off o (stg f o c) W ∧ Ext (fun k => ¬ A k ∨ k = b) w W ∧ Rst b off w W
section
variable {P : Program} {gf : Nat} {lb : Array Value} {b off : Nat} {o : OpD} {f : Nat → Int} {J : Nat → (Nat → Prop) → World → Prop} {A A' : Nat → Prop} {w W : World} {c : Nat}
theorem IS.use (hU : UseOK P gf lb f (fld o) J) (hAb : A b) (hAA : ∀ k, A k → A' k) (h : IS b off o f J A w c A' W) (hc : c < 21) (h1 : c ≠ 10) (h2 : c ≠ 13) :
    Calls P gf (#[.pointer (some ⟨b, off + offC c, none⟩), .bool (dlt c)] ++ lb) W fun e W' => (∃ v, e = .returned v) ∧ IS b off o f J A w (c + 1) A' W' ∧ Ext (fun k => ¬ A' k ∨ k = b) W W' := by
  have hn := h.2.1.num c hc
  rw [stg_at] at hn
  have hf := h.2.1.free (offC c) (offC_lt hc)
  refine (hU c A' W b (off + offC c) hc h.1 hn hf (hAA b hAb)).mono ?_
  rintro e W' ⟨hv, hJ, hp, hq, hfz, hx, hsh⟩
  refine ⟨hv, ⟨hJ, ?_, h.2.2.1.andThen hx (fun i hi e => e.elim (fun e => .inl (fun ha => e (hAA i ha))) .inr), h.2.2.2.trans (Rst.of_shp hsh hq (by omega) (by have := offC_lt hc; omega))⟩, hx⟩
  have := h.2.1.put hc hp hq hfz
  rwa [stg_step f o h1 h2] at this
theorem IS.box {k : Nat} (hU : UseOK P gf lb f (fld o) J) (h : IS b off o f J A w c A' W) (hc : c = 10 ∨ c = 13) (hk : W.cell? ⟨k, 0, none⟩ = some (.int .i64 (fld o c))) (hf : W.frozen? ⟨k, 0, none⟩ = false) (hn : w.heap.size ≤ k) (hCk : A' k) (hb : b < w.heap.size) (hAb : A b) (hAA : ∀ k, A k → A' k) :
    Calls P gf (#[.pointer (some ⟨k, 0, none⟩), .bool (dlt c)] ++ lb) W fun e W' => (∃ v, e = .returned v) ∧ IS b off o f J A w (c + 1) A' W' ∧ W'.cell? ⟨k, 0, none⟩ = some (.int .i64 (f c)) ∧ W'.frozen? ⟨k, 0, none⟩ = false ∧ Ext (fun i => ¬ A' i ∨ i = k) W W' := by
  refine (hU c A' W k 0 (by omega) h.1 hk hf hCk).mono ?_
  rintro e W' ⟨hv, hJ, hp, hq, hfz, hx, hsh⟩
  refine ⟨hv, ⟨hJ, ?_, h.2.2.1.andThen hx (fun i hi e => e.elim (fun e => .inl (fun ha => e (hAA i ha))) (fun e => by omega)), h.2.2.2.trans (Rst.same (hx.block b h.2.1.lt (fun e => e.elim (fun e => e (hAA b hAb)) (fun e => by omega))))⟩, hp, (hfz 0).trans hf, hx⟩
  have := h.2.1.ext hx (fun e => e.elim (fun e => e (hAA b hAb)) (fun e => by omega))
  rwa [stg_skip f o hc] at this
theorem IS.step {W' : World} {A'' : Nat → Prop} (h : IS b off o f J A w c A' W) (hJ : JOK b J) (hb : A' b) (hA : ∀ k, A'' k → A' k ∨ (W.heap.size ≤ k ∧ k < W'.heap.size)) (hx : Ext (fun _ => False) W W') : IS b off o f J A w c A'' W' :=
  ⟨hJ _ _ _ _ _ h.1 (hx.mono (fun _ _ e => e.elim)) hA hb, h.2.1.ext hx id, h.2.2.1.andThen hx (fun i hi e => e.elim), h.2.2.2.trans (Rst.same (hx.block b h.2.1.lt id))⟩
end
def KF (b off : Nat) (o : OpD) (f : Nat → Int) (J : Nat → (Nat → Prop) → World → Prop) (A : Nat → Prop) (w : World) (k5 k6 c : Nat) (x5 x6 : Int) (A' : Nat → Prop) (W : World) : Prop := IS b off o f J A w c A' W ∧ W.cell? ⟨k5, 0, none⟩ = some (.int .i64 x5) ∧ W.frozen? ⟨k5, 0, none⟩ = false ∧ W.cell? ⟨k6, 0, none⟩ = some (.int .i64 x6) ∧ W.frozen? ⟨k6, 0, none⟩ = false
section
variable {b off : Nat} {o : OpD} {f : Nat → Int} {J : Nat → (Nat → Prop) → World → Prop} {A A' A'' : Nat → Prop} {w W W' : World} {k5 k6 c c' : Nat} {x5 x6 : Int} {S : Nat → Prop}
theorem KF.ext (h : KF b off o f J A w k5 k6 c x5 x6 A' W) (hi : IS b off o f J A w c' A'' W') (hx : Ext S W W') (h5 : ¬ S k5) (h6 : ¬ S k6) : KF b off o f J A w k5 k6 c' x5 x6 A'' W' :=
  ⟨hi, hx.keep h.2.1 h5, (hx.frozen (p := ⟨k5, 0, none⟩) (cell_lt h.2.1) h5).trans h.2.2.1, hx.keep h.2.2.2.1 h6, (hx.frozen (p := ⟨k6, 0, none⟩) (cell_lt h.2.2.2.1) h6).trans h.2.2.2.2⟩
theorem KF.step (h : KF b off o f J A w k5 k6 c x5 x6 A' W) (hJ : JOK b J) (hb : A' b) (hA : ∀ k, A'' k → A' k ∨ (W.heap.size ≤ k ∧ k < W'.heap.size)) (hx : Ext (fun _ => False) W W') : KF b off o f J A w k5 k6 c x5 x6 A'' W' :=
  h.ext (h.1.step hJ hb hA hx) hx id id
end
theorem cell_setCell_same8 {W : World} {b q : Nat} {v u : Value} (h : W.cell? ⟨b, q, none⟩ = some u) : (W.setCell ⟨b, q, none⟩ v).cell? ⟨b, q, none⟩ = some v := by
  go_simp
theorem cell_setCell_ne8 {W : World} {b q p : Nat} {v : Value} (h : p ≠ q) : (W.setCell ⟨b, q, none⟩ v).cell? ⟨b, p, none⟩ = W.cell? ⟨b, p, none⟩ := by
  go_simp
theorem At.num_eq {b off : Nat} {o : OpD} {g : Nat → Int} {W : World} (h : At b off o g W) (g' : Nat → Int) (he : ∀ c, c < 21 → g c = g' c) : At b off o g' W :=
  { h with num := fun c hc => by rw [← he c hc]; exact h.num c hc }
theorem stg_end (f : Nat → Int) (o : OpD) : ∀ c, c < 21 → (fun d => if d = 13 then f 13 else (fun d => if d = 10 then f 10 else stg f o 21 d) d) c = f c := by
  intro c hc
  dsimp only
  by_cases h1 : c = 13
  · rw [if_pos h1, h1]
  · rw [if_neg h1]
    by_cases h2 : c = 10
    · rw [if_pos h2, h2]
    · rw [if_neg h2]
      unfold stg
      rw [if_pos ⟨hc, h2, h1⟩]
theorem wpAnyS_any {P : Program} {ops : Array Oper} {Q : Exit → Act → World → Prop} {md : Region.Mode} {S : World → Prop} {Z : Nat → Bool} {rs : List Nat} {fuel : Nat} {listed : Array Bool} {a : Act} {w : World} (hr : Region.ready md ops listed = rs) (hne : rs ≠ [])
    (h : ∀ i ∈ rs, wpOp P ops Q i (fun a' w' => (Z i = false → S w') ∧ wpAnyS P md ops Q S Z fuel (listed.setIfInBounds i true) a' w') a w) : wpAnyS P md ops Q S Z (fuel + 1) listed a w :=
  ⟨fun h0 => absurd (hr.symm.trans h0) hne, fun j hj => by rw [hr] at hj; exact h j hj⟩
theorem wpOp_ran {P : Program} {ops : Array Oper} {Q : Exit → Act → World → Prop} {i : Nat} {o : Oper} {d : Option Tmp} {v : Value} {K : Act → World → Prop} {a : Act} {w w' : World} (ho : ops[i]? = some o) (hd : o.dst = d) (hw : Region.wanted o (yielded ops a.tmps) = true)
    (hv : (execOp a.eval o).run P w = .ok (.value v) w') (h : K (a.put d v) w') : wpOp P ops Q i K a w := by
  subst hd
  exact wpOp_step ho fun K' hK => by
    rw [if_pos hw, Oper.wp, hv]
    exact hK _ _ h
set_option maxRecDepth 20000 in
set_option maxHeartbeats 1000000 in
theorem ints_any {gf : Nat} {lb : Array Value} (hen : ∀ args w, (callFunc gf args).run Tryz.prog w = .ok (.enter gf args) w) (b off : Nat) (o : OpD) (f : Nat → Int) (J : Nat → (Nat → Prop) → World → Prop) (A : Nat → Prop) (w : World) (hU : UseOK Tryz.prog gf lb f (fld o) J)
    (hJ : JOK b J) (hAb : A b) (hA : At b off o (fld o) w) (h0 : J 0 A w) :
    Calls Tryz.prog 92 #[.pointer (some ⟨b, off, none⟩), .func (.func gf) #[] lb] w fun e w' => (∃ v, e = .returned v) ∧ J 21 A w' ∧ At b off o f w' ∧ Ext (fun k => ¬ A k ∨ k = b) w w' ∧ Rst b off w w' := by
  have hbw := hA.lt
  have HU := Lib.hid hU
  have HJ := Lib.hid hJ
  have hid8 : ∀ k, A k → A k := fun k h => h
  have HS : Hid (IS b off o f J A w 0 A w) := Lib.hid ⟨h0, by rw [stg_zero]; exact hA, Ext.refl _ _, Rst.refl _ _ _⟩
  clear hU hJ hA h0
  go_enter Tryz.func92, Tryz.ntmps92
  go_wp2_with fail
  refine (IS.use HU.out hAb hid8 HS.out (by omega) (by omega) (by omega)).mono ?_
  rintro e w1 ⟨⟨v1, rfl⟩, h1, -⟩
  have HS1 := Lib.hid h1
  clear h1 HS
  go_wp2_with fail
  refine (IS.use HU.out hAb hid8 HS1.out (by omega) (by omega) (by omega)).mono ?_
  rintro e w2 ⟨⟨v2, rfl⟩, h2, -⟩
  have HS2 := Lib.hid h2
  clear h2 HS1
  go_wp2_with fail
  go_loopg [21] 8 (fun g kv wx => ∃ k : Nat, g = 8 - k ∧ kv = .int .i64 k ∧ k ≤ 8 ∧ Hid (IS b off o f J A w (2 + k) A wx))
  case atStart => exact ⟨0, rfl, rfl, by omega, HS2⟩
  case round =>
    clear HS2
    obtain ⟨k, hg, rfl, hk, HS⟩ := hrel
    have HG := Lib.hid hg
    clear hg
    by_cases hlt : k < 8
    · have hk1 : (k : Int) < 8 := by omega
      have hc := IS.use HU.out hAb hid8 HS.out (c := 2 + k) (by omega) (by omega) (by omega)
      rw [show off + offC (2 + k) = off + 2 + k by unfold offC; rw [if_pos (by omega)]; omega, show dlt (2 + k) = true by unfold dlt; simp; omega] at hc
      have HC := Lib.hid hc
      clear hc
      go_wp2_with fail
      refine HC.out.mono ?_
      rintro e w3 ⟨⟨v3, rfl⟩, h3, -⟩
      have HS3 := Lib.hid h3
      clear h3 HC HS
      go_wp2_with fail
      go_roundg (8 - (k + 1))
      case measure => rw [HG.out]; omega
      case rel => exact ⟨k + 1, rfl, by simp, by omega, HS3⟩
    · obtain rfl : k = 8 := by omega
      have hk1 : ¬ (8 : Int) < 8 := by omega
      have HS10 : Hid (IS b off o f J A w 10 A wr) := HS
      clear hlt HS hk
      go_upto_region 7 with fail
      go_cut [5, 6] (fun pv qv wx => ∃ k5 k6 : Nat, pv = .pointer (some ⟨k5, 0, none⟩) ∧ qv = .pointer (some ⟨k6, 0, none⟩) ∧ w.heap.size ≤ k5 ∧ w.heap.size ≤ k6 ∧ k5 ≠ k6 ∧ Hid (IS b off o f J A w 10 (fun k => A k ∨ k = k5 ∨ k = k6) wx ∧ wx.cell? ⟨k5, 0, none⟩ = some (.int .i64 (fld o 10)) ∧ wx.frozen? ⟨k5, 0, none⟩ = false ∧ wx.cell? ⟨k6, 0, none⟩ = some (.int .i64 (fld o 13)) ∧ wx.frozen? ⟨k6, 0, none⟩ = false))
      case first => as_aux_lemma =>
        have hS0 : (fun W : World => W.cell? ⟨b, off + 10, none⟩ = some (.int .i64 (fld o 10)) ∧ W.cell? ⟨b, off + 13, none⟩ = some (.int .i64 (fld o 13))) wr.drew := ⟨by have := HS10.out.2.1.num 10 (by omega); exact this, by have := HS10.out.2.1.num 13 (by omega); exact this⟩
        have HS1 : Hid (IS b off o f J A w 10 A wr.drew) := Lib.hid (HS10.out.step HJ.out hAb (fun k h => .inl h) (Ext.refl _ _).drew)
        clear HS10
        refine wp_region_s (fun W : World => W.cell? ⟨b, off + 10, none⟩ = some (.int .i64 (fld o 10)) ∧ W.cell? ⟨b, off + 13, none⟩ = some (.int .i64 (fld o 13))) (fun _ => false) (by kernel_rfl) ?_
        generalize wr.drew = W1 at hS0 HS1 ⊢
        have hsz := HS1.out.2.2.1.size
        refine wpAnyS_take (i := 0) (d := some 32) rfl rfl rfl (by kernel_rfl) (by kernel_rfl) (by kernel_rfl) (by kernel_rfl) (fun _ _ _ h => h) (.inl ⟨by rfl, fun W hW => by obtain ⟨q0, q1⟩ := hW; go_simp; try rfl⟩) hS0 ?_
        try simp only [Act.put, List.setIfInBounds_toArray, List.set_cons_zero, List.set_cons_succ]
        refine wpAnyS_take (i := 1) (d := some 33) (v := .pointer (some ⟨b, off, none⟩)) rfl rfl rfl (by kernel_rfl) (by kernel_rfl) (by kernel_rfl) (by kernel_rfl) (fun _ _ _ h => h) (.inl ⟨by rfl, fun W hW => by obtain ⟨q0, q1⟩ := hW; go_simp; try rfl⟩) hS0 ?_
        try simp only [Act.put, List.setIfInBounds_toArray, List.set_cons_zero, List.set_cons_succ]
        refine wpAnyS_take (i := 2) (d := some 34) (v := .pointer (some ⟨b, off + 10, none⟩)) rfl rfl rfl (by kernel_rfl) (by kernel_rfl) (by kernel_rfl) (by kernel_rfl) (fun _ _ _ h => h) (.inl ⟨by rfl, fun W hW => by obtain ⟨q0, q1⟩ := hW; go_simp; try rfl⟩) hS0 ?_
        try simp only [Act.put, List.setIfInBounds_toArray, List.set_cons_zero, List.set_cons_succ]
        refine wpAnyS_take (i := 3) (d := some 35) (v := .int .i64 (fld o 10)) rfl rfl rfl (by kernel_rfl) (by kernel_rfl) (by kernel_rfl) (by kernel_rfl) (fun _ _ _ h => h) (.inl ⟨by rfl, fun W hW => by obtain ⟨q0, q1⟩ := hW; go_simp; try rfl⟩) hS0 ?_
        try simp only [Act.put, List.setIfInBounds_toArray, List.set_cons_zero, List.set_cons_succ]
        refine wpAnyS_take (i := 4) (d := some 36) rfl rfl rfl (by kernel_rfl) (by kernel_rfl) (by kernel_rfl) (by kernel_rfl) (fun _ _ _ h => h) (.inl ⟨by rfl, fun W hW => by obtain ⟨q0, q1⟩ := hW; go_simp; try rfl⟩) hS0 ?_
        try simp only [Act.put, List.setIfInBounds_toArray, List.set_cons_zero, List.set_cons_succ]
        refine wpAnyS_take (i := 5) (d := some 37) (v := .pointer (some ⟨b, off, none⟩)) rfl rfl rfl (by kernel_rfl) (by kernel_rfl) (by kernel_rfl) (by kernel_rfl) (fun _ _ _ h => h) (.inl ⟨by rfl, fun W hW => by obtain ⟨q0, q1⟩ := hW; go_simp; try rfl⟩) hS0 ?_
        try simp only [Act.put, List.setIfInBounds_toArray, List.set_cons_zero, List.set_cons_succ]
        refine wpAnyS_take (i := 6) (d := some 38) (v := .pointer (some ⟨b, off + 13, none⟩)) rfl rfl rfl (by kernel_rfl) (by kernel_rfl) (by kernel_rfl) (by kernel_rfl) (fun _ _ _ h => h) (.inl ⟨by rfl, fun W hW => by obtain ⟨q0, q1⟩ := hW; go_simp; try rfl⟩) hS0 ?_
        try simp only [Act.put, List.setIfInBounds_toArray, List.set_cons_zero, List.set_cons_succ]
        refine wpAnyS_take (i := 7) (d := some 39) (v := .int .i64 (fld o 13)) rfl rfl rfl (by kernel_rfl) (by kernel_rfl) (by kernel_rfl) (by kernel_rfl) (fun _ _ _ h => h) (.inl ⟨by rfl, fun W hW => by obtain ⟨q0, q1⟩ := hW; go_simp; try rfl⟩) hS0 ?_
        try simp only [Act.put, List.setIfInBounds_toArray, List.set_cons_zero, List.set_cons_succ]
        refine wpAnyS_any (rs := [8, 9]) (by kernel_rfl) (by simp) (fun i hi => ?_)
        simp only [List.mem_cons, List.not_mem_nil, or_false] at hi
        rcases hi with rfl | rfl
        · refine wpOp_ran (d := some 5) (v := .pointer (some ⟨W1.heap.size, 0, none⟩)) (w' := (W1.alloc (.cells #[.int .i64 0] 3))) rfl rfl (by rfl) (by go_simp; try rfl) ⟨fun _ => ⟨cell_alloc hS0.1 _, cell_alloc hS0.2 _⟩, ?_⟩
          try simp only [Act.put, List.setIfInBounds_toArray, List.set_cons_zero, List.set_cons_succ]
          refine wpAnyS_ran (i := 9) (d := some 6) (v := .pointer (some ⟨W1.heap.size + 1, 0, none⟩)) (w' := ((W1.alloc (.cells #[.int .i64 0] 3)).alloc (.cells #[.int .i64 0] 3))) (by kernel_rfl) rfl rfl (by rfl) (by go_simp; try rfl) (fun _ => ⟨cell_alloc (cell_alloc hS0.1 _) _, cell_alloc (cell_alloc hS0.2 _) _⟩) ?_
          try simp only [Act.put, List.setIfInBounds_toArray, List.set_cons_zero, List.set_cons_succ]
          have hS3 : (fun W : World => W.cell? ⟨b, off + 10, none⟩ = some (.int .i64 (fld o 10)) ∧ W.cell? ⟨b, off + 13, none⟩ = some (.int .i64 (fld o 13))) ((W1.alloc (.cells #[.int .i64 0] 3)).alloc (.cells #[.int .i64 0] 3)) := ⟨cell_alloc (cell_alloc hS0.1 _) _, cell_alloc (cell_alloc hS0.2 _) _⟩
          have HS3 : Hid (Ext (fun _ => False) W1 ((W1.alloc (.cells #[.int .i64 0] 3)).alloc (.cells #[.int .i64 0] 3))) := Lib.hid (((Ext.refl _ _).alloc _).alloc _)
          have z3 : ((W1.alloc (.cells #[.int .i64 0] 3)).alloc (.cells #[.int .i64 0] 3)).heap.size = W1.heap.size + 2 := by simp
          have e1 : ((W1.alloc (.cells #[.int .i64 0] 3)).alloc (.cells #[.int .i64 0] 3)).heap[W1.heap.size]? = some (.cells #[.int .i64 0] 3 (0, 0)) := (Below.heap_alloc _ _ _ (by simp)).trans (heap_new8 W1 _)
          have e2 : ((W1.alloc (.cells #[.int .i64 0] 3)).alloc (.cells #[.int .i64 0] 3)).heap[W1.heap.size + 1]? = some (.cells #[.int .i64 0] 3 (0, 0)) := by have := heap_new8 (W1.alloc (.cells #[.int .i64 0] 3)) (.cells #[.int .i64 0] 3); rwa [World.size_alloc] at this
          generalize ((W1.alloc (.cells #[.int .i64 0] 3)).alloc (.cells #[.int .i64 0] 3)) = W3 at hS3 HS3 z3 e1 e2 ⊢
          clear hS0
          have hb1 : b < W1.heap.size := by omega
          obtain ⟨k1, hk1⟩ : ∃ k1, k1 = W1.heap.size := ⟨_, rfl⟩
          have HK1 := Lib.hid hk1
          rw [← hk1] at e1 e2 z3 hb1 hsz ⊢
          clear hk1
          have c5 := cell_of_one e1
          have f5 := free_of_one e1
          have x5 : Ext (· = k1) W3 (W3.setCell ⟨k1, 0, none⟩ (.int .i64 (fld o 10))) := (Ext.refl (· = k1) W3).setCell (p := ⟨k1, 0, none⟩) (.inr rfl) _
          have hS4 : (fun W : World => W.cell? ⟨b, off + 10, none⟩ = some (.int .i64 (fld o 10)) ∧ W.cell? ⟨b, off + 13, none⟩ = some (.int .i64 (fld o 13))) (W3.setCell ⟨k1, 0, none⟩ (.int .i64 (fld o 10))) := ⟨x5.keep hS3.1 (by omega), x5.keep hS3.2 (by omega)⟩
          refine wpAnyS_mute (i := 10) (d := none) (w' := W3.setCell ⟨k1, 0, none⟩ (.int .i64 (fld o 10))) (by kernel_rfl) rfl rfl (by rfl) (by go_simp; try rfl) (fun _ => hS4) ?_
          try simp only [Act.put, List.setIfInBounds_toArray, List.set_cons_zero, List.set_cons_succ]
          have HS4 : Hid (Ext (fun _ => False) W1 (W3.setCell ⟨k1, 0, none⟩ (.int .i64 (fld o 10)))) := Lib.hid (HS3.out.setCell (p := ⟨k1, 0, none⟩) (.inl (by have := HK1.out; show W1.heap.size ≤ k1; omega)) _)
          have g5 := one_setCell (u := .int .i64 (fld o 10)) e1
          have g6 : (W3.setCell ⟨k1, 0, none⟩ (.int .i64 (fld o 10))).heap[k1 + 1]? = some (.cells #[.int .i64 0] 3 (0, 0)) := (x5.block _ (by omega) (by omega)).trans e2
          have z4 : (W3.setCell ⟨k1, 0, none⟩ (.int .i64 (fld o 10))).heap.size = W3.heap.size := World.size_setCell _ _ _
          generalize W3.setCell ⟨k1, 0, none⟩ (.int .i64 (fld o 10)) = W4 at hS4 HS4 g5 g6 z4 ⊢
          clear hS3 HS3 e1 e2 c5 f5 x5
          have c6 := cell_of_one g6
          have f6 := free_of_one g6
          have x6 : Ext (· = k1 + 1) W4 (W4.setCell ⟨k1 + 1, 0, none⟩ (.int .i64 (fld o 13))) := (Ext.refl (· = k1 + 1) W4).setCell (p := ⟨k1 + 1, 0, none⟩) (.inr rfl) _
          have hS5 : (fun W : World => W.cell? ⟨b, off + 10, none⟩ = some (.int .i64 (fld o 10)) ∧ W.cell? ⟨b, off + 13, none⟩ = some (.int .i64 (fld o 13))) (W4.setCell ⟨k1 + 1, 0, none⟩ (.int .i64 (fld o 13))) := ⟨x6.keep hS4.1 (by omega), x6.keep hS4.2 (by omega)⟩
          refine wpAnyS_mute (i := 11) (d := none) (w' := W4.setCell ⟨k1 + 1, 0, none⟩ (.int .i64 (fld o 13))) (by kernel_rfl) rfl rfl (by rfl) (by go_simp; try rfl) (fun _ => hS5) ?_
          try simp only [Act.put, List.setIfInBounds_toArray, List.set_cons_zero, List.set_cons_succ]
          refine wpAnyS_done (by kernel_rfl) ?_ _
          have HS5 : Hid (IS b off o f J A w 10 (fun k => A k ∨ k = k1 ∨ k = k1 + 1) (W4.setCell ⟨k1 + 1, 0, none⟩ (.int .i64 (fld o 13)))) := Lib.hid (HS1.out.step HJ.out hAb (fun k h => h.elim .inl (fun e => .inr (by have h1 := HK1.out; have h2 := World.size_setCell W4 ⟨k1 + 1, 0, none⟩ (.int .i64 (fld o 13)); constructor <;> omega))) (HS4.out.setCell (p := ⟨k1 + 1, 0, none⟩) (.inl (by have := HK1.out; show W1.heap.size ≤ k1 + 1; omega)) _))
          have g7 := one_setCell (u := .int .i64 (fld o 13)) g6
          have g8 : (W4.setCell ⟨k1 + 1, 0, none⟩ (.int .i64 (fld o 13))).heap[k1]? = some (.cells #[.int .i64 (fld o 10)] 3 (0, 0)) := (x6.block _ (by have := (Array.getElem?_eq_some_iff.1 g5).1; omega) (by omega)).trans g5
          have HFIN : Hid (IS b off o f J A w 10 (fun k => A k ∨ k = k1 ∨ k = k1 + 1) (W4.setCell ⟨k1 + 1, 0, none⟩ (.int .i64 (fld o 13))) ∧ _ ∧ _ ∧ _ ∧ _) := Lib.hid ⟨HS5.out, cell_of_one g8, free_of_one g8, cell_of_one g7, free_of_one g7⟩
          clear hS4 hS5 HS4 HS5 g5 g6 g7 g8 c6 f6 x6
          go_wp2_with fail
          go_meet
          case rel => exact ⟨k1, k1 + 1, rfl, rfl, by omega, by omega, by omega, HFIN⟩
        · refine wpOp_ran (d := some 6) (v := .pointer (some ⟨W1.heap.size, 0, none⟩)) (w' := (W1.alloc (.cells #[.int .i64 0] 3))) rfl rfl (by rfl) (by go_simp; try rfl) ⟨fun _ => ⟨cell_alloc hS0.1 _, cell_alloc hS0.2 _⟩, ?_⟩
          try simp only [Act.put, List.setIfInBounds_toArray, List.set_cons_zero, List.set_cons_succ]
          refine wpAnyS_ran (i := 8) (d := some 5) (v := .pointer (some ⟨W1.heap.size + 1, 0, none⟩)) (w' := ((W1.alloc (.cells #[.int .i64 0] 3)).alloc (.cells #[.int .i64 0] 3))) (by kernel_rfl) rfl rfl (by rfl) (by go_simp; try rfl) (fun _ => ⟨cell_alloc (cell_alloc hS0.1 _) _, cell_alloc (cell_alloc hS0.2 _) _⟩) ?_
          try simp only [Act.put, List.setIfInBounds_toArray, List.set_cons_zero, List.set_cons_succ]
          have hS3 : (fun W : World => W.cell? ⟨b, off + 10, none⟩ = some (.int .i64 (fld o 10)) ∧ W.cell? ⟨b, off + 13, none⟩ = some (.int .i64 (fld o 13))) ((W1.alloc (.cells #[.int .i64 0] 3)).alloc (.cells #[.int .i64 0] 3)) := ⟨cell_alloc (cell_alloc hS0.1 _) _, cell_alloc (cell_alloc hS0.2 _) _⟩
          have HS3 : Hid (Ext (fun _ => False) W1 ((W1.alloc (.cells #[.int .i64 0] 3)).alloc (.cells #[.int .i64 0] 3))) := Lib.hid (((Ext.refl _ _).alloc _).alloc _)
          have z3 : ((W1.alloc (.cells #[.int .i64 0] 3)).alloc (.cells #[.int .i64 0] 3)).heap.size = W1.heap.size + 2 := by simp
          have e1 : ((W1.alloc (.cells #[.int .i64 0] 3)).alloc (.cells #[.int .i64 0] 3)).heap[W1.heap.size]? = some (.cells #[.int .i64 0] 3 (0, 0)) := (Below.heap_alloc _ _ _ (by simp)).trans (heap_new8 W1 _)
          have e2 : ((W1.alloc (.cells #[.int .i64 0] 3)).alloc (.cells #[.int .i64 0] 3)).heap[W1.heap.size + 1]? = some (.cells #[.int .i64 0] 3 (0, 0)) := by have := heap_new8 (W1.alloc (.cells #[.int .i64 0] 3)) (.cells #[.int .i64 0] 3); rwa [World.size_alloc] at this
          generalize ((W1.alloc (.cells #[.int .i64 0] 3)).alloc (.cells #[.int .i64 0] 3)) = W3 at hS3 HS3 z3 e1 e2 ⊢
          clear hS0
          have hb1 : b < W1.heap.size := by omega
          obtain ⟨k1, hk1⟩ : ∃ k1, k1 = W1.heap.size := ⟨_, rfl⟩
          have HK1 := Lib.hid hk1
          rw [← hk1] at e1 e2 z3 hb1 hsz ⊢
          clear hk1
          have c5 := cell_of_one e2
          have f5 := free_of_one e2
          have x5 : Ext (· = k1 + 1) W3 (W3.setCell ⟨k1 + 1, 0, none⟩ (.int .i64 (fld o 10))) := (Ext.refl (· = k1 + 1) W3).setCell (p := ⟨k1 + 1, 0, none⟩) (.inr rfl) _
          have hS4 : (fun W : World => W.cell? ⟨b, off + 10, none⟩ = some (.int .i64 (fld o 10)) ∧ W.cell? ⟨b, off + 13, none⟩ = some (.int .i64 (fld o 13))) (W3.setCell ⟨k1 + 1, 0, none⟩ (.int .i64 (fld o 10))) := ⟨x5.keep hS3.1 (by omega), x5.keep hS3.2 (by omega)⟩
          refine wpAnyS_mute (i := 10) (d := none) (w' := W3.setCell ⟨k1 + 1, 0, none⟩ (.int .i64 (fld o 10))) (by kernel_rfl) rfl rfl (by rfl) (by go_simp; try rfl) (fun _ => hS4) ?_
          try simp only [Act.put, List.setIfInBounds_toArray, List.set_cons_zero, List.set_cons_succ]
          have HS4 : Hid (Ext (fun _ => False) W1 (W3.setCell ⟨k1 + 1, 0, none⟩ (.int .i64 (fld o 10)))) := Lib.hid (HS3.out.setCell (p := ⟨k1 + 1, 0, none⟩) (.inl (by have := HK1.out; show W1.heap.size ≤ k1 + 1; omega)) _)
          have g5 := one_setCell (u := .int .i64 (fld o 10)) e2
          have g6 : (W3.setCell ⟨k1 + 1, 0, none⟩ (.int .i64 (fld o 10))).heap[k1]? = some (.cells #[.int .i64 0] 3 (0, 0)) := (x5.block _ (by omega) (by omega)).trans e1
          have z4 : (W3.setCell ⟨k1 + 1, 0, none⟩ (.int .i64 (fld o 10))).heap.size = W3.heap.size := World.size_setCell _ _ _
          generalize W3.setCell ⟨k1 + 1, 0, none⟩ (.int .i64 (fld o 10)) = W4 at hS4 HS4 g5 g6 z4 ⊢
          clear hS3 HS3 e1 e2 c5 f5 x5
          have c6 := cell_of_one g6
          have f6 := free_of_one g6
          have x6 : Ext (· = k1) W4 (W4.setCell ⟨k1, 0, none⟩ (.int .i64 (fld o 13))) := (Ext.refl (· = k1) W4).setCell (p := ⟨k1, 0, none⟩) (.inr rfl) _
          have hS5 : (fun W : World => W.cell? ⟨b, off + 10, none⟩ = some (.int .i64 (fld o 10)) ∧ W.cell? ⟨b, off + 13, none⟩ = some (.int .i64 (fld o 13))) (W4.setCell ⟨k1, 0, none⟩ (.int .i64 (fld o 13))) := ⟨x6.keep hS4.1 (by omega), x6.keep hS4.2 (by omega)⟩
          refine wpAnyS_mute (i := 11) (d := none) (w' := W4.setCell ⟨k1, 0, none⟩ (.int .i64 (fld o 13))) (by kernel_rfl) rfl rfl (by rfl) (by go_simp; try rfl) (fun _ => hS5) ?_
          try simp only [Act.put, List.setIfInBounds_toArray, List.set_cons_zero, List.set_cons_succ]
          refine wpAnyS_done (by kernel_rfl) ?_ _
          have HS5 : Hid (IS b off o f J A w 10 (fun k => A k ∨ k = k1 + 1 ∨ k = k1) (W4.setCell ⟨k1, 0, none⟩ (.int .i64 (fld o 13)))) := Lib.hid (HS1.out.step HJ.out hAb (fun k h => h.elim .inl (fun e => .inr (by have h1 := HK1.out; have h2 := World.size_setCell W4 ⟨k1, 0, none⟩ (.int .i64 (fld o 13)); constructor <;> omega))) (HS4.out.setCell (p := ⟨k1, 0, none⟩) (.inl (by have := HK1.out; show W1.heap.size ≤ k1; omega)) _))
          have g7 := one_setCell (u := .int .i64 (fld o 13)) g6
          have g8 : (W4.setCell ⟨k1, 0, none⟩ (.int .i64 (fld o 13))).heap[k1 + 1]? = some (.cells #[.int .i64 (fld o 10)] 3 (0, 0)) := (x6.block _ (by have := (Array.getElem?_eq_some_iff.1 g5).1; omega) (by omega)).trans g5
          have HFIN : Hid (IS b off o f J A w 10 (fun k => A k ∨ k = k1 + 1 ∨ k = k1) (W4.setCell ⟨k1, 0, none⟩ (.int .i64 (fld o 13))) ∧ _ ∧ _ ∧ _ ∧ _) := Lib.hid ⟨HS5.out, cell_of_one g8, free_of_one g8, cell_of_one g7, free_of_one g7⟩
          clear hS4 hS5 HS4 HS5 g5 g6 g7 g8 c6 f6 x6
          go_wp2_with fail
          go_meet
          case rel => exact ⟨k1 + 1, k1, rfl, rfl, by omega, by omega, by omega, HFIN⟩
      case rest =>
        obtain ⟨k5, k6, rfl, rfl, hk5, hk6, hk56, HF⟩ := hcut
        clear HS10
        have hAA : ∀ k, A k → (A k ∨ k = k5 ∨ k = k6) := fun k h => .inl h
        go_wp2_with fail
        refine (IS.box HU.out HF.out.1 (.inl rfl) HF.out.2.1 HF.out.2.2.1 hk5 (.inr (.inl rfl)) hbw hAb hAA).mono ?_
        rintro e w4 ⟨⟨vv, rfl⟩, h4, hp4, hf4, hx4⟩
        have hno : ¬ (¬ (A k6 ∨ k6 = k5 ∨ k6 = k6) ∨ k6 = k5) := fun h => h.elim (fun h => h (.inr (.inr rfl))) (fun e => by omega)
        have HF4 : Hid (KF b off o f J A w k5 k6 11 (f 10) (fld o 13) (fun k => A k ∨ k = k5 ∨ k = k6) w4) := Lib.hid ⟨h4, hp4, hf4, hx4.keep HF.out.2.2.2.1 hno, (hx4.frozen (p := ⟨k6, 0, none⟩) (cell_lt HF.out.2.2.2.1) hno).trans HF.out.2.2.2.2⟩
        clear h4 hp4 hf4 hx4 hno HF
        go_wp2_with fail
        refine (IS.use HU.out hAb hAA HF4.out.1 (by omega) (by omega) (by omega)).mono ?_
        rintro e w5 ⟨⟨vv, rfl⟩, h4, hx4⟩
        have HF5 : Hid (KF b off o f J A w k5 k6 12 (f 10) (fld o 13) (fun k => A k ∨ k = k5 ∨ k = k6) w5) := Lib.hid (KF.ext HF4.out h4 hx4 (fun h => h.elim (fun h => h (.inr (.inl rfl))) (fun e => by omega)) (fun h => h.elim (fun h => h (.inr (.inr rfl))) (fun e => by omega)))
        clear h4 hx4 HF4
        go_wp2_with fail
        refine (IS.use HU.out hAb hAA HF5.out.1 (by omega) (by omega) (by omega)).mono ?_
        rintro e w6 ⟨⟨vv, rfl⟩, h4, hx4⟩
        have HF6 : Hid (KF b off o f J A w k5 k6 13 (f 10) (fld o 13) (fun k => A k ∨ k = k5 ∨ k = k6) w6) := Lib.hid (KF.ext HF5.out h4 hx4 (fun h => h.elim (fun h => h (.inr (.inl rfl))) (fun e => by omega)) (fun h => h.elim (fun h => h (.inr (.inr rfl))) (fun e => by omega)))
        clear h4 hx4 HF5
        go_wp2_with fail
        refine (IS.box HU.out HF6.out.1 (.inr rfl) HF6.out.2.2.2.1 HF6.out.2.2.2.2 hk6 (.inr (.inr rfl)) hbw hAb hAA).mono ?_
        rintro e w7 ⟨⟨vv, rfl⟩, h4, hp4, hf4, hx4⟩
        have hno : ¬ (¬ (A k5 ∨ k5 = k5 ∨ k5 = k6) ∨ k5 = k6) := fun h => h.elim (fun h => h (.inr (.inl rfl))) (fun e => by omega)
        have HF7 : Hid (KF b off o f J A w k5 k6 14 (f 10) (f 13) (fun k => A k ∨ k = k5 ∨ k = k6) w7) := Lib.hid ⟨h4, hx4.keep HF6.out.2.1 hno, (hx4.frozen (p := ⟨k5, 0, none⟩) (cell_lt HF6.out.2.1) hno).trans HF6.out.2.2.1, hp4, hf4⟩
        clear h4 hp4 hf4 hx4 hno HF6
        go_upto_region 12 with fail
        have HF8 : Hid (KF b off o f J A w k5 k6 14 (f 10) (f 13) (fun k => A k ∨ k = k5 ∨ k = k6) w7.drew) := Lib.hid (KF.step HF7.out HJ.out (hAA b hAb) (fun k h => .inl h) (Ext.refl _ _).drew)
        clear HF7
        have hS0 : (fun _ : World => True) w7.drew := trivial
        refine wp_region_s (fun _ => True) (fun _ => false) (by kernel_rfl) ?_
        generalize w7.drew = W1 at hS0 HF8 ⊢
        refine wpAnyS_take (i := 0) (d := some 56) rfl rfl rfl (by kernel_rfl) (by kernel_rfl) (by kernel_rfl) (by kernel_rfl) (fun _ _ _ h => h) (.inl ⟨by rfl, fun W hW => by go_simp; try rfl⟩) hS0 ?_
        try simp only [Act.put, List.setIfInBounds_toArray, List.set_cons_zero, List.set_cons_succ]
        refine wpAnyS_take (i := 1) (d := some 57) (v := .pointer (some ⟨b, off, none⟩)) rfl rfl rfl (by kernel_rfl) (by kernel_rfl) (by kernel_rfl) (by kernel_rfl) (fun _ _ _ h => h) (.inl ⟨by rfl, fun W hW => by go_simp; try rfl⟩) hS0 ?_
        try simp only [Act.put, List.setIfInBounds_toArray, List.set_cons_zero, List.set_cons_succ]
        refine wpAnyS_take (i := 2) (d := some 58) (v := .pointer (some ⟨b, off + 14, none⟩)) rfl rfl rfl (by kernel_rfl) (by kernel_rfl) (by kernel_rfl) (by kernel_rfl) (fun _ _ _ h => h) (.inl ⟨by rfl, fun W hW => by go_simp; try rfl⟩) hS0 ?_
        try simp only [Act.put, List.setIfInBounds_toArray, List.set_cons_zero, List.set_cons_succ]
        refine wpAnyS_take (i := 3) (d := some 59) rfl rfl rfl (by kernel_rfl) (by kernel_rfl) (by kernel_rfl) (by kernel_rfl) (fun _ _ _ h => h) (.inl ⟨by rfl, fun W hW => by go_simp; try rfl⟩) hS0 ?_
        try simp only [Act.put, List.setIfInBounds_toArray, List.set_cons_zero, List.set_cons_succ]
        refine wpAnyS_take (i := 4) (d := some 60) (v := .pointer (some ⟨b, off, none⟩)) rfl rfl rfl (by kernel_rfl) (by kernel_rfl) (by kernel_rfl) (by kernel_rfl) (fun _ _ _ h => h) (.inl ⟨by rfl, fun W hW => by go_simp; try rfl⟩) hS0 ?_
        try simp only [Act.put, List.setIfInBounds_toArray, List.set_cons_zero, List.set_cons_succ]
        refine wpAnyS_take (i := 5) (d := some 61) (v := .pointer (some ⟨b, off + 15, none⟩)) rfl rfl rfl (by kernel_rfl) (by kernel_rfl) (by kernel_rfl) (by kernel_rfl) (fun _ _ _ h => h) (.inl ⟨by rfl, fun W hW => by go_simp; try rfl⟩) hS0 ?_
        try simp only [Act.put, List.setIfInBounds_toArray, List.set_cons_zero, List.set_cons_succ]
        refine wpAnyS_take (i := 6) (d := some 62) (v := .pointer (some ⟨b, off + 15, none⟩)) rfl rfl rfl (by kernel_rfl) (by kernel_rfl) (by kernel_rfl) (by kernel_rfl) (fun _ _ _ h => h) (.inl ⟨by rfl, fun W hW => by go_simp; try rfl⟩) hS0 ?_
        try simp only [Act.put, List.setIfInBounds_toArray, List.set_cons_zero, List.set_cons_succ]
        refine wpAnyS_take (i := 7) (d := some 63) rfl rfl rfl (by kernel_rfl) (by kernel_rfl) (by kernel_rfl) (by kernel_rfl) (fun _ _ _ h => h) (.inl ⟨by rfl, fun W hW => by go_simp; try rfl⟩) hS0 ?_
        try simp only [Act.put, List.setIfInBounds_toArray, List.set_cons_zero, List.set_cons_succ]
        refine wpAnyS_take (i := 8) (d := some 64) (v := .pointer (some ⟨b, off, none⟩)) rfl rfl rfl (by kernel_rfl) (by kernel_rfl) (by kernel_rfl) (by kernel_rfl) (fun _ _ _ h => h) (.inl ⟨by rfl, fun W hW => by go_simp; try rfl⟩) hS0 ?_
        try simp only [Act.put, List.setIfInBounds_toArray, List.set_cons_zero, List.set_cons_succ]
        refine wpAnyS_take (i := 9) (d := some 65) (v := .pointer (some ⟨b, off + 15, none⟩)) rfl rfl rfl (by kernel_rfl) (by kernel_rfl) (by kernel_rfl) (by kernel_rfl) (fun _ _ _ h => h) (.inl ⟨by rfl, fun W hW => by go_simp; try rfl⟩) hS0 ?_
        try simp only [Act.put, List.setIfInBounds_toArray, List.set_cons_zero, List.set_cons_succ]
        refine wpAnyS_take (i := 10) (d := some 66) (v := .pointer (some ⟨b, off + 16, none⟩)) rfl rfl rfl (by kernel_rfl) (by kernel_rfl) (by kernel_rfl) (by kernel_rfl) (fun _ _ _ h => h) (.inl ⟨by rfl, fun W hW => by go_simp; try rfl⟩) hS0 ?_
        try simp only [Act.put, List.setIfInBounds_toArray, List.set_cons_zero, List.set_cons_succ]
        refine wpAnyS_take (i := 11) (d := some 67) rfl rfl rfl (by kernel_rfl) (by kernel_rfl) (by kernel_rfl) (by kernel_rfl) (fun _ _ _ h => h) (.inl ⟨by rfl, fun W hW => by go_simp; try rfl⟩) hS0 ?_
        try simp only [Act.put, List.setIfInBounds_toArray, List.set_cons_zero, List.set_cons_succ]
        refine wpAnyS_take (i := 12) (d := some 68) (v := .pointer (some ⟨b, off, none⟩)) rfl rfl rfl (by kernel_rfl) (by kernel_rfl) (by kernel_rfl) (by kernel_rfl) (fun _ _ _ h => h) (.inl ⟨by rfl, fun W hW => by go_simp; try rfl⟩) hS0 ?_
        try simp only [Act.put, List.setIfInBounds_toArray, List.set_cons_zero, List.set_cons_succ]
        refine wpAnyS_take (i := 13) (d := some 69) (v := .pointer (some ⟨b, off + 20, none⟩)) rfl rfl rfl (by kernel_rfl) (by kernel_rfl) (by kernel_rfl) (by kernel_rfl) (fun _ _ _ h => h) (.inl ⟨by rfl, fun W hW => by go_simp; try rfl⟩) hS0 ?_
        try simp only [Act.put, List.setIfInBounds_toArray, List.set_cons_zero, List.set_cons_succ]
        refine wpAnyS_take (i := 14) (d := some 70) (v := .pointer (some ⟨b, off + 20, none⟩)) rfl rfl rfl (by kernel_rfl) (by kernel_rfl) (by kernel_rfl) (by kernel_rfl) (fun _ _ _ h => h) (.inl ⟨by rfl, fun W hW => by go_simp; try rfl⟩) hS0 ?_
        try simp only [Act.put, List.setIfInBounds_toArray, List.set_cons_zero, List.set_cons_succ]
        refine wpAnyS_take (i := 15) (d := some 71) (v := .pointer (some ⟨b, off + 20, none⟩)) rfl rfl rfl (by kernel_rfl) (by kernel_rfl) (by kernel_rfl) (by kernel_rfl) (fun _ _ _ h => h) (.inl ⟨by rfl, fun W hW => by go_simp; try rfl⟩) hS0 ?_
        try simp only [Act.put, List.setIfInBounds_toArray, List.set_cons_zero, List.set_cons_succ]
        refine wpAnyS_take (i := 16) (d := some 72) rfl rfl rfl (by kernel_rfl) (by kernel_rfl) (by kernel_rfl) (by kernel_rfl) (fun _ _ _ h => h) (.inl ⟨by rfl, fun W hW => by go_simp; try rfl⟩) hS0 ?_
        try simp only [Act.put, List.setIfInBounds_toArray, List.set_cons_zero, List.set_cons_succ]
        refine wpAnyS_take (i := 17) (d := some 73) (v := .pointer (some ⟨b, off, none⟩)) rfl rfl rfl (by kernel_rfl) (by kernel_rfl) (by kernel_rfl) (by kernel_rfl) (fun _ _ _ h => h) (.inl ⟨by rfl, fun W hW => by go_simp; try rfl⟩) hS0 ?_
        try simp only [Act.put, List.setIfInBounds_toArray, List.set_cons_zero, List.set_cons_succ]
        refine wpAnyS_take (i := 18) (d := some 74) (v := .pointer (some ⟨b, off + 20, none⟩)) rfl rfl rfl (by kernel_rfl) (by kernel_rfl) (by kernel_rfl) (by kernel_rfl) (fun _ _ _ h => h) (.inl ⟨by rfl, fun W hW => by go_simp; try rfl⟩) hS0 ?_
        try simp only [Act.put, List.setIfInBounds_toArray, List.set_cons_zero, List.set_cons_succ]
        refine wpAnyS_take (i := 19) (d := some 75) (v := .pointer (some ⟨b, off + 20, none⟩)) rfl rfl rfl (by kernel_rfl) (by kernel_rfl) (by kernel_rfl) (by kernel_rfl) (fun _ _ _ h => h) (.inl ⟨by rfl, fun W hW => by go_simp; try rfl⟩) hS0 ?_
        try simp only [Act.put, List.setIfInBounds_toArray, List.set_cons_zero, List.set_cons_succ]
        refine wpAnyS_take (i := 20) (d := some 76) (v := .pointer (some ⟨b, off + 21, none⟩)) rfl rfl rfl (by kernel_rfl) (by kernel_rfl) (by kernel_rfl) (by kernel_rfl) (fun _ _ _ h => h) (.inl ⟨by rfl, fun W hW => by go_simp; try rfl⟩) hS0 ?_
        try simp only [Act.put, List.setIfInBounds_toArray, List.set_cons_zero, List.set_cons_succ]
        refine wpAnyS_take (i := 21) (d := some 77) rfl rfl rfl (by kernel_rfl) (by kernel_rfl) (by kernel_rfl) (by kernel_rfl) (fun _ _ _ h => h) (.inl ⟨by rfl, fun W hW => by go_simp; try rfl⟩) hS0 ?_
        try simp only [Act.put, List.setIfInBounds_toArray, List.set_cons_zero, List.set_cons_succ]
        refine wpAnyS_take (i := 22) (d := some 78) (v := .pointer (some ⟨b, off, none⟩)) rfl rfl rfl (by kernel_rfl) (by kernel_rfl) (by kernel_rfl) (by kernel_rfl) (fun _ _ _ h => h) (.inl ⟨by rfl, fun W hW => by go_simp; try rfl⟩) hS0 ?_
        try simp only [Act.put, List.setIfInBounds_toArray, List.set_cons_zero, List.set_cons_succ]
        refine wpAnyS_take (i := 23) (d := some 79) (v := .pointer (some ⟨b, off + 23, none⟩)) rfl rfl rfl (by kernel_rfl) (by kernel_rfl) (by kernel_rfl) (by kernel_rfl) (fun _ _ _ h => h) (.inl ⟨by rfl, fun W hW => by go_simp; try rfl⟩) hS0 ?_
        try simp only [Act.put, List.setIfInBounds_toArray, List.set_cons_zero, List.set_cons_succ]
        refine wpAnyS_take (i := 24) (d := some 80) (v := .pointer (some ⟨b, off + 23, none⟩)) rfl rfl rfl (by kernel_rfl) (by kernel_rfl) (by kernel_rfl) (by kernel_rfl) (fun _ _ _ h => h) (.inl ⟨by rfl, fun W hW => by go_simp; try rfl⟩) hS0 ?_
        try simp only [Act.put, List.setIfInBounds_toArray, List.set_cons_zero, List.set_cons_succ]
        refine wpAnyS_take (i := 25) (d := some 81) (v := .pointer (some ⟨b, off + 23, none⟩)) rfl rfl rfl (by kernel_rfl) (by kernel_rfl) (by kernel_rfl) (by kernel_rfl) (fun _ _ _ h => h) (.inl ⟨by rfl, fun W hW => by go_simp; try rfl⟩) hS0 ?_
        try simp only [Act.put, List.setIfInBounds_toArray, List.set_cons_zero, List.set_cons_succ]
        refine wpAnyS_take (i := 26) (d := some 82) rfl rfl rfl (by kernel_rfl) (by kernel_rfl) (by kernel_rfl) (by kernel_rfl) (fun _ _ _ h => h) (.inl ⟨by rfl, fun W hW => by go_simp; try rfl⟩) hS0 ?_
        try simp only [Act.put, List.setIfInBounds_toArray, List.set_cons_zero, List.set_cons_succ]
        refine wpAnyS_take (i := 27) (d := some 83) (v := .pointer (some ⟨b, off, none⟩)) rfl rfl rfl (by kernel_rfl) (by kernel_rfl) (by kernel_rfl) (by kernel_rfl) (fun _ _ _ h => h) (.inl ⟨by rfl, fun W hW => by go_simp; try rfl⟩) hS0 ?_
        try simp only [Act.put, List.setIfInBounds_toArray, List.set_cons_zero, List.set_cons_succ]
        refine wpAnyS_take (i := 28) (d := some 84) (v := .pointer (some ⟨b, off + 23, none⟩)) rfl rfl rfl (by kernel_rfl) (by kernel_rfl) (by kernel_rfl) (by kernel_rfl) (fun _ _ _ h => h) (.inl ⟨by rfl, fun W hW => by go_simp; try rfl⟩) hS0 ?_
        try simp only [Act.put, List.setIfInBounds_toArray, List.set_cons_zero, List.set_cons_succ]
        refine wpAnyS_take (i := 29) (d := some 85) (v := .pointer (some ⟨b, off + 23, none⟩)) rfl rfl rfl (by kernel_rfl) (by kernel_rfl) (by kernel_rfl) (by kernel_rfl) (fun _ _ _ h => h) (.inl ⟨by rfl, fun W hW => by go_simp; try rfl⟩) hS0 ?_
        try simp only [Act.put, List.setIfInBounds_toArray, List.set_cons_zero, List.set_cons_succ]
        refine wpAnyS_take (i := 30) (d := some 86) (v := .pointer (some ⟨b, off + 24, none⟩)) rfl rfl rfl (by kernel_rfl) (by kernel_rfl) (by kernel_rfl) (by kernel_rfl) (fun _ _ _ h => h) (.inl ⟨by rfl, fun W hW => by go_simp; try rfl⟩) hS0 ?_
        try simp only [Act.put, List.setIfInBounds_toArray, List.set_cons_zero, List.set_cons_succ]
        refine wpAnyS_take (i := 33) (d := some 89) (v := .int .i64 0) rfl rfl rfl (by kernel_rfl) (by kernel_rfl) (by kernel_rfl) (by kernel_rfl) (fun _ _ _ h => h) (.inl ⟨by rfl, fun W hW => by go_simp; try rfl⟩) hS0 ?_
        try simp only [Act.put, List.setIfInBounds_toArray, List.set_cons_zero, List.set_cons_succ]
        refine wpAnyS_ran (i := 31) (d := some 87) (v := .slice (some ⟨W1.heap.size, 0, none⟩) 7 7) (w' := W1.alloc (.cells #[.pointer (some ⟨b, off + 14, none⟩), .pointer (some ⟨b, off + 15, none⟩), .pointer (some ⟨b, off + 16, none⟩), .pointer (some ⟨b, off + 20, none⟩), .pointer (some ⟨b, off + 21, none⟩), .pointer (some ⟨b, off + 23, none⟩), .pointer (some ⟨b, off + 24, none⟩)] 164)) (by kernel_rfl) rfl rfl (by rfl) (by go_simp; try rfl) (fun _ => trivial) ?_
        try simp only [Act.put, List.setIfInBounds_toArray, List.set_cons_zero, List.set_cons_succ]
        have HF9 : Hid (KF b off o f J A w k5 k6 14 (f 10) (f 13) (fun k => (A k ∨ k = k5 ∨ k = k6) ∨ k = W1.heap.size) (W1.alloc (.cells #[.pointer (some ⟨b, off + 14, none⟩), .pointer (some ⟨b, off + 15, none⟩), .pointer (some ⟨b, off + 16, none⟩), .pointer (some ⟨b, off + 20, none⟩), .pointer (some ⟨b, off + 21, none⟩), .pointer (some ⟨b, off + 23, none⟩), .pointer (some ⟨b, off + 24, none⟩)] 164))) := Lib.hid (KF.step HF8.out HJ.out (hAA b hAb) (fun k h => h.elim .inl (fun e => .inr (by rw [World.size_alloc]; omega))) ((Ext.refl _ _).alloc _))
        have hps : ∀ k : Nat, k < 7 → (W1.alloc (.cells #[.pointer (some ⟨b, off + 14, none⟩), .pointer (some ⟨b, off + 15, none⟩), .pointer (some ⟨b, off + 16, none⟩), .pointer (some ⟨b, off + 20, none⟩), .pointer (some ⟨b, off + 21, none⟩), .pointer (some ⟨b, off + 23, none⟩), .pointer (some ⟨b, off + 24, none⟩)] 164)).cell? ⟨W1.heap.size, k, none⟩ = some (.pointer (some ⟨b, off + offC (14 + k), none⟩)) := fun k hk => cells_new W1 [.pointer (some ⟨b, off + 14, none⟩), .pointer (some ⟨b, off + 15, none⟩), .pointer (some ⟨b, off + 16, none⟩), .pointer (some ⟨b, off + 20, none⟩), .pointer (some ⟨b, off + 21, none⟩), .pointer (some ⟨b, off + 23, none⟩), .pointer (some ⟨b, off + 24, none⟩)] _ k _ (by
          match k, hk with
          | 0, _ => rfl
          | 1, _ => rfl
          | 2, _ => rfl
          | 3, _ => rfl
          | 4, _ => rfl
          | 5, _ => rfl
          | 6, _ => rfl
          | n + 7, h => exact absurd h (by omega))
        obtain ⟨SB, hSB⟩ : ∃ SB, SB = W1.heap.size := ⟨_, rfl⟩
        have hSw : w.heap.size ≤ SB := by rw [hSB]; exact HF8.out.1.2.2.1.size
        rw [← hSB] at hps HF9 ⊢
        have hA7 : ∀ k, A k → ((A k ∨ k = k5 ∨ k = k6) ∨ k = SB) := fun k h => .inl (.inl h)
        generalize W1.alloc (.cells #[.pointer (some ⟨b, off + 14, none⟩), .pointer (some ⟨b, off + 15, none⟩), .pointer (some ⟨b, off + 16, none⟩), .pointer (some ⟨b, off + 20, none⟩), .pointer (some ⟨b, off + 21, none⟩), .pointer (some ⟨b, off + 23, none⟩), .pointer (some ⟨b, off + 24, none⟩)] 164) = W2 at HF9 hps ⊢
        have HPS := Lib.hid hps
        clear hSB HF8 hps hS0
        have hS0 : (fun _ : World => True) W2 := trivial
        refine wpAnyS_take (i := 32) (d := some 88) (v := .int .i64 7) rfl rfl rfl (by kernel_rfl) (by kernel_rfl) (by kernel_rfl) (by kernel_rfl) (fun _ _ _ h => h) (.inl ⟨by rfl, fun W hW => by go_simp; try rfl⟩) hS0 ?_
        try simp only [Act.put, List.setIfInBounds_toArray, List.set_cons_zero, List.set_cons_succ]
        refine wpAnyS_done (by kernel_rfl) ?_ _
        clear hS0
        go_wp2_with fail
        go_loopg [89] 7 (fun g kv wx => ∃ k : Nat, g = 7 - k ∧ kv = .int .i64 k ∧ k ≤ 7 ∧ Hid (KF b off o f J A w k5 k6 (14 + k) (f 10) (f 13) (fun k => (A k ∨ k = k5 ∨ k = k6) ∨ k = SB) wx) ∧ Hid (∀ q : Nat, q < 7 → wx.cell? ⟨SB, q, none⟩ = some (.pointer (some ⟨b, off + offC (14 + q), none⟩))))
        case atStart => exact ⟨0, rfl, rfl, by omega, HF9, HPS⟩
        case round =>
          clear HF9 HPS
          obtain ⟨k, hg, rfl, hk, HF, HPS⟩ := hrel
          have HG := Lib.hid hg
          clear hg
          by_cases hlt : k < 7
          · have hk1 : (k : Int) < 7 := by omega
            have hcell := HPS.out k hlt
            have hc := IS.use HU.out hAb hA7 HF.out.1 (c := 14 + k) (by omega) (by omega) (by omega)
            rw [show dlt (14 + k) = false by unfold dlt; simp; omega] at hc
            generalize off + offC (14 + k) = pk at hcell hc
            have HC := Lib.hid hc
            clear hc
            go_wp2_with fail
            refine HC.out.mono ?_
            rintro e w3 ⟨⟨v3, rfl⟩, h3, hx3⟩
            have HF3 : Hid (KF b off o f J A w k5 k6 (14 + k + 1) (f 10) (f 13) (fun k => (A k ∨ k = k5 ∨ k = k6) ∨ k = SB) w3) := Lib.hid (HF.out.ext h3 hx3 (fun h => h.elim (fun h => h (.inl (.inr (.inl rfl)))) (fun e => by omega)) (fun h => h.elim (fun h => h (.inl (.inr (.inr rfl)))) (fun e => by omega)))
            have HPS3 : Hid (∀ q : Nat, q < 7 → w3.cell? ⟨SB, q, none⟩ = some (.pointer (some ⟨b, off + offC (14 + q), none⟩))) := Lib.hid (fun q hq => hx3.keep (HPS.out q hq) (fun h => h.elim (fun h => h (.inr rfl)) (fun e => by omega)))
            clear h3 hx3 HC HF HPS hcell
            go_wp2_with fail
            go_roundg (7 - (k + 1))
            case measure => rw [HG.out]; omega
            case rel => exact ⟨k + 1, rfl, by simp, by omega, HF3, HPS3⟩
          · obtain rfl : k = 7 := by omega
            have hk1 : ¬ (7 : Int) < 7 := by omega
            have HF21 : Hid (KF b off o f J A w k5 k6 21 (f 10) (f 13) (fun k => (A k ∨ k = k5 ∨ k = k6) ∨ k = SB) wr) := HF
            clear hlt HF HPS hk
            have hA := HF21.out.1.2.1
            have c10 : wr.cell? ⟨b, off + 10, none⟩ = some (.int .i64 (stg f o 21 10)) := hA.num 10 (by omega)
            have f10 : wr.frozen? ⟨b, off + 10, none⟩ = false := hA.free 10 (by omega)
            have c13 : wr.cell? ⟨b, off + 13, none⟩ = some (.int .i64 (stg f o 21 13)) := hA.num 13 (by omega)
            have f13 : wr.frozen? ⟨b, off + 13, none⟩ = false := hA.free 13 (by omega)
            have c5 := HF21.out.2.1
            have c6 := HF21.out.2.2.2.1
            have hbk5 : ¬ b = k5 := by omega
            have hbk6 : ¬ b = k6 := by omega
            have x1 : Ext (· = b) wr (wr.setCell ⟨b, off + 10, none⟩ (.int .i64 (f 10))) := (Ext.refl (· = b) wr).setCell (p := ⟨b, off + 10, none⟩) (.inr rfl) _
            have hA1 := hA.put (c := 10) (x := f 10) (by omega) (cell_setCell_same8 c10) (fun q hq => cell_setCell_ne8 hq) (fun q => World.frozen?_setCell _ _ _ _)
            have x2 : Ext (· = b) (wr.setCell ⟨b, off + 10, none⟩ (.int .i64 (f 10))) ((wr.setCell ⟨b, off + 10, none⟩ (.int .i64 (f 10))).setCell ⟨b, off + 13, none⟩ (.int .i64 (f 13))) := (Ext.refl (· = b) _).setCell (p := ⟨b, off + 13, none⟩) (.inr rfl) _
            have hA2 := hA1.put (c := 13) (x := f 13) (by omega) (cell_setCell_same8 (hA1.num 13 (by omega))) (fun q hq => cell_setCell_ne8 hq) (fun q => World.frozen?_setCell _ _ _ _)
            have HFIN := Lib.hid (And.intro (HJ.out _ _ A _ _ (HJ.out _ _ A _ _ HF21.out.1.1 x1 (fun k h => .inl (hA7 k h)) (hA7 b hAb)) x2 (fun k h => .inl h) hAb) (And.intro (hA2.num_eq f (stg_end f o)) (And.intro ((HF21.out.1.2.2.1.andThen x1 (fun i hi e => .inr e)).andThen x2 (fun i hi e => .inr e)) ((HF21.out.1.2.2.2.trans (Rst.set (b := b) (off := off) (po := off + 10) wr (.int .i64 (f 10)) (by omega) (by omega))).trans (Rst.set (b := b) (off := off) (po := off + 13) _ (.int .i64 (f 13)) (by omega) (by omega))))))
            clear hA hA1 hA2 x1 x2 HF21
            go_wp2_with fail
            go_end0
            exact ⟨⟨_, rfl⟩, HFIN.out⟩
theorem heap_cell {W W' : World} {b : Nat} (h : W'.heap[b]? = W.heap[b]?) (q : Nat) : W'.cell? ⟨b, q, none⟩ = W.cell? ⟨b, q, none⟩ := by
  unfold World.cell?
  rw [h]
structure NR (W1 : World) (lo hi Br Bi rb rcap ii : Nat) (f : Nat → Int) (Bc : Nat) : Prop where
  br : W1.cell? ⟨Br, 0, none⟩ = some (.slice (some ⟨rb, 0, none⟩) 21 rcap)
  bi : W1.cell? ⟨Bi, 0, none⟩ = some (.int .i64 ii)
  row : ∀ c, c < 21 → ∃ sb sn sc, W1.cell? ⟨rb, c, none⟩ = some (.slice (some ⟨sb, 0, none⟩) sn sc) ∧ (lo ≤ sb ∧ sb < hi ∧ sb ≠ Bc) ∧ ii < sn ∧ W1.cell? ⟨sb, ii, none⟩ = some (.int .i64 (f c))
  dis : (lo ≤ Br ∧ Br < hi ∧ Br ≠ Bc) ∧ (lo ≤ Bi ∧ Bi < hi ∧ Bi ≠ Bc) ∧ (lo ≤ rb ∧ rb < hi ∧ rb ≠ Bc) ∧ lo ≤ Bc ∧ Bc < hi
def JN (W1 : World) (lo hi Bc : Nat) (c : Nat) (A : Nat → Prop) (W : World) : Prop :=
  (∀ k, A k → k < lo ∨ hi ≤ k) ∧ (∀ k, lo ≤ k → k < hi → k ≠ Bc → W.heap[k]? = W1.heap[k]?) ∧ W.heap[Bc]? = some (.cells #[.int .i64 c] 3 (0, 0)) ∧ hi ≤ W.heap.size ∧ lo ≤ Bc ∧ Bc < hi
theorem JN.jok (W1 : World) (lo hi Bc b : Nat) : JOK b (JN W1 lo hi Bc) := by
  rintro c A A' W W' ⟨h1, h2, h3, h4, h5, h6⟩ hx hA hb
  have hbn := h1 b hb
  have hs := hx.size
  refine ⟨fun k hk => (hA k hk).elim (h1 k) (fun e => .inr (by omega)), fun k k1 k2 k3 => (hx.block _ (by omega) (by omega)).trans (h2 k k1 k2 k3), (hx.block _ (by omega) (by omega)).trans h3, by omega, h5, h6⟩
set_option maxRecDepth 20000 in
set_option maxHeartbeats 1000000 in
theorem nums_use {W1 : World} {lo hi Br Bi rb rcap ii Bc : Nat} {f : Nat → Int} (hN : NR W1 lo hi Br Bi rb rcap ii f Bc) (fl : Nat → Int) : UseOK Tryz.prog 155 #[.pointer (some ⟨Br, 0, none⟩), .pointer (some ⟨Bc, 0, none⟩), .pointer (some ⟨Bi, 0, none⟩)] f fl (JN W1 lo hi Bc) := by
  rintro c A W pb po hc ⟨hA, hkeep, hBc, hhi, hlo1, hlo2⟩ hcell hfree hAp
  show Calls Tryz.prog 155 #[.pointer (some ⟨pb, po, none⟩), .bool (dlt c), .pointer (some ⟨Br, 0, none⟩), .pointer (some ⟨Bc, 0, none⟩), .pointer (some ⟨Bi, 0, none⟩)] W _
  obtain ⟨sb, sn, sc, hrow, ⟨s1, s2, s3⟩, hin, hval⟩ := hN.row c hc
  obtain ⟨⟨r1, r2, r3⟩, ⟨i1, i2, i3⟩, ⟨q1, q2, q3⟩, -, -⟩ := hN.dis
  have hp := hA pb hAp
  have hSW : (fun W : World => W.cell? ⟨Br, 0, none⟩ = some (.slice (some ⟨rb, 0, none⟩) 21 rcap) ∧ W.cell? ⟨Bc, 0, none⟩ = some (.int .i64 c) ∧ W.cell? ⟨rb, c, none⟩ = some (.slice (some ⟨sb, 0, none⟩) sn sc) ∧ W.cell? ⟨Bi, 0, none⟩ = some (.int .i64 ii) ∧ W.cell? ⟨sb, ii, none⟩ = some (.int .i64 (f c))) W.drew := ⟨(heap_cell (hkeep Br r1 r2 r3) 0).trans hN.br, cell_of_one hBc, (heap_cell (hkeep rb q1 q2 q3) c).trans hrow, (heap_cell (hkeep Bi i1 i2 i3) 0).trans hN.bi, (heap_cell (hkeep sb s1 s2 s3) ii).trans hval⟩
  have hpc : pb ≠ Bc := by omega
  have hpl := cell_lt hcell
  have hc1 : W.drew.cell? ⟨pb, po, none⟩ = some (.int .i64 (fl c)) := hcell
  have hf1 : W.drew.frozen? ⟨pb, po, none⟩ = false := hfree
  have hB1 : W.drew.heap[Bc]? = some (.cells #[.int .i64 c] 3 (0, 0)) := hBc
  have hW0 : Ext (fun _ => False) W W.drew := (Ext.refl _ _).drew
  have HK := Lib.hid hkeep
  have HA := Lib.hid hA
  clear hkeep hA hcell hfree hBc hrow hval
  go_enter Tryz.func155, Tryz.ntmps155
  go_upto_region 0 with fail
  refine wp_region_s (fun W : World => W.cell? ⟨Br, 0, none⟩ = some (.slice (some ⟨rb, 0, none⟩) 21 rcap) ∧ W.cell? ⟨Bc, 0, none⟩ = some (.int .i64 c) ∧ W.cell? ⟨rb, c, none⟩ = some (.slice (some ⟨sb, 0, none⟩) sn sc) ∧ W.cell? ⟨Bi, 0, none⟩ = some (.int .i64 ii) ∧ W.cell? ⟨sb, ii, none⟩ = some (.int .i64 (f c))) (fun i => i == 9) (by kernel_rfl) ?_
  generalize W.drew = W2 at hSW hc1 hf1 hB1 hW0 ⊢
  have hc21 : (c : Int) < 21 := by omega
  have hc0 : (0 : Int) ≤ (c : Int) := by omega
  have hi0 : (0 : Int) ≤ (ii : Int) := by omega
  have hi1 : (ii : Int) < (sn : Int) := by omega
  refine wpAnyS_take (i := 0) (d := some 7) rfl rfl rfl (by kernel_rfl) (by kernel_rfl) (by kernel_rfl) (by kernel_rfl) (fun _ _ _ h => h) (.inl ⟨by rfl, fun W hW => by obtain ⟨q0, q1, q2, q3, q4⟩ := hW; go_simp; try rfl⟩) hSW ?_
  try simp only [Act.put, List.setIfInBounds_toArray, List.set_cons_zero, List.set_cons_succ]
  refine wpAnyS_take (i := 1) (d := some 8) (v := .slice (some ⟨rb, 0, none⟩) 21 rcap) rfl rfl rfl (by kernel_rfl) (by kernel_rfl) (by kernel_rfl) (by kernel_rfl) (fun _ _ _ h => h) (.inl ⟨by rfl, fun W hW => by obtain ⟨q0, q1, q2, q3, q4⟩ := hW; go_simp; try rfl⟩) hSW ?_
  try simp only [Act.put, List.setIfInBounds_toArray, List.set_cons_zero, List.set_cons_succ]
  refine wpAnyS_take (i := 2) (d := some 9) (v := .int .i64 c) rfl rfl rfl (by kernel_rfl) (by kernel_rfl) (by kernel_rfl) (by kernel_rfl) (fun _ _ _ h => h) (.inl ⟨by rfl, fun W hW => by obtain ⟨q0, q1, q2, q3, q4⟩ := hW; go_simp; try rfl⟩) hSW ?_
  try simp only [Act.put, List.setIfInBounds_toArray, List.set_cons_zero, List.set_cons_succ]
  refine wpAnyS_take (i := 3) (d := some 10) (v := .pointer (some ⟨rb, c, none⟩)) rfl rfl rfl (by kernel_rfl) (by kernel_rfl) (by kernel_rfl) (by kernel_rfl) (fun _ _ _ h => h) (.inl ⟨by rfl, fun W hW => by obtain ⟨q0, q1, q2, q3, q4⟩ := hW; go_simp; try rfl⟩) hSW ?_
  try simp only [Act.put, List.setIfInBounds_toArray, List.set_cons_zero, List.set_cons_succ]
  refine wpAnyS_take (i := 4) (d := some 11) (v := .slice (some ⟨sb, 0, none⟩) sn sc) rfl rfl rfl (by kernel_rfl) (by kernel_rfl) (by kernel_rfl) (by kernel_rfl) (fun _ _ _ h => h) (.inl ⟨by rfl, fun W hW => by obtain ⟨q0, q1, q2, q3, q4⟩ := hW; go_simp; try rfl⟩) hSW ?_
  try simp only [Act.put, List.setIfInBounds_toArray, List.set_cons_zero, List.set_cons_succ]
  refine wpAnyS_take (i := 5) (d := some 12) (v := .int .i64 ii) rfl rfl rfl (by kernel_rfl) (by kernel_rfl) (by kernel_rfl) (by kernel_rfl) (fun _ _ _ h => h) (.inl ⟨by rfl, fun W hW => by obtain ⟨q0, q1, q2, q3, q4⟩ := hW; go_simp; try rfl⟩) hSW ?_
  try simp only [Act.put, List.setIfInBounds_toArray, List.set_cons_zero, List.set_cons_succ]
  refine wpAnyS_take (i := 6) (d := some 13) (v := .pointer (some ⟨sb, ii, none⟩)) rfl rfl rfl (by kernel_rfl) (by kernel_rfl) (by kernel_rfl) (by kernel_rfl) (fun _ _ _ h => h) (.inl ⟨by rfl, fun W hW => by obtain ⟨q0, q1, q2, q3, q4⟩ := hW; go_simp; try rfl⟩) hSW ?_
  try simp only [Act.put, List.setIfInBounds_toArray, List.set_cons_zero, List.set_cons_succ]
  refine wpAnyS_take (i := 7) (d := some 14) (v := .int .i64 (f c)) rfl rfl rfl (by kernel_rfl) (by kernel_rfl) (by kernel_rfl) (by kernel_rfl) (fun _ _ _ h => h) (.inl ⟨by rfl, fun W hW => by obtain ⟨q0, q1, q2, q3, q4⟩ := hW; go_simp; try rfl⟩) hSW ?_
  try simp only [Act.put, List.setIfInBounds_toArray, List.set_cons_zero, List.set_cons_succ]
  refine wpAnyS_take (i := 8) (d := some 15) (v := .pointer (some ⟨pb, po, none⟩)) rfl rfl rfl (by kernel_rfl) (by kernel_rfl) (by kernel_rfl) (by kernel_rfl) (fun _ _ _ h => h) (.inl ⟨by rfl, fun W hW => by obtain ⟨q0, q1, q2, q3, q4⟩ := hW; go_simp; try rfl⟩) hSW ?_
  try simp only [Act.put, List.setIfInBounds_toArray, List.set_cons_zero, List.set_cons_succ]
  refine wpAnyS_mute (i := 9) (d := none) (w' := W2.setCell ⟨pb, po, none⟩ (.int .i64 (f c))) (by kernel_rfl) rfl rfl (by rfl) (by go_simp; try rfl) (fun h => by cases h) ?_
  try simp only [Act.put, List.setIfInBounds_toArray, List.set_cons_zero, List.set_cons_succ]
  refine wpAnyS_done (by kernel_rfl) ?_ _
  have hx3 : Ext (· = pb) W2 (W2.setCell ⟨pb, po, none⟩ (.int .i64 (f c))) := (Ext.refl (· = pb) W2).setCell (p := ⟨pb, po, none⟩) (.inr rfl) _
  have hz2 : W.heap.size ≤ W2.heap.size := hW0.size
  have hB3 : (W2.setCell ⟨pb, po, none⟩ (.int .i64 (f c))).heap[Bc]? = some (.cells #[.int .i64 c] 3 (0, 0)) := (hx3.block _ (by omega) (fun e => hpc e.symm)).trans hB1
  have hc3 := cell_setCell_same8 (v := .int .i64 (f c)) hc1
  have hP3 : ∀ q, q ≠ po → (W2.setCell ⟨pb, po, none⟩ (.int .i64 (f c))).cell? ⟨pb, q, none⟩ = W.cell? ⟨pb, q, none⟩ := fun q hq => (cell_setCell_ne8 hq).trans (hW0.cell (p := ⟨pb, q, none⟩) hpl id)
  have hF3 : ∀ q, (W2.setCell ⟨pb, po, none⟩ (.int .i64 (f c))).frozen? ⟨pb, q, none⟩ = W.frozen? ⟨pb, q, none⟩ := fun q => (World.frozen?_setCell _ _ _ _).trans (hW0.frozen (p := ⟨pb, q, none⟩) hpl id)
  have hxa : Ext (· = pb) W (W2.setCell ⟨pb, po, none⟩ (.int .i64 (f c))) := (hW0.mono (fun _ _ f => f.elim)).andThen hx3 (fun i hi e => e)
  have hsh3 : Shp pb W (W2.setCell ⟨pb, po, none⟩ (.int .i64 (f c))) := (Shp.same (hW0.block pb hpl id)).trans (Shp.set _ _ _ _)
  generalize W2.setCell ⟨pb, po, none⟩ (.int .i64 (f c)) = W3 at hB3 hc3 hP3 hF3 hxa hsh3 ⊢
  have b3 := cell_of_one hB3
  have f3 := free_of_one hB3
  have hx4 : Ext (· = Bc) W3 (W3.setCell ⟨Bc, 0, none⟩ (.int .i64 ((c + 1 : Nat) : Int))) := (Ext.refl (· = Bc) W3).setCell (p := ⟨Bc, 0, none⟩) (.inr rfl) _
  have hz3 := hxa.size
  have hall : (∃ v, (Ending.returned (.tuple #[]) = .returned v)) ∧ JN W1 lo hi Bc (c + 1) A (W3.setCell ⟨Bc, 0, none⟩ (.int .i64 ((c + 1 : Nat) : Int))) ∧ (W3.setCell ⟨Bc, 0, none⟩ (.int .i64 ((c + 1 : Nat) : Int))).cell? ⟨pb, po, none⟩ = some (.int .i64 (f c)) ∧
      (∀ q, q ≠ po → (W3.setCell ⟨Bc, 0, none⟩ (.int .i64 ((c + 1 : Nat) : Int))).cell? ⟨pb, q, none⟩ = W.cell? ⟨pb, q, none⟩) ∧ (∀ q, (W3.setCell ⟨Bc, 0, none⟩ (.int .i64 ((c + 1 : Nat) : Int))).frozen? ⟨pb, q, none⟩ = W.frozen? ⟨pb, q, none⟩) ∧ Ext (fun k => ¬ A k ∨ k = pb) W (W3.setCell ⟨Bc, 0, none⟩ (.int .i64 ((c + 1 : Nat) : Int))) ∧ Shp pb W (W3.setCell ⟨Bc, 0, none⟩ (.int .i64 ((c + 1 : Nat) : Int))) :=
    ⟨⟨_, rfl⟩, ⟨HA.out, fun k k1 k2 k3 => (hx4.block _ (by omega) k3).trans ((hxa.block _ (by omega) (by omega)).trans (HK.out k k1 k2 k3)), one_setCell hB3, by rw [World.size_setCell]; omega, hlo1, hlo2⟩,
     (hx4.cell (p := ⟨pb, po, none⟩) (by show pb < _; omega) hpc).trans hc3, fun q hq => (hx4.cell (p := ⟨pb, q, none⟩) (by show pb < _; omega) hpc).trans (hP3 q hq), fun q => (hx4.frozen (p := ⟨pb, q, none⟩) (by show pb < _; omega) hpc).trans (hF3 q),
     ((hxa.mono (T := fun k => ¬ A k ∨ k = pb) (fun k _ e => .inr e))).andThen hx4 (fun i hi e => .inl (fun ha => by have := HA.out i ha; omega)), hsh3.trans (Shp.same (hx4.block pb (by omega) hpc))⟩
  have HFIN := Lib.hid hall.2
  clear hall hsh3 hx4 hxa hP3 hF3 hx3 hB3 hSW
  go_wp2_with fail
  go_end0
  exact ⟨⟨_, rfl⟩, HFIN.out⟩
end Go.Proofs.YtgmdimbiipemhaaGreatDoor
namespace Go.Proofs.YtgmdimbiipemhaaGreatDoor
open Go.RowKit
section
variable {α : Type} {ea : α → List Value} {k : Nat} {e : TypeId} {base : Nat} {w : World} {v : Value} {l : List α}
theorem wpListIn_append_struct {F : Fence} {n : Nat} {P : Program} {ops : Array Oper} {rest : List Oper} {o : Oper} {a : Act} {Q : Exit → Act → World → Prop} (hgd : o.guard = none) (s x : Operand) (t : TypeId)
    (ho : o.op = .call { callee := .builtin .append, args := #[s, x], argTypes := #[t, t] })
    (i : TypeInfo) (z : Value) (bytes : Nat) (ht : P.underlying t = some (.slice e)) (hi : P.info? e = some i) (hz : i.zero = some z)
    (hsize : i.size = k) (hby : i.bytes = bytes) (hzs : z.cells.size = k) (hk0 : 0 < k) (hk : ∀ x, (ea x).length = k) (h1 : ∀ x, ∀ u ∈ ea x, u.oneCell' = true)
    (hs : a.eval s = v) (hown : Own ea k e base w v l) (y : α) (nb c : Nat) (hx : a.eval x = .slice (some ⟨nb, 0, none⟩) 1 c) (hnews : ∀ j u, (ea y)[j]? = some u → w.cell? ⟨nb, j, none⟩ = some u)
    (h63 : l.length + 1 ≤ maxLen) (hbytes : (l.length + 1) * bytes ≤ 140737488355328) (hbase : base ≤ w.heap.size)
    (h : ∀ v' w', Own ea k e base w' v' (l ++ [y]) → Ext (fun b => v.ownBlock = some b) w w' → wpListIn F n P ops Q rest (a.put o.dst v') w') : wpListIn F n P ops Q (o :: rest) a w := by
  refine wpListIn_append_own w hgd s x t ho base e i z k bytes ht hi hz hsize hby hzs hk0 v l.length (l.flatMap ea) hs hown ⟨nb, 0, none⟩ 1 c (ea y) hx (by rw [hk, Nat.one_mul]) (fun j u hj => ?_) (h1 y) h63 hbytes hbase (fun v' w' h2 h3 _ => h v' w' ?_ (Ext.of_grown h3))
  · have := hnews j u hj
    rw [show (Addr.add ⟨nb, 0, none⟩ j) = ⟨nb, j, none⟩ from by unfold Addr.add; split <;> simp_all]
    exact this
  · unfold Own
    rw [List.length_append, List.flatMap_append]
    simpa using h2
end
end Go.Proofs.YtgmdimbiipemhaaGreatDoor
namespace Go.Proofs.YtgmdimbiipemhaaGreatDoor
open Go.RowKit Go.Deep
def colsL (c : Nat) : List Bool := (List.range c).map dlt
theorem colsL_len (c : Nat) : (colsL c).length = c := by simp [colsL]
theorem colsL_succ (c : Nat) : colsL c ++ [dlt c] = colsL (c + 1) := by simp [colsL, List.range_succ]
def JC (Bo base : Nat) (c : Nat) (A : Nat → Prop) (W : World) : Prop := (∃ v, W.heap[Bo]? = some (.cells #[v] 75 (0, 0)) ∧ Own btc 1 4 base W v (colsL c) ∧ ∀ k, v.ownBlock = some k → ¬ A k) ∧ ¬ A Bo ∧ Bo < base ∧ base ≤ W.heap.size ∧ ∀ k, A k → k < W.heap.size
theorem JC.jok (Bo base b : Nat) : JOK b (JC Bo base) := by
  rintro c A A' W W' ⟨⟨v, h1, h2, h3⟩, h4, h5, h6, h7⟩ hx hA hb
  have hlt := (Array.getElem?_eq_some_iff.1 h1).1
  have hs := hx.size
  refine ⟨⟨v, (hx.block _ hlt (fun e => h4 (by rw [e]; exact hb))).trans h1, h2.ext hx (fun k hk e => h3 k hk (by rw [e]; exact hb)), fun k hk ha => ?_⟩, fun ha => ?_, h5, by omega, fun k hk => ?_⟩
  · rcases hA k ha with e | ⟨e, _⟩
    · exact h3 k hk e
    · have := (h2.blk k hk).2; omega
  · rcases hA Bo ha with e | ⟨e, _⟩
    · exact h4 e
    · omega
  · rcases hA k hk with e | ⟨_, e⟩
    · have := h7 k e; omega
    · exact e
set_option maxRecDepth 20000 in
set_option maxHeartbeats 1000000 in
theorem cols_use (Bo base : Nat) (o : OpD) : UseOK Tryz.prog 145 #[.pointer (some ⟨Bo, 0, none⟩)] (fld o) (fld o) (JC Bo base) := by
  rintro c A W pb po hc ⟨⟨v, hb, ho, hnA⟩, hAB, hBb, hbs, hAl⟩ hcell hfree hA
  show Calls Tryz.prog 145 #[.pointer (some ⟨pb, po, none⟩), .bool (dlt c), .pointer (some ⟨Bo, 0, none⟩)] W _
  obtain ⟨i0, hi, hy0, hy1, hy2⟩ := info_parts info_bt
  obtain ⟨⟨sa, sn, sc⟩, e⟩ := ho.sl
  dsimp only at e
  subst e
  have b0 := cell_of_one hb
  have hlt := (Array.getElem?_eq_some_iff.1 hb).1
  have hll := colsL_len c
  have HBD : Hid ((colsL c).length + 1 ≤ maxLen ∧ ((colsL c).length + 1) * 1 ≤ 140737488355328) := Lib.hid (by rw [hll]; unfold maxLen; omega)
  have hpl := cell_lt hcell
  have HW := Lib.hid (And.intro hcell hfree)
  clear hcell hfree hll
  go_enter Tryz.func145, Tryz.ntmps145
  go_wp2_with (at_builtin; refine wpList_append_struct2 rfl _ _ _ rfl i0 _ 1 Tryz.underlying75 hi hy0 hy1 hy2 rfl (by omega) btc_len btc_one rfl (ho.alloc _) (dlt c) W.heap.size 1 rfl (bt_new _ (dlt c)) HBD.out.1 HBD.out.2 (by simp; omega) ?_)
  intro v' w3 hown3 hx3 hn3
  obtain ⟨⟨ua, un, uc⟩, e3⟩ := hown3.sl
  dsimp only at e3
  subst e3
  rw [colsL_succ] at hown3
  have hne : ¬ (Value.slice sa sn sc).ownBlock = some Bo := fun e => by have := (ho.blk _ e).1; omega
  have hb3 : w3.heap[Bo]? = some (.cells #[.slice sa sn sc] 75 (0, 0)) := (hx3.block _ (by simp; omega) hne).trans ((Below.heap_alloc _ _ _ hlt).trans hb)
  have c3 := cell_of_one hb3
  have f3 := free_of_one hb3
  have hx4 : Ext (· = Bo) w3 (w3.setCell ⟨Bo, 0, none⟩ (.slice ua un uc)) := (Ext.refl (· = Bo) w3).setCell (p := ⟨Bo, 0, none⟩) (.inr rfl) _
  have hxa : Ext (fun k => (Value.slice sa sn sc).ownBlock = some k) W w3 := (Ext.alloc (Ext.refl _ _) _).andThen hx3 (fun i hi e => e)
  have hpB : pb ≠ Bo := fun e => hAB (by rw [← e]; exact hA)
  have hpO : ¬ (Value.slice sa sn sc).ownBlock = some pb := fun e => hnA pb e hA
  have hP4 : ∀ q, (w3.setCell ⟨Bo, 0, none⟩ (.slice ua un uc)).cell? ⟨pb, q, none⟩ = W.cell? ⟨pb, q, none⟩ := fun q => (hx4.cell (p := ⟨pb, q, none⟩) (by have := hxa.size; show pb < _; omega) hpB).trans (hxa.cell (p := ⟨pb, q, none⟩) hpl hpO)
  have hF4 : ∀ q, (w3.setCell ⟨Bo, 0, none⟩ (.slice ua un uc)).frozen? ⟨pb, q, none⟩ = W.frozen? ⟨pb, q, none⟩ := fun q => (hx4.frozen (p := ⟨pb, q, none⟩) (by have := hxa.size; show pb < _; omega) hpB).trans (hxa.frozen (p := ⟨pb, q, none⟩) hpl hpO)
  have hs3 := hxa.size
  have hJ4 : JC Bo base (c + 1) A (w3.setCell ⟨Bo, 0, none⟩ (.slice ua un uc)) := ⟨⟨_, one_setCell hb3, hown3.ext hx4 (fun b hb e => by have := (hown3.blk b hb).1; omega), fun k hk ha => (hn3 k hk).elim (fun e => hnA k e ha) (fun e => by have h9 := hAl k ha; omega)⟩, hAB, hBb, by rw [World.size_setCell]; omega, fun k hk => by have := hAl k hk; rw [World.size_setCell]; omega⟩
  have hX4 : Ext (fun k => ¬ A k ∨ k = pb) W (w3.setCell ⟨Bo, 0, none⟩ (.slice ua un uc)) := (hxa.mono (T := fun k => ¬ A k ∨ k = pb) (fun k _ e => .inl (hnA k e))).andThen hx4 (fun i hi e => .inl (by rw [e]; exact hAB))
  have HFIN := Lib.hid (And.intro hJ4 (And.intro ((hP4 po).trans HW.out.1) (And.intro (fun q (_ : q ≠ po) => hP4 q) (And.intro hF4 (And.intro hX4 (Shp.same (W := W) (pb := pb) (((hx4.block pb (by have := hxa.size; omega) hpB)).trans (hxa.block pb hpl hpO))))))))
  clear hJ4 hP4 hF4 hX4 hxa hx3 hx4 hown3 hn3 hb3 ho hnA hb
  go_wp2_with fail
  go_end0
  exact ⟨⟨_, rfl⟩, HFIN.out⟩
def zeroOp : OpD := ⟨⟨0, 0⟩, 0, 0, 0, 0, 0, 0, 0, 0, 0, ⟨0, 0⟩, 0, 0, ⟨0, 0⟩, ⟨#[]⟩, ⟨#[]⟩, ⟨#[]⟩, ⟨0, 0⟩, false, ⟨0, 0⟩, false⟩
set_option maxRecDepth 20000 in
set_option maxHeartbeats 1000000 in
theorem columns_any (w : World) : Calls Tryz.prog 91 #[] w fun e w' => ∃ v, e = .returned v ∧ Own btc 1 4 w.heap.size w' v (colsL 21) ∧ Below w.heap.size w w' := by
  go_enter Tryz.func91, Tryz.ntmps91
  go_wp2_with fail
  have hb0 : Below w.heap.size w ((w.alloc (.cells #[.slice none 0 0] 75)).alloc (.cells zeroOp.cells.toArray 68)) := ((Below.refl _ _).alloc (Nat.le_refl _) _).alloc (by simp) _
  have hz0 : ((w.alloc (.cells #[.slice none 0 0] 75)).alloc (.cells zeroOp.cells.toArray 68)).heap.size = w.heap.size + 2 := by simp
  have ho0 : ((w.alloc (.cells #[.slice none 0 0] 75)).alloc (.cells zeroOp.cells.toArray 68)).heap[w.heap.size]? = some (.cells #[.slice none 0 0] 75 (0, 0)) := (Below.heap_alloc _ _ _ (by simp)).trans (heap_new8 w _)
  have hop : ((w.alloc (.cells #[.slice none 0 0] 75)).alloc (.cells zeroOp.cells.toArray 68)).heap[w.heap.size + 1]? = some (.cells zeroOp.cells.toArray 68 (0, 0)) := by
    have := heap_new8 (w.alloc (.cells #[.slice none 0 0] 75)) (.cells zeroOp.cells.toArray 68)
    rwa [World.size_alloc] at this
  have hA : At (w.heap.size + 1) 0 zeroOp (fld zeroOp) ((w.alloc (.cells #[.slice none 0 0] 75)).alloc (.cells zeroOp.cells.toArray 68)) := At.of_cells (fun j u hj => by
    rw [Nat.zero_add]
    unfold World.cell?
    rw [hop]
    simpa using hj) (fun j hj => by
    unfold World.frozen?
    rw [hop]
    simp)
  show Calls Tryz.prog 92 #[.pointer (some ⟨w.heap.size + 1, 0, none⟩), .func (.func 145) #[] #[.pointer (some ⟨w.heap.size, 0, none⟩)]] ((w.alloc (.cells #[.slice none 0 0] 75)).alloc (.cells zeroOp.cells.toArray 68)) _
  generalize (w.alloc (.cells #[.slice none 0 0] 75)).alloc (.cells zeroOp.cells.toArray 68) = W0 at hb0 hz0 ho0 hop hA ⊢
  have hJ0 : JC w.heap.size (w.heap.size + 2) 0 (fun k => k < w.heap.size ∨ k = w.heap.size + 1) W0 := ⟨⟨_, ho0, Own.nil, fun k hk => by cases hk⟩, fun h => by omega, by omega, by omega, fun k hk => by omega⟩
  have HB0 := Lib.hid hb0
  refine (ints_any (enters_of Tryz.func145 (by kernel_rfl) rfl) (w.heap.size + 1) 0 zeroOp (fld zeroOp) (JC w.heap.size (w.heap.size + 2)) (fun k => k < w.heap.size ∨ k = w.heap.size + 1) W0 (cols_use _ _ zeroOp) (JC.jok _ _ _) (.inr rfl) hA hJ0).mono ?_
  rintro e w1 ⟨⟨v1, rfl⟩, ⟨⟨v, g1, g2, g3⟩, g4, g5, g6, g7⟩, -, hx, -⟩
  have c1 := cell_of_one g1
  have HB1 : Hid (Below w.heap.size w w1) := Lib.hid (Ext.new HB0.out hx (fun i hi _ e => e.elim (fun e => e (.inl hi)) (fun e => by omega)) (by omega))
  have HG := Lib.hid (g2.mono (show w.heap.size ≤ w.heap.size + 2 by omega))
  clear g1 g2 g3 g4 g7 hx hJ0 hA hop ho0 hb0
  go_wp2_with fail
  go_ret
  exact ⟨_, rfl, HG.out, HB1.out⟩
def slc (s : Sl) : List Value := [.slice s.a s.n s.cap]
theorem slc_len (s : Sl) : (slc s).length = 1 := rfl
theorem slc_one (s : Sl) : ∀ u ∈ slc s, u.oneCell' = true := fun u hu => by rw [slc, List.mem_singleton] at hu; subst hu; rfl
theorem slc_new (W : World) (s : Sl) : ∀ j u, (slc s)[j]? = some u → (W.alloc (.cells #[.slice s.a s.n s.cap] 100)).cell? ⟨W.heap.size, j, none⟩ = some u := by
  intro j u hj
  rw [World.cell?_alloc_at _ _ _ _ rfl, ← hj, slc]
  simp
theorem info_rows2 : (Tryz.prog.info? 100).map (fun i => (i.zero, i.size, i.bytes)) = some (some (.slice none 0 0), 1, 24) := by kernel_rfl
structure NS (w0 : World) (T : Nat) (w : World) (tl : Value) (ls : List OpD) (r : List UInt8) (ca : Option Addr) (cc k : Nat) (W : World) (lo : Nat) (tb rv : Value) (L : List (List Int)) (r' : List UInt8) (rs : List Sl) : Prop where
  dec : decCols ls.length k r = some (L, r')
  tks : TKS w0 T W tb r' tl ls
  row : W.heap[lo]? = some (.cells #[rv] 161 (0, 0))
  own : Own slc 1 100 (lo + 1) W rv rs
  num : ∀ i s, rs[i]? = some s → Own intc 1 3 (lo + 1) W (.slice s.a s.n s.cap) (L.getD i [])
  len : rs.length = k
  col : Own btc 1 4 (lo + 1) W (.slice ca 21 cc) (colsL 21)
  siz : lo + 1 ≤ W.heap.size
  apt : T < lo ∧ ∀ b, tl.ownBlock = some b → b < lo
theorem NS.below {w0 : World} {T : Nat} {w : World} {tl : Value} {ls : List OpD} {r : List UInt8} {ca : Option Addr} {cc k : Nat} {W W' : World} {lo : Nat} {tb rv : Value} {L : List (List Int)} {r' : List UInt8} {rs : List Sl} (h : NS w0 T w tl ls r ca cc k W lo tb rv L r' rs) (hb : Below W.heap.size W W') : NS w0 T w tl ls r ca cc k W' lo tb rv L r' rs :=
  ⟨h.dec, h.tks.below hb, (hb.block _ (by have := h.siz; omega)).trans h.row, h.own.below1 hb, fun i s hs => (h.num i s hs).below1 hb, h.len, h.col.below1 hb, Nat.le_trans h.siz hb.size, h.apt⟩
theorem NS.push {w0 : World} {T : Nat} {w : World} {tl : Value} {ls : List OpD} {r : List UInt8} {ca : Option Addr} {cc k : Nat} {w3 w4 : World} {lo : Nat} {tb tb' rv rv' : Value} {L : List (List Int)} {r' : List UInt8} {rs : List Sl} {l : List Int} {u : Nat} {s : Sl} {x : Obj} (h : NS w0 T w tl ls r ca cc k w3 lo tb rv L r' rs) (hn : ls.length ≤ 65536)
    (hcd : colD ls.length (dlt k) r' = some (l, u)) (hl : Own intc 1 3 (lo + 1) w3 (.slice s.a s.n s.cap) l) (h4 : Own slc 1 100 (lo + 1) w4 rv' (rs ++ [s])) (hx : Ext (fun b => rv.ownBlock = some b) (w3.alloc x) w4) (hbyt : SliceIs u8c 1 w0 tb' (r'.drop u)) :
    NS w0 T w tl ls r ca cc (k + 1) ((w4.setCell ⟨lo, 0, none⟩ rv').setCell ⟨T, 0, none⟩ tb') lo tb' rv' (L ++ [l]) (r'.drop u) (rs ++ [s]) := by
  have hL := (decCols_len hn h.dec).1
  have hxa : Ext (fun b => rv.ownBlock = some b) w3 w4 := ((Ext.refl _ _).alloc _).andThen hx (fun i hi e => e)
  have hx5 : Ext (· = lo) w4 (w4.setCell ⟨lo, 0, none⟩ rv') := (Ext.refl (· = lo) w4).setCell (p := ⟨lo, 0, none⟩) (.inr rfl) _
  have hx6 : Ext (· = T) (w4.setCell ⟨lo, 0, none⟩ rv') ((w4.setCell ⟨lo, 0, none⟩ rv').setCell ⟨T, 0, none⟩ tb') := (Ext.refl (· = T) _).setCell (p := ⟨T, 0, none⟩) (.inr rfl) _
  have hTl := h.apt.1
  have hno : ∀ b, rv.ownBlock = some b → lo + 1 ≤ b := fun b hb => (h.own.blk b hb).1
  have hz := hxa.size
  have hsz := h.siz
  have hz5 : (w4.setCell ⟨lo, 0, none⟩ rv').heap.size = w4.heap.size := World.size_setCell _ _ _
  have hall : Ext (fun b => rv.ownBlock = some b ∨ b = lo ∨ b = T) w3 ((w4.setCell ⟨lo, 0, none⟩ rv').setCell ⟨T, 0, none⟩ tb') := ((hxa.mono (fun _ _ e => .inl e)).andThen hx5 (fun i hi e => .inr (.inl e))).andThen hx6 (fun i hi e => .inr (.inr e))
  have hrow4 : w4.heap[lo]? = some (.cells #[rv] 161 (0, 0)) := (hxa.block _ (by omega) (fun e => by have := hno _ e; omega)).trans h.row
  have hT5 : (w4.setCell ⟨lo, 0, none⟩ rv').heap[T]? = some (.cells #[tb, tl] 90 (0, 0)) := (hx5.block _ (by omega) (by omega)).trans ((hxa.block _ (by omega) (fun e => by have := hno _ e; omega)).trans h.tks.cell)
  have hnew : w0.heap.size ≤ T := h.tks.new
  have keep : ∀ {α : Type} {ea : α → List Value} {q : Nat} {t : TypeId} {v : Value} {m : List α}, t ≠ 100 → Own ea q t (lo + 1) w3 v m → Own ea q t (lo + 1) ((w4.setCell ⟨lo, 0, none⟩ rv').setCell ⟨T, 0, none⟩ tb') v m := fun ht hm => hm.ext hall (fun b hb e => by
    rcases e with e | e | e
    · obtain ⟨c1, g1⟩ := hm.tag hb
      obtain ⟨c2, g2⟩ := h.own.tag e
      rw [g1] at g2
      cases g2
      exact ht rfl
    · have := (hm.blk b hb).1; omega
    · have := (hm.blk b hb).1; omega)
  refine ⟨decCols_step h.dec hcd, ⟨?_, hbyt, h.tks.own.ext hall (fun b hb e => ?_), Ext.new h.tks.bel hall (fun i hi _ e => ?_) h.tks.bel.size, hnew, h.tks.fltKeep hall (fun e => by
    have hf := h.tks.flt
    rcases e with e | e | e
    · obtain ⟨c2, g2⟩ := h.own.tag e
      rw [hf] at g2
      cases g2
    · have g2 := h.row
      rw [← e, hf] at g2
      cases g2
    · omega)⟩, ?_, (h4.ext hx5 (fun b hb e => by have := (h4.blk b hb).1; omega)).ext hx6 (fun b hb e => by have := (h4.blk b hb).1; omega), fun i s2 hs => ?_, by rw [List.length_append, h.len]; rfl, keep (by decide) h.col, by have := hall.size; omega, h.apt⟩
  · rw [heap_setCell_same _ T 0 _ _ _ hT5]
    rfl
  · have := h.apt.2 b hb
    rcases e with e | e | e
    · have := hno b e; omega
    · omega
    · have hc := h.tks.cell
      obtain ⟨c1, g1⟩ := h.tks.own.tag hb
      rw [e, hc] at g1
      cases g1
  · rcases e with e | e | e
    · have := hno i e; omega
    · omega
    · omega
  · exact (hx6.block _ (by omega) (by omega)).trans (one_setCell hrow4)
  · by_cases hi : i < rs.length
    · rw [List.getElem?_append_left hi] at hs
      have := keep (by decide) (h.num i s2 hs)
      rwa [show (L ++ [l]).getD i [] = L.getD i [] by rw [List.getD_eq_getElem?_getD, List.getD_eq_getElem?_getD, List.getElem?_append_left (by rw [hL, ← h.len]; exact hi)]]
    · rw [List.getElem?_append_right (by omega)] at hs
      have hi2 : i - rs.length = 0 := by
        have := (List.getElem?_eq_some_iff.1 hs).1
        simp at this
        omega
      rw [hi2] at hs
      cases hs
      rw [show (L ++ [l]).getD i [] = l by rw [List.getD_eq_getElem?_getD, List.getElem?_append_right (by rw [hL, ← h.len]; omega), hL, ← h.len, hi2]; rfl]
      exact keep (by decide) hl
structure N2 (w0 : World) (T : Nat) (tl : Value) (ls : List OpD) (lo : Nat) (tb rv : Value) (L : List (List Int)) (r' : List UInt8) (rs : List Sl) (i : Nat) (W : World) : Prop where
  tks : TKS w0 T W tb r' tl (mixN L i ls)
  row : W.heap[lo]? = some (.cells #[rv] 161 (0, 0))
  own : Own slc 1 100 (lo + 1) W rv rs
  num : ∀ i s, rs[i]? = some s → Own intc 1 3 (lo + 1) W (.slice s.a s.n s.cap) (L.getD i [])
  siz : lo + 1 ≤ W.heap.size
theorem N2.reads {w0 : World} {T : Nat} {tl : Value} {ls : List OpD} {lo : Nat} {tb rv : Value} {L : List (List Int)} {r' : List UInt8} {rs : List Sl} {i : Nat} {W : World} (h : N2 w0 T tl ls lo tb rv L r' rs i W) (hr : rs.length = 21) (hL : L.length = 21 ∧ ∀ x ∈ L, x.length = ls.length) (hi : i < ls.length) :
    ∃ rb rcap, rv = .slice (some ⟨rb, 0, none⟩) 21 rcap ∧ lo + 1 ≤ rb ∧ rb < W.heap.size ∧ ∀ c, c < 21 → ∃ sb sn sc, W.cell? ⟨rb, c, none⟩ = some (.slice (some ⟨sb, 0, none⟩) sn sc) ∧ (lo + 1 ≤ sb ∧ sb < W.heap.size) ∧ i < sn ∧ W.cell? ⟨sb, i, none⟩ = some (.int .i64 (colF L i c)) := by
  rcases h.own.eq_slice with ⟨_, e⟩ | ⟨rb, rcap, e, h1, h2⟩
  · rw [e] at hr; simp at hr
  · rw [hr] at e
    refine ⟨rb, rcap, e, h1, h2, fun c hc => ?_⟩
    obtain ⟨s, hs⟩ : ∃ s, rs[c]? = some s := ⟨_, List.getElem?_eq_getElem (by omega)⟩
    have hown := h.own
    rw [e, ← hr] at hown
    have h3 := hown.cellAt slc_len (i := c) (j := 0) hs rfl
    rw [Nat.mul_one, Nat.add_zero] at h3
    have h4 := h.num c s hs
    have hLc : (L.getD c []).length = ls.length := by
      obtain ⟨y, hy⟩ : ∃ y, L[c]? = some y := ⟨_, List.getElem?_eq_getElem (by omega)⟩
      rw [List.getD_eq_getElem?_getD, hy]
      exact hL.2 y (List.mem_of_getElem? hy)
    rcases h4.eq_slice with ⟨_, e4⟩ | ⟨sb, sc, e4, h5, h6⟩
    · rw [e4] at hLc; simp at hLc; omega
    · obtain ⟨x, hx⟩ : ∃ x, (L.getD c [])[i]? = some x := ⟨_, List.getElem?_eq_getElem (by omega)⟩
      have h7 := h4
      rw [e4] at h7
      have h8 := h7.cellAt intc_len (i := i) (j := 0) hx rfl
      rw [Nat.mul_one, Nat.add_zero] at h8
      refine ⟨sb, _, sc, by rw [h3, e4], ⟨h5, h6⟩, by omega, ?_⟩
      rw [h8]
      unfold colF
      rw [List.getD_eq_getElem?_getD (l := L.getD c []), hx]
      rfl
theorem N2.ext {w0 : World} {T : Nat} {tl : Value} {ls : List OpD} {lo : Nat} {tb rv : Value} {L : List (List Int)} {r' : List UInt8} {rs : List Sl} {i : Nat} {W W' : World} {S : Nat → Prop} (h : N2 w0 T tl ls lo tb rv L r' rs i W) (hx : Ext S W W') (hS : ∀ k, S k → k < W.heap.size → False) (ha : T < lo ∧ ∀ b, tl.ownBlock = some b → b < lo) : N2 w0 T tl ls lo tb rv L r' rs i W' :=
  ⟨h.tks.ext hx (fun e => hS _ e (by have := h.siz; omega)) (fun k hk e => hS k e (by have := ha.2 k hk; have := h.siz; omega)) (fun k hk e => hS k e (by have := h.tks.bel.size; omega)) (fun e => hS _ e (Array.getElem?_eq_some_iff.1 h.tks.flt).1), (hx.block _ (by have := h.siz; omega) (fun e => hS _ e (by have := h.siz; omega))).trans h.row, h.own.ext hx (fun b hb e => hS b e (h.own.blk b hb).2), fun j s hs => (h.num j s hs).ext hx (fun b hb e => hS b e ((h.num j s hs).blk b hb).2), Nat.le_trans h.siz hx.size⟩
theorem N2.put {w0 : World} {T g lc Bc : Nat} {ls : List OpD} {lo : Nat} {tb rv : Value} {L : List (List Int)} {r' : List UInt8} {rs : List Sl} {i : Nat} {W0 W W' : World} {x : OpD} (h : N2 w0 T (.slice (some ⟨g, 0, none⟩) ls.length lc) ls lo tb rv L r' rs i W) (h0 : N2 w0 T (.slice (some ⟨g, 0, none⟩) ls.length lc) ls lo tb rv L r' rs i W0) (hx : Ext (fun k => k = g ∨ k = Bc) W W') (hBc : W0.heap.size ≤ Bc) (hxi : ls[i]? = some x) (hA : At g (i * 26) x (colF L i) W') (hR : Rst g (i * 26) W W') (ha : T < lo ∧ ∀ b, (Value.slice (some ⟨g, 0, none⟩) ls.length lc).ownBlock = some b → b < lo) :
    N2 w0 T (.slice (some ⟨g, 0, none⟩) ls.length lc) ls lo tb rv L r' rs (i + 1) W' := by
  have hg := ha.2 g rfl
  have h1 := h0.siz
  have hTg : T ≠ g := fun e => by
    have h1 := h.tks.cell
    obtain ⟨c2, h2⟩ := h.tks.own.tag (b := g) rfl
    rw [e, h2] at h1
    cases h1
  have hgn := (h.tks.own.blk g rfl).1
  have hb0 := h.tks.bel.size
  have hb1 := h0.tks.bel.size
  refine ⟨⟨(hx.block T (Array.getElem?_eq_some_iff.1 h.tks.cell).1 (fun e => e.elim hTg (fun e => by omega))).trans h.tks.cell, h.tks.byt, ?_, Ext.new h.tks.bel hx (fun k hk _ e => e.elim (fun e => by omega) (fun e => by omega)) h.tks.bel.size, h.tks.new, h.tks.fltKeep hx (fun e => e.elim (fun e => by
    obtain ⟨c2, h2⟩ := h.tks.own.tag (b := g) rfl
    have h1 := h.tks.flt
    rw [e, h2] at h1
    cases h1) (fun e => by have := (Array.getElem?_eq_some_iff.1 h0.tks.flt).1; omega))⟩, (hx.block lo (Array.getElem?_eq_some_iff.1 h.row).1 (fun e => e.elim (fun e => by omega) (fun e => by omega))).trans h.row, h.own.ext hx (fun b hb e => by have h5 := h0.own.blk b hb; rcases e with e | e <;> omega), fun j s hs => (h.num j s hs).ext hx (fun b hb e => by have h5 := (h0.num j s hs).blk b hb; rcases e with e | e <;> omega), Nat.le_trans h.siz hx.size⟩
  rw [mixN_succ L i hxi]
  exact h.tks.own.putOp (mixN_at L i hxi) hA hR
def atErr (what : ByteArray) (n : Int) : Value := .iface 187 (.agg #[.string what, .iface 91 (.int .i64 n)])
set_option maxRecDepth 20000 in
set_option maxHeartbeats 4000000 in
theorem numbers_any (w0 : World) (T : Nat) (w : World) (tb tl : Value) (r : List UInt8) (ls : List OpD) (h : TKS w0 T w tb r tl ls) (hn : ls.length ≤ 200) : Calls Tryz.prog 104 #[.pointer (some ⟨T, 0, none⟩)] w fun e w' =>
    (∃ L r' tb', decCols ls.length 21 r = some (L, r') ∧ e = .returned .nilIface ∧ TKS w0 T w' tb' r' tl (mixN L ls.length ls)) ∨ (decCols ls.length 21 r = none ∧ (∃ s m, e = .returned (atErr s m)) ∧ Kp w0 T w') := by
  obtain ⟨⟨la, ln, lc⟩, el⟩ := h.own.sl
  dsimp only at el
  subst el
  obtain rfl : ln = ls.length := (h.own.nlen OpD.len).1
  have HT := Lib.hid h
  have hTl := (Array.getElem?_eq_some_iff.1 h.cell).1
  have hLl := fun b hb => (h.own.blk b hb).2
  clear h
  go_enter Tryz.func104, Tryz.ntmps104
  go_wp2_with fail
  obtain ⟨lo, hlo⟩ : ∃ lo, lo = w.heap.size := ⟨_, rfl⟩
  rw [← hlo]
  have HLO := Lib.hid hlo
  refine (columns_any _).mono ?_
  rintro e w5 ⟨v5, rfl, hown5, b5⟩
  obtain ⟨⟨ca, cn, cc⟩, e5⟩ := hown5.sl
  dsimp only at e5
  subst e5
  obtain rfl : cn = 21 := by have := (hown5.nlen btc_len).1; rw [colsL_len] at this; exact this
  have HS0 : Hid (NS w0 T w (.slice la ls.length lc) ls r ca cc 0 w5 lo tb (.slice none 0 0) [] r []) := Lib.hid (by
    have hz : lo + 1 ≤ (w.alloc (.cells #[.slice none 0 0] 161)).heap.size := by rw [World.size_alloc]; omega
    refine ⟨rfl, ?_, ?_, Own.nil, fun i s hs => by simp at hs, rfl, hown5.mono hz, Nat.le_trans hz b5.size, by omega, fun b hb => by have := hLl b hb; omega⟩
    · exact TKS.below (HT.out.ext ((Ext.refl (fun _ => False) w).alloc _) id (fun _ _ => id) (fun _ _ => id) id) b5
    · exact (b5.block _ (by omega)).trans (by rw [hlo]; exact heap_new8 w _))
  clear hown5 b5 hlo hTl hLl
  go_wp2_with fail
  go_loopg [14] 21 (fun g kv wx => ∃ (k : Nat) (tb rv : Value) (L : List (List Int)) (r2 : List UInt8) (rs : List Sl), g = 21 - k ∧ kv = .int .i64 k ∧ k ≤ 21 ∧ Hid (NS w0 T w (.slice la ls.length lc) ls r ca cc k wx lo tb rv L r2 rs))
  case atStart => exact ⟨0, _, _, _, _, _, rfl, rfl, by omega, HS0⟩
  case round =>
    clear HS0
    obtain ⟨k, tb1, rv, L, r2, rs, hg, rfl, hk, HR⟩ := hrel
    have HG := Lib.hid hg
    clear hg
    by_cases hlt : k < 21
    · have hk1 : (k : Int) < 21 := by omega
      obtain ⟨b9, o9, e9, c9⟩ := (HR.out.col.slice btc_len).at1 (k := k) (x := dlt k) (by simp [colsL, hlt]) rfl
      cases e9
      obtain ⟨ta, tcap, rfl, htc, htm, -⟩ := id HR.out.tks.byt
      unfold maxLen at htm
      have hc0 := HR.out.tks.cell
      have HB := Lib.hid HR.out.tks.bytes
      have hSW : (fun W : World => W.cell? ⟨T, 0, none⟩ = some (.slice ta r2.length tcap) ∧ W.cell? ⟨T, 1, none⟩ = some (.slice la ls.length lc)) wr.drew := ⟨by show World.cell? wr _ = _; simp [World.cell?, hc0], by show World.cell? wr _ = _; simp [World.cell?, hc0]⟩
      clear hc0
      cases hd : dlt k with
      | false =>
        have hcd : colD ls.length (dlt k) r2 = decR ls.length none r2 := by unfold colD; rw [hd]; rfl
        have HCD := Lib.hid hcd
        rw [hd] at c9
        clear hd hcd
        go_upto_region 8 with fail
        clear c9
        refine wp_region_s (fun W : World => W.cell? ⟨T, 0, none⟩ = some (.slice ta r2.length tcap) ∧ W.cell? ⟨T, 1, none⟩ = some (.slice la ls.length lc)) (fun i => i == 17) (by kernel_rfl) ?_
        have HR1 : Hid (NS w0 T w (.slice la ls.length lc) ls r _ cc k wr.drew lo (.slice ta r2.length tcap) rv L r2 rs) := Lib.hid (HR.out.below (Below.refl _ _).drew)
        have HB1 : Hid (SliceIs u8c 1 wr.drew (.slice ta r2.length tcap) r2) := Lib.hid (HR1.out.tks.bytes)
        generalize wr.drew = W1 at hSW HR1 HB1 ⊢
        refine wpAnyS_take (i := 0) (d := some 20) rfl rfl rfl (by kernel_rfl) (by kernel_rfl) (by kernel_rfl) (by kernel_rfl) (fun _ _ _ h => h) (.inl ⟨by rfl, fun W hW => by obtain ⟨q0, q1⟩ := hW; go_simp; try rfl⟩) hSW ?_
        try simp only [Act.put, List.setIfInBounds_toArray, List.set_cons_zero, List.set_cons_succ]
        refine wpAnyS_take (i := 1) (d := some 21) rfl rfl rfl (by kernel_rfl) (by kernel_rfl) (by kernel_rfl) (by kernel_rfl) (fun _ _ _ h => h) (.inl ⟨by rfl, fun W hW => by obtain ⟨q0, q1⟩ := hW; go_simp; try rfl⟩) hSW ?_
        try simp only [Act.put, List.setIfInBounds_toArray, List.set_cons_zero, List.set_cons_succ]
        refine wpAnyS_take (i := 2) (d := some 22) (v := .pointer (some ⟨T, 0, none⟩)) rfl rfl rfl (by kernel_rfl) (by kernel_rfl) (by kernel_rfl) (by kernel_rfl) (fun _ _ _ h => h) (.inl ⟨by rfl, fun W hW => by obtain ⟨q0, q1⟩ := hW; go_simp; try rfl⟩) hSW ?_
        try simp only [Act.put, List.setIfInBounds_toArray, List.set_cons_zero, List.set_cons_succ]
        refine wpAnyS_take (i := 3) (d := some 23) (v := .pointer (some ⟨T, 0, none⟩)) rfl rfl rfl (by kernel_rfl) (by kernel_rfl) (by kernel_rfl) (by kernel_rfl) (fun _ _ _ h => h) (.inl ⟨by rfl, fun W hW => by obtain ⟨q0, q1⟩ := hW; go_simp; try rfl⟩) hSW ?_
        try simp only [Act.put, List.setIfInBounds_toArray, List.set_cons_zero, List.set_cons_succ]
        refine wpAnyS_take (i := 4) (d := some 24) (v := .slice ta r2.length tcap) rfl rfl rfl (by kernel_rfl) (by kernel_rfl) (by kernel_rfl) (by kernel_rfl) (fun _ _ _ h => h) (.inl ⟨by rfl, fun W hW => by obtain ⟨q0, q1⟩ := hW; go_simp; try rfl⟩) hSW ?_
        try simp only [Act.put, List.setIfInBounds_toArray, List.set_cons_zero, List.set_cons_succ]
        refine wpAnyS_take (i := 5) (d := some 25) rfl rfl rfl (by kernel_rfl) (by kernel_rfl) (by kernel_rfl) (by kernel_rfl) (fun _ _ _ h => h) (.inl ⟨by rfl, fun W hW => by obtain ⟨q0, q1⟩ := hW; go_simp; try rfl⟩) hSW ?_
        try simp only [Act.put, List.setIfInBounds_toArray, List.set_cons_zero, List.set_cons_succ]
        refine wpAnyS_take (i := 6) (d := some 26) (v := .pointer (some ⟨T, 0, none⟩)) rfl rfl rfl (by kernel_rfl) (by kernel_rfl) (by kernel_rfl) (by kernel_rfl) (fun _ _ _ h => h) (.inl ⟨by rfl, fun W hW => by obtain ⟨q0, q1⟩ := hW; go_simp; try rfl⟩) hSW ?_
        try simp only [Act.put, List.setIfInBounds_toArray, List.set_cons_zero, List.set_cons_succ]
        refine wpAnyS_take (i := 7) (d := some 27) (v := .pointer (some ⟨T, 1, none⟩)) rfl rfl rfl (by kernel_rfl) (by kernel_rfl) (by kernel_rfl) (by kernel_rfl) (fun _ _ _ h => h) (.inl ⟨by rfl, fun W hW => by obtain ⟨q0, q1⟩ := hW; go_simp; try rfl⟩) hSW ?_
        try simp only [Act.put, List.setIfInBounds_toArray, List.set_cons_zero, List.set_cons_succ]
        refine wpAnyS_take (i := 8) (d := some 28) (v := .slice la ls.length lc) rfl rfl rfl (by kernel_rfl) (by kernel_rfl) (by kernel_rfl) (by kernel_rfl) (fun _ _ _ h => h) (.inl ⟨by rfl, fun W hW => by obtain ⟨q0, q1⟩ := hW; go_simp; try rfl⟩) hSW ?_
        try simp only [Act.put, List.setIfInBounds_toArray, List.set_cons_zero, List.set_cons_succ]
        refine wpAnyS_take (i := 9) (d := some 29) (v := .int .i64 ls.length) rfl rfl rfl (by kernel_rfl) (by kernel_rfl) (by kernel_rfl) (by kernel_rfl) (fun _ _ _ h => h) (.inl ⟨by rfl, fun W hW => by obtain ⟨q0, q1⟩ := hW; go_simp; try rfl⟩) hSW ?_
        try simp only [Act.put, List.setIfInBounds_toArray, List.set_cons_zero, List.set_cons_succ]
        refine wpAnyS_call (i := 10) (d := some 30) (f := 153) (args := #[.slice ta r2.length tcap, .int .i64 ls.length]) (w' := W1) (by kernel_rfl) rfl rfl (by rfl) (by go_simp; try rfl) ?_
        refine (takeruns_any _ r2 ls.length _ HB1.out (by omega)).mono ?_
        rintro e w3 (⟨l, u, v, hdec, rfl, hown, hb⟩ | ⟨hdec, rfl, hb⟩)
        · have hS3 : (fun W : World => W.cell? ⟨T, 0, none⟩ = some (.slice ta r2.length tcap) ∧ W.cell? ⟨T, 1, none⟩ = some (.slice la ls.length lc)) w3 := ⟨(hb.cell (p := ⟨T, 0, none⟩) (cell_lt hSW.1)).trans hSW.1, (hb.cell (p := ⟨T, 1, none⟩) (cell_lt hSW.2)).trans hSW.2⟩
          have HR3 := Lib.hid (HR1.out.below hb)
          refine ⟨_, rfl, fun _ => hS3, ?_⟩
          try simp only [Act.put, List.setIfInBounds_toArray, List.set_cons_zero, List.set_cons_succ]
          refine wpAnyS_take (i := 11) (d := some 19) (v := .tuple #[v, .int .i64 (u : Nat), .int .i64 0]) rfl rfl rfl (by kernel_rfl) (by kernel_rfl) (by kernel_rfl) (by kernel_rfl) (fun _ _ _ h => h) (.inl ⟨by rfl, fun W hW => by obtain ⟨q0, q1⟩ := hW; go_simp; try rfl⟩) hS3 ?_
          try simp only [Act.put, List.setIfInBounds_toArray, List.set_cons_zero, List.set_cons_succ]
          refine wpAnyS_take (i := 12) (d := some 31) (v := v) rfl rfl rfl (by kernel_rfl) (by kernel_rfl) (by kernel_rfl) (by kernel_rfl) (fun _ _ _ h => h) (.inl ⟨by rfl, fun W hW => by obtain ⟨q0, q1⟩ := hW; go_simp; try rfl⟩) hS3 ?_
          try simp only [Act.put, List.setIfInBounds_toArray, List.set_cons_zero, List.set_cons_succ]
          refine wpAnyS_take (i := 13) (d := some 32) (v := .int .i64 (u : Nat)) rfl rfl rfl (by kernel_rfl) (by kernel_rfl) (by kernel_rfl) (by kernel_rfl) (fun _ _ _ h => h) (.inl ⟨by rfl, fun W hW => by obtain ⟨q0, q1⟩ := hW; go_simp; try rfl⟩) hS3 ?_
          try simp only [Act.put, List.setIfInBounds_toArray, List.set_cons_zero, List.set_cons_succ]
          refine wpAnyS_take (i := 14) (d := some 33) (v := .int .i64 0) rfl rfl rfl (by kernel_rfl) (by kernel_rfl) (by kernel_rfl) (by kernel_rfl) (fun _ _ _ h => h) (.inl ⟨by rfl, fun W hW => by obtain ⟨q0, q1⟩ := hW; go_simp; try rfl⟩) hS3 ?_
          try simp only [Act.put, List.setIfInBounds_toArray, List.set_cons_zero, List.set_cons_succ]
          refine wpAnyS_take (i := 15) (d := some 7) (v := v) rfl rfl rfl (by kernel_rfl) (by kernel_rfl) (by kernel_rfl) (by kernel_rfl) (fun _ _ _ h => h) (.inl ⟨by rfl, fun W hW => by obtain ⟨q0, q1⟩ := hW; go_simp; try rfl⟩) hS3 ?_
          try simp only [Act.put, List.setIfInBounds_toArray, List.set_cons_zero, List.set_cons_succ]
          refine wpAnyS_take (i := 16) (d := some 8) (v := .int .i64 (u : Nat)) rfl rfl rfl (by kernel_rfl) (by kernel_rfl) (by kernel_rfl) (by kernel_rfl) (fun _ _ _ h => h) (.inl ⟨by rfl, fun W hW => by obtain ⟨q0, q1⟩ := hW; go_simp; try rfl⟩) hS3 ?_
          try simp only [Act.put, List.setIfInBounds_toArray, List.set_cons_zero, List.set_cons_succ]
          refine wpAnyS_ran (i := 17) (d := some 9) (v := .int .i64 0) (w' := w3) (by kernel_rfl) rfl rfl (by rfl) (by go_simp; try rfl) (fun h => by cases h) ?_
          try simp only [Act.put, List.setIfInBounds_toArray, List.set_cons_zero, List.set_cons_succ]
          refine wpAnyS_done (by kernel_rfl) ?_ _
          clear hS3 hSW
          have HDEC := Lib.hid (HCD.out.trans hdec)
          clear hdec
          have hcf := colD_facts (by omega) HDEC.out
          have hul := hcf.2
          obtain ⟨⟨pa, pn, pc⟩, ep⟩ := hown.sl
          dsimp only at ep
          subst ep
          obtain ⟨⟨va, vn, vc⟩, ev⟩ := HR3.out.own.sl
          dsimp only at ev
          subst ev
          have HOWN : Hid (Own intc 1 3 (lo + 1) w3 (.slice pa pn pc) l) := Lib.hid (hown.mono HR1.out.siz)
          obtain ⟨a1, c1, hsl, hS1, -⟩ := slice_from (P := Tryz.prog) (ea := u8c) Tryz.underlying22 size_u8 ta r2.length tcap u htc hul
          have HBY := Lib.hid (hS1 w0 r2 rfl HR3.out.tks.byt)
          obtain ⟨i0, hi, hy0, hy1, hy2⟩ := info_parts info_rows2
          have HBD : Hid (rs.length + 1 ≤ maxLen ∧ (rs.length + 1) * 24 ≤ 140737488355328) := Lib.hid (by rw [HR3.out.len]; unfold maxLen; omega)
          have c0 := cell_of_one HR3.out.row
          have hne : ¬ T = lo := by have := HR3.out.apt.1; omega
          clear hown hcf hS1
          go_wp2_with (at_builtin; refine wpList_append_struct2 rfl _ _ _ rfl i0 _ 24 Tryz.underlying161 hi hy0 hy1 hy2 rfl (by omega) slc_len slc_one rfl (HR3.out.own.alloc _) (⟨pa, pn, pc⟩ : Sl) w3.heap.size 1 rfl (slc_new _ ⟨pa, pn, pc⟩) HBD.out.1 HBD.out.2 (by have := HR3.out.siz; simp; omega) ?_)
          intro v' w4 hown4 hx4 hn4
          obtain ⟨⟨ua, un, uc⟩, e4⟩ := hown4.sl
          dsimp only at e4
          subst e4
          have hxa : Ext (fun b => (Value.slice va vn vc).ownBlock = some b) w3 w4 := ((Ext.refl _ _).alloc _).andThen hx4 (fun i hi e => e)
          have g4 : w4.heap[lo]? = some (.cells #[.slice va vn vc] 161 (0, 0)) := (hxa.block _ (by have := HR3.out.siz; omega) (fun e => by have := (HR3.out.own.blk _ e).1; omega)).trans HR3.out.row
          have gT : w4.heap[T]? = some (.cells #[.slice ta r2.length tcap, .slice la ls.length lc] 90 (0, 0)) := (hxa.block _ (by have := HR3.out.siz; have := HR3.out.apt.1; omega) (fun e => by have := (HR3.out.own.blk _ e).1; have := HR3.out.apt.1; omega)).trans HR3.out.tks.cell
          have c4 := cell_of_one g4
          have f4 := free_of_one g4
          have cT : w4.cell? ⟨T, 0, none⟩ = some (.slice ta r2.length tcap) := by simp [World.cell?, gT]
          have fT : w4.frozen? ⟨T, 0, none⟩ = false := by simp [World.frozen?, gT]
          have HN := Lib.hid (HR3.out.push (by omega) HDEC.out HOWN.out hown4 hx4 HBY.out)
          clear hown4 hx4 hn4 hxa g4 gT HOWN HBY c0
          go_wp2_with fail
          go_roundg (21 - (k + 1))
          case measure => rw [HG.out]; omega
          case rel => exact ⟨k + 1, _, _, _, _, _, rfl, by simp, by omega, HN⟩
        · have hS3 : (fun W : World => W.cell? ⟨T, 0, none⟩ = some (.slice ta r2.length tcap) ∧ W.cell? ⟨T, 1, none⟩ = some (.slice la ls.length lc)) w3 := ⟨(hb.cell (p := ⟨T, 0, none⟩) (cell_lt hSW.1)).trans hSW.1, (hb.cell (p := ⟨T, 1, none⟩) (cell_lt hSW.2)).trans hSW.2⟩
          have HR3 := Lib.hid (HR1.out.below hb)
          refine ⟨_, rfl, fun _ => hS3, ?_⟩
          try simp only [Act.put, List.setIfInBounds_toArray, List.set_cons_zero, List.set_cons_succ]
          refine wpAnyS_take (i := 11) (d := some 19) (v := .tuple #[.slice none 0 0, .int .i64 0, .int .i64 41]) rfl rfl rfl (by kernel_rfl) (by kernel_rfl) (by kernel_rfl) (by kernel_rfl) (fun _ _ _ h => h) (.inl ⟨by rfl, fun W hW => by obtain ⟨q0, q1⟩ := hW; go_simp; try rfl⟩) hS3 ?_
          try simp only [Act.put, List.setIfInBounds_toArray, List.set_cons_zero, List.set_cons_succ]
          refine wpAnyS_take (i := 12) (d := some 31) (v := .slice none 0 0) rfl rfl rfl (by kernel_rfl) (by kernel_rfl) (by kernel_rfl) (by kernel_rfl) (fun _ _ _ h => h) (.inl ⟨by rfl, fun W hW => by obtain ⟨q0, q1⟩ := hW; go_simp; try rfl⟩) hS3 ?_
          try simp only [Act.put, List.setIfInBounds_toArray, List.set_cons_zero, List.set_cons_succ]
          refine wpAnyS_take (i := 13) (d := some 32) (v := .int .i64 0) rfl rfl rfl (by kernel_rfl) (by kernel_rfl) (by kernel_rfl) (by kernel_rfl) (fun _ _ _ h => h) (.inl ⟨by rfl, fun W hW => by obtain ⟨q0, q1⟩ := hW; go_simp; try rfl⟩) hS3 ?_
          try simp only [Act.put, List.setIfInBounds_toArray, List.set_cons_zero, List.set_cons_succ]
          refine wpAnyS_take (i := 14) (d := some 33) (v := .int .i64 41) rfl rfl rfl (by kernel_rfl) (by kernel_rfl) (by kernel_rfl) (by kernel_rfl) (fun _ _ _ h => h) (.inl ⟨by rfl, fun W hW => by obtain ⟨q0, q1⟩ := hW; go_simp; try rfl⟩) hS3 ?_
          try simp only [Act.put, List.setIfInBounds_toArray, List.set_cons_zero, List.set_cons_succ]
          refine wpAnyS_take (i := 15) (d := some 7) (v := .slice none 0 0) rfl rfl rfl (by kernel_rfl) (by kernel_rfl) (by kernel_rfl) (by kernel_rfl) (fun _ _ _ h => h) (.inl ⟨by rfl, fun W hW => by obtain ⟨q0, q1⟩ := hW; go_simp; try rfl⟩) hS3 ?_
          try simp only [Act.put, List.setIfInBounds_toArray, List.set_cons_zero, List.set_cons_succ]
          refine wpAnyS_take (i := 16) (d := some 8) (v := .int .i64 0) rfl rfl rfl (by kernel_rfl) (by kernel_rfl) (by kernel_rfl) (by kernel_rfl) (fun _ _ _ h => h) (.inl ⟨by rfl, fun W hW => by obtain ⟨q0, q1⟩ := hW; go_simp; try rfl⟩) hS3 ?_
          try simp only [Act.put, List.setIfInBounds_toArray, List.set_cons_zero, List.set_cons_succ]
          refine wpAnyS_ran (i := 17) (d := some 9) (v := .int .i64 41) (w' := w3) (by kernel_rfl) rfl rfl (by rfl) (by go_simp; try rfl) (fun h => by cases h) ?_
          try simp only [Act.put, List.setIfInBounds_toArray, List.set_cons_zero, List.set_cons_succ]
          refine wpAnyS_done (by kernel_rfl) ?_ _
          clear hS3 hSW
          have HBAD : Hid (decCols ls.length 21 r = none) := Lib.hid (decCols_bad HR3.out.dec (HCD.out.trans hdec) hlt)
          clear hdec
          go_wp2_with fail
          go_ret
          exact .inr ⟨HBAD.out, ⟨_, _, rfl⟩, HR3.out.tks.kp⟩
      | true =>
        have hcd : colD ls.length (dlt k) r2 = decD ls.length r2 := by unfold colD; rw [hd]; rfl
        have HCD := Lib.hid hcd
        rw [hd] at c9
        clear hd hcd
        go_upto_region 8 with fail
        clear c9
        refine wp_region_s (fun W : World => W.cell? ⟨T, 0, none⟩ = some (.slice ta r2.length tcap) ∧ W.cell? ⟨T, 1, none⟩ = some (.slice la ls.length lc)) (fun i => i == 17) (by kernel_rfl) ?_
        have HR1 : Hid (NS w0 T w (.slice la ls.length lc) ls r _ cc k wr.drew lo (.slice ta r2.length tcap) rv L r2 rs) := Lib.hid (HR.out.below (Below.refl _ _).drew)
        have HB1 : Hid (SliceIs u8c 1 wr.drew (.slice ta r2.length tcap) r2) := Lib.hid (HR1.out.tks.bytes)
        generalize wr.drew = W1 at hSW HR1 HB1 ⊢
        refine wpAnyS_take (i := 0) (d := some 20) rfl rfl rfl (by kernel_rfl) (by kernel_rfl) (by kernel_rfl) (by kernel_rfl) (fun _ _ _ h => h) (.inl ⟨by rfl, fun W hW => by obtain ⟨q0, q1⟩ := hW; go_simp; try rfl⟩) hSW ?_
        try simp only [Act.put, List.setIfInBounds_toArray, List.set_cons_zero, List.set_cons_succ]
        refine wpAnyS_take (i := 1) (d := some 21) rfl rfl rfl (by kernel_rfl) (by kernel_rfl) (by kernel_rfl) (by kernel_rfl) (fun _ _ _ h => h) (.inl ⟨by rfl, fun W hW => by obtain ⟨q0, q1⟩ := hW; go_simp; try rfl⟩) hSW ?_
        try simp only [Act.put, List.setIfInBounds_toArray, List.set_cons_zero, List.set_cons_succ]
        refine wpAnyS_take (i := 2) (d := some 22) (v := .pointer (some ⟨T, 0, none⟩)) rfl rfl rfl (by kernel_rfl) (by kernel_rfl) (by kernel_rfl) (by kernel_rfl) (fun _ _ _ h => h) (.inl ⟨by rfl, fun W hW => by obtain ⟨q0, q1⟩ := hW; go_simp; try rfl⟩) hSW ?_
        try simp only [Act.put, List.setIfInBounds_toArray, List.set_cons_zero, List.set_cons_succ]
        refine wpAnyS_take (i := 3) (d := some 23) (v := .pointer (some ⟨T, 0, none⟩)) rfl rfl rfl (by kernel_rfl) (by kernel_rfl) (by kernel_rfl) (by kernel_rfl) (fun _ _ _ h => h) (.inl ⟨by rfl, fun W hW => by obtain ⟨q0, q1⟩ := hW; go_simp; try rfl⟩) hSW ?_
        try simp only [Act.put, List.setIfInBounds_toArray, List.set_cons_zero, List.set_cons_succ]
        refine wpAnyS_take (i := 4) (d := some 24) (v := .slice ta r2.length tcap) rfl rfl rfl (by kernel_rfl) (by kernel_rfl) (by kernel_rfl) (by kernel_rfl) (fun _ _ _ h => h) (.inl ⟨by rfl, fun W hW => by obtain ⟨q0, q1⟩ := hW; go_simp; try rfl⟩) hSW ?_
        try simp only [Act.put, List.setIfInBounds_toArray, List.set_cons_zero, List.set_cons_succ]
        refine wpAnyS_take (i := 5) (d := some 25) rfl rfl rfl (by kernel_rfl) (by kernel_rfl) (by kernel_rfl) (by kernel_rfl) (fun _ _ _ h => h) (.inl ⟨by rfl, fun W hW => by obtain ⟨q0, q1⟩ := hW; go_simp; try rfl⟩) hSW ?_
        try simp only [Act.put, List.setIfInBounds_toArray, List.set_cons_zero, List.set_cons_succ]
        refine wpAnyS_take (i := 6) (d := some 26) (v := .pointer (some ⟨T, 0, none⟩)) rfl rfl rfl (by kernel_rfl) (by kernel_rfl) (by kernel_rfl) (by kernel_rfl) (fun _ _ _ h => h) (.inl ⟨by rfl, fun W hW => by obtain ⟨q0, q1⟩ := hW; go_simp; try rfl⟩) hSW ?_
        try simp only [Act.put, List.setIfInBounds_toArray, List.set_cons_zero, List.set_cons_succ]
        refine wpAnyS_take (i := 7) (d := some 27) (v := .pointer (some ⟨T, 1, none⟩)) rfl rfl rfl (by kernel_rfl) (by kernel_rfl) (by kernel_rfl) (by kernel_rfl) (fun _ _ _ h => h) (.inl ⟨by rfl, fun W hW => by obtain ⟨q0, q1⟩ := hW; go_simp; try rfl⟩) hSW ?_
        try simp only [Act.put, List.setIfInBounds_toArray, List.set_cons_zero, List.set_cons_succ]
        refine wpAnyS_take (i := 8) (d := some 28) (v := .slice la ls.length lc) rfl rfl rfl (by kernel_rfl) (by kernel_rfl) (by kernel_rfl) (by kernel_rfl) (fun _ _ _ h => h) (.inl ⟨by rfl, fun W hW => by obtain ⟨q0, q1⟩ := hW; go_simp; try rfl⟩) hSW ?_
        try simp only [Act.put, List.setIfInBounds_toArray, List.set_cons_zero, List.set_cons_succ]
        refine wpAnyS_take (i := 9) (d := some 29) (v := .int .i64 ls.length) rfl rfl rfl (by kernel_rfl) (by kernel_rfl) (by kernel_rfl) (by kernel_rfl) (fun _ _ _ h => h) (.inl ⟨by rfl, fun W hW => by obtain ⟨q0, q1⟩ := hW; go_simp; try rfl⟩) hSW ?_
        try simp only [Act.put, List.setIfInBounds_toArray, List.set_cons_zero, List.set_cons_succ]
        refine wpAnyS_call (i := 10) (d := some 30) (f := 154) (args := #[.slice ta r2.length tcap, .int .i64 ls.length]) (w' := W1) (by kernel_rfl) rfl rfl (by rfl) (by go_simp; try rfl) ?_
        refine (takedeltas_any _ r2 ls.length _ HB1.out (by omega)).mono ?_
        rintro e w3 (⟨l, u, v, hdec, rfl, hown, hb⟩ | ⟨hdec, rfl, hb⟩)
        · have hS3 : (fun W : World => W.cell? ⟨T, 0, none⟩ = some (.slice ta r2.length tcap) ∧ W.cell? ⟨T, 1, none⟩ = some (.slice la ls.length lc)) w3 := ⟨(hb.cell (p := ⟨T, 0, none⟩) (cell_lt hSW.1)).trans hSW.1, (hb.cell (p := ⟨T, 1, none⟩) (cell_lt hSW.2)).trans hSW.2⟩
          have HR3 := Lib.hid (HR1.out.below hb)
          refine ⟨_, rfl, fun _ => hS3, ?_⟩
          try simp only [Act.put, List.setIfInBounds_toArray, List.set_cons_zero, List.set_cons_succ]
          refine wpAnyS_take (i := 11) (d := some 19) (v := .tuple #[v, .int .i64 (u : Nat), .int .i64 0]) rfl rfl rfl (by kernel_rfl) (by kernel_rfl) (by kernel_rfl) (by kernel_rfl) (fun _ _ _ h => h) (.inl ⟨by rfl, fun W hW => by obtain ⟨q0, q1⟩ := hW; go_simp; try rfl⟩) hS3 ?_
          try simp only [Act.put, List.setIfInBounds_toArray, List.set_cons_zero, List.set_cons_succ]
          refine wpAnyS_take (i := 12) (d := some 31) (v := v) rfl rfl rfl (by kernel_rfl) (by kernel_rfl) (by kernel_rfl) (by kernel_rfl) (fun _ _ _ h => h) (.inl ⟨by rfl, fun W hW => by obtain ⟨q0, q1⟩ := hW; go_simp; try rfl⟩) hS3 ?_
          try simp only [Act.put, List.setIfInBounds_toArray, List.set_cons_zero, List.set_cons_succ]
          refine wpAnyS_take (i := 13) (d := some 32) (v := .int .i64 (u : Nat)) rfl rfl rfl (by kernel_rfl) (by kernel_rfl) (by kernel_rfl) (by kernel_rfl) (fun _ _ _ h => h) (.inl ⟨by rfl, fun W hW => by obtain ⟨q0, q1⟩ := hW; go_simp; try rfl⟩) hS3 ?_
          try simp only [Act.put, List.setIfInBounds_toArray, List.set_cons_zero, List.set_cons_succ]
          refine wpAnyS_take (i := 14) (d := some 33) (v := .int .i64 0) rfl rfl rfl (by kernel_rfl) (by kernel_rfl) (by kernel_rfl) (by kernel_rfl) (fun _ _ _ h => h) (.inl ⟨by rfl, fun W hW => by obtain ⟨q0, q1⟩ := hW; go_simp; try rfl⟩) hS3 ?_
          try simp only [Act.put, List.setIfInBounds_toArray, List.set_cons_zero, List.set_cons_succ]
          refine wpAnyS_take (i := 15) (d := some 7) (v := v) rfl rfl rfl (by kernel_rfl) (by kernel_rfl) (by kernel_rfl) (by kernel_rfl) (fun _ _ _ h => h) (.inl ⟨by rfl, fun W hW => by obtain ⟨q0, q1⟩ := hW; go_simp; try rfl⟩) hS3 ?_
          try simp only [Act.put, List.setIfInBounds_toArray, List.set_cons_zero, List.set_cons_succ]
          refine wpAnyS_take (i := 16) (d := some 8) (v := .int .i64 (u : Nat)) rfl rfl rfl (by kernel_rfl) (by kernel_rfl) (by kernel_rfl) (by kernel_rfl) (fun _ _ _ h => h) (.inl ⟨by rfl, fun W hW => by obtain ⟨q0, q1⟩ := hW; go_simp; try rfl⟩) hS3 ?_
          try simp only [Act.put, List.setIfInBounds_toArray, List.set_cons_zero, List.set_cons_succ]
          refine wpAnyS_ran (i := 17) (d := some 9) (v := .int .i64 0) (w' := w3) (by kernel_rfl) rfl rfl (by rfl) (by go_simp; try rfl) (fun h => by cases h) ?_
          try simp only [Act.put, List.setIfInBounds_toArray, List.set_cons_zero, List.set_cons_succ]
          refine wpAnyS_done (by kernel_rfl) ?_ _
          clear hS3 hSW
          have HDEC := Lib.hid (HCD.out.trans hdec)
          clear hdec
          have hcf := colD_facts (by omega) HDEC.out
          have hul := hcf.2
          obtain ⟨⟨pa, pn, pc⟩, ep⟩ := hown.sl
          dsimp only at ep
          subst ep
          obtain ⟨⟨va, vn, vc⟩, ev⟩ := HR3.out.own.sl
          dsimp only at ev
          subst ev
          have HOWN : Hid (Own intc 1 3 (lo + 1) w3 (.slice pa pn pc) l) := Lib.hid (hown.mono HR1.out.siz)
          obtain ⟨a1, c1, hsl, hS1, -⟩ := slice_from (P := Tryz.prog) (ea := u8c) Tryz.underlying22 size_u8 ta r2.length tcap u htc hul
          have HBY := Lib.hid (hS1 w0 r2 rfl HR3.out.tks.byt)
          obtain ⟨i0, hi, hy0, hy1, hy2⟩ := info_parts info_rows2
          have HBD : Hid (rs.length + 1 ≤ maxLen ∧ (rs.length + 1) * 24 ≤ 140737488355328) := Lib.hid (by rw [HR3.out.len]; unfold maxLen; omega)
          have c0 := cell_of_one HR3.out.row
          have hne : ¬ T = lo := by have := HR3.out.apt.1; omega
          clear hown hcf hS1
          go_wp2_with (at_builtin; refine wpList_append_struct2 rfl _ _ _ rfl i0 _ 24 Tryz.underlying161 hi hy0 hy1 hy2 rfl (by omega) slc_len slc_one rfl (HR3.out.own.alloc _) (⟨pa, pn, pc⟩ : Sl) w3.heap.size 1 rfl (slc_new _ ⟨pa, pn, pc⟩) HBD.out.1 HBD.out.2 (by have := HR3.out.siz; simp; omega) ?_)
          intro v' w4 hown4 hx4 hn4
          obtain ⟨⟨ua, un, uc⟩, e4⟩ := hown4.sl
          dsimp only at e4
          subst e4
          have hxa : Ext (fun b => (Value.slice va vn vc).ownBlock = some b) w3 w4 := ((Ext.refl _ _).alloc _).andThen hx4 (fun i hi e => e)
          have g4 : w4.heap[lo]? = some (.cells #[.slice va vn vc] 161 (0, 0)) := (hxa.block _ (by have := HR3.out.siz; omega) (fun e => by have := (HR3.out.own.blk _ e).1; omega)).trans HR3.out.row
          have gT : w4.heap[T]? = some (.cells #[.slice ta r2.length tcap, .slice la ls.length lc] 90 (0, 0)) := (hxa.block _ (by have := HR3.out.siz; have := HR3.out.apt.1; omega) (fun e => by have := (HR3.out.own.blk _ e).1; have := HR3.out.apt.1; omega)).trans HR3.out.tks.cell
          have c4 := cell_of_one g4
          have f4 := free_of_one g4
          have cT : w4.cell? ⟨T, 0, none⟩ = some (.slice ta r2.length tcap) := by simp [World.cell?, gT]
          have fT : w4.frozen? ⟨T, 0, none⟩ = false := by simp [World.frozen?, gT]
          have HN := Lib.hid (HR3.out.push (by omega) HDEC.out HOWN.out hown4 hx4 HBY.out)
          clear hown4 hx4 hn4 hxa g4 gT HOWN HBY c0
          go_wp2_with fail
          go_roundg (21 - (k + 1))
          case measure => rw [HG.out]; omega
          case rel => exact ⟨k + 1, _, _, _, _, _, rfl, by simp, by omega, HN⟩
        · have hS3 : (fun W : World => W.cell? ⟨T, 0, none⟩ = some (.slice ta r2.length tcap) ∧ W.cell? ⟨T, 1, none⟩ = some (.slice la ls.length lc)) w3 := ⟨(hb.cell (p := ⟨T, 0, none⟩) (cell_lt hSW.1)).trans hSW.1, (hb.cell (p := ⟨T, 1, none⟩) (cell_lt hSW.2)).trans hSW.2⟩
          have HR3 := Lib.hid (HR1.out.below hb)
          refine ⟨_, rfl, fun _ => hS3, ?_⟩
          try simp only [Act.put, List.setIfInBounds_toArray, List.set_cons_zero, List.set_cons_succ]
          refine wpAnyS_take (i := 11) (d := some 19) (v := .tuple #[.slice none 0 0, .int .i64 0, .int .i64 41]) rfl rfl rfl (by kernel_rfl) (by kernel_rfl) (by kernel_rfl) (by kernel_rfl) (fun _ _ _ h => h) (.inl ⟨by rfl, fun W hW => by obtain ⟨q0, q1⟩ := hW; go_simp; try rfl⟩) hS3 ?_
          try simp only [Act.put, List.setIfInBounds_toArray, List.set_cons_zero, List.set_cons_succ]
          refine wpAnyS_take (i := 12) (d := some 31) (v := .slice none 0 0) rfl rfl rfl (by kernel_rfl) (by kernel_rfl) (by kernel_rfl) (by kernel_rfl) (fun _ _ _ h => h) (.inl ⟨by rfl, fun W hW => by obtain ⟨q0, q1⟩ := hW; go_simp; try rfl⟩) hS3 ?_
          try simp only [Act.put, List.setIfInBounds_toArray, List.set_cons_zero, List.set_cons_succ]
          refine wpAnyS_take (i := 13) (d := some 32) (v := .int .i64 0) rfl rfl rfl (by kernel_rfl) (by kernel_rfl) (by kernel_rfl) (by kernel_rfl) (fun _ _ _ h => h) (.inl ⟨by rfl, fun W hW => by obtain ⟨q0, q1⟩ := hW; go_simp; try rfl⟩) hS3 ?_
          try simp only [Act.put, List.setIfInBounds_toArray, List.set_cons_zero, List.set_cons_succ]
          refine wpAnyS_take (i := 14) (d := some 33) (v := .int .i64 41) rfl rfl rfl (by kernel_rfl) (by kernel_rfl) (by kernel_rfl) (by kernel_rfl) (fun _ _ _ h => h) (.inl ⟨by rfl, fun W hW => by obtain ⟨q0, q1⟩ := hW; go_simp; try rfl⟩) hS3 ?_
          try simp only [Act.put, List.setIfInBounds_toArray, List.set_cons_zero, List.set_cons_succ]
          refine wpAnyS_take (i := 15) (d := some 7) (v := .slice none 0 0) rfl rfl rfl (by kernel_rfl) (by kernel_rfl) (by kernel_rfl) (by kernel_rfl) (fun _ _ _ h => h) (.inl ⟨by rfl, fun W hW => by obtain ⟨q0, q1⟩ := hW; go_simp; try rfl⟩) hS3 ?_
          try simp only [Act.put, List.setIfInBounds_toArray, List.set_cons_zero, List.set_cons_succ]
          refine wpAnyS_take (i := 16) (d := some 8) (v := .int .i64 0) rfl rfl rfl (by kernel_rfl) (by kernel_rfl) (by kernel_rfl) (by kernel_rfl) (fun _ _ _ h => h) (.inl ⟨by rfl, fun W hW => by obtain ⟨q0, q1⟩ := hW; go_simp; try rfl⟩) hS3 ?_
          try simp only [Act.put, List.setIfInBounds_toArray, List.set_cons_zero, List.set_cons_succ]
          refine wpAnyS_ran (i := 17) (d := some 9) (v := .int .i64 41) (w' := w3) (by kernel_rfl) rfl rfl (by rfl) (by go_simp; try rfl) (fun h => by cases h) ?_
          try simp only [Act.put, List.setIfInBounds_toArray, List.set_cons_zero, List.set_cons_succ]
          refine wpAnyS_done (by kernel_rfl) ?_ _
          clear hS3 hSW
          have HBAD : Hid (decCols ls.length 21 r = none) := Lib.hid (decCols_bad HR3.out.dec (HCD.out.trans hdec) hlt)
          clear hdec
          go_wp2_with fail
          go_ret
          exact .inr ⟨HBAD.out, ⟨_, _, rfl⟩, HR3.out.tks.kp⟩
    · obtain rfl : k = 21 := by omega
      have hk1 : ¬ (21 : Int) < 21 := by omega
      have hc0 := HR.out.tks.cell
      have c1 : wr.cell? ⟨T, 1, none⟩ = some (.slice la ls.length lc) := by simp [World.cell?, hc0]
      have HN0 : Hid (N2 w0 T (.slice la ls.length lc) ls lo tb1 rv L r2 rs 0 wr) := Lib.hid ⟨by rw [mixN_zero]; exact HR.out.tks, HR.out.row, HR.out.own, HR.out.num, HR.out.siz⟩
      have HF : Hid (decCols ls.length 21 r = some (L, r2) ∧ rs.length = 21 ∧ T < lo ∧ (∀ b, (Value.slice la ls.length lc).ownBlock = some b → b < lo)) := Lib.hid ⟨HR.out.dec, HR.out.len, HR.out.apt⟩
      clear hc0 hk hlt HR
      go_wp2_with fail
      clear c1
      go_loopg [59] ls.length (fun g kv wx => ∃ i : Nat, g = ls.length - i ∧ kv = .int .i64 i ∧ i ≤ ls.length ∧ Hid (N2 w0 T (.slice la ls.length lc) ls lo tb1 rv L r2 rs i wx))
      case atStart => exact ⟨0, rfl, rfl, by omega, HN0⟩
      case round =>
        clear HN0
        obtain ⟨i, hg, rfl, hk, HR⟩ := hrel
        have HG := Lib.hid hg
        clear hg
        by_cases hlt : i < ls.length
        · have hk1 : (i : Int) < (ls.length : Int) := by omega
          go_upto_region 18 with fail
          obtain ⟨x, hx⟩ : ∃ x, ls[i]? = some x := ⟨_, List.getElem?_eq_getElem hlt⟩
          have HX := Lib.hid hx
          obtain ⟨g, cap, e, hg1, hg2⟩ := HR.out.tks.own.eq_slice.resolve_left (fun e => by have h2 := e.2; have h3 := mixN_len L i ls; rw [h2] at h3; simp at h3; omega)
          injection e with e1 e2 e3
          subst e1 e3
          clear e2
          have hgl : g < lo := HF.out.2.2.2 g rfl
          have hc0 := HR.out.tks.cell
          have hsz := HR.out.siz
          have hTl := HF.out.2.2.1
          have hi0 : (0 : Int) ≤ (i : Int) := by omega
          have HNR := Lib.hid (HR.out.reads HF.out.2.1 (decCols_len (by omega) HF.out.1) hlt)
          obtain ⟨W1, hW1⟩ : ∃ W1, (wr.alloc (.cells #[.int .i64 i] 3)).alloc (.cells #[.int .i64 0] 3) = W1 := ⟨_, rfl⟩
          have hz1 : W1.heap.size = wr.heap.size + 2 := by rw [← hW1]; simp
          have hx1 : Ext (fun _ => False) wr W1 := by rw [← hW1]; exact ((Ext.refl _ _).alloc _).alloc _
          have hBi : W1.heap[wr.heap.size]? = some (.cells #[.int .i64 i] 3 (0, 0)) := by rw [← hW1]; exact (Below.heap_alloc _ _ _ (by simp)).trans (heap_new8 wr _)
          have hBc : W1.heap[wr.heap.size + 1]? = some (.cells #[.int .i64 0] 3 (0, 0)) := by
            rw [← hW1]
            have := heap_new8 (wr.alloc (.cells #[.int .i64 i] 3)) (.cells #[.int .i64 0] 3)
            rwa [World.size_alloc] at this
          rw [hW1]
          clear hW1
          have hSW : (fun W : World => W.cell? ⟨T, 1, none⟩ = some (.slice (some ⟨g, 0, none⟩) ls.length lc) ∧ W.cell? ⟨wr.heap.size, 0, none⟩ = some (.int .i64 i)) W1.drew := ⟨by show World.cell? W1 _ = _; simp [World.cell?, (hx1.block T (by omega) id).trans hc0], cell_of_one hBi⟩
          refine wp_region_s (fun W : World => W.cell? ⟨T, 1, none⟩ = some (.slice (some ⟨g, 0, none⟩) ls.length lc) ∧ W.cell? ⟨wr.heap.size, 0, none⟩ = some (.int .i64 i)) (fun _ => false) (by kernel_rfl) ?_
          have hxd : Ext (fun _ => False) W1 W1.drew := (Ext.refl _ _).drew
          have HW := Lib.hid (And.intro hz1 (And.intro hx1 (And.intro hBi (And.intro hBc hxd))))
          clear hz1 hx1 hBi hBc hxd hc0
          have hz : W1.drew.heap.size = W1.heap.size := rfl
          generalize hWd : W1.drew = W2 at hSW HW hz ⊢
          have HX1 : Hid (Ext (fun _ => False) wr W2 ∧ W2.heap.size = wr.heap.size + 2 ∧ W2.heap[wr.heap.size]? = some (.cells #[.int .i64 i] 3 (0, 0)) ∧ W2.heap[wr.heap.size + 1]? = some (.cells #[.int .i64 0] 3 (0, 0))) := Lib.hid (by
            have h := HW.out
            refine ⟨h.2.1.andThen h.2.2.2.2 (fun _ _ f => f), hz.trans h.1, (h.2.2.2.2.block _ (by omega) id).trans h.2.2.1, (h.2.2.2.2.block _ (by omega) id).trans h.2.2.2.1⟩)
          clear hWd HW hz
          refine wpAnyS_take (i := 0) (d := some 62) rfl rfl rfl (by kernel_rfl) (by kernel_rfl) (by kernel_rfl) (by kernel_rfl) (fun _ _ _ h => h) (.inl ⟨by rfl, fun W hW => by obtain ⟨q0, q1⟩ := hW; go_simp; try rfl⟩) hSW ?_
          try simp only [Act.put, List.setIfInBounds_toArray, List.set_cons_zero, List.set_cons_succ]
          refine wpAnyS_take (i := 1) (d := some 63) (v := .pointer (some ⟨T, 0, none⟩)) rfl rfl rfl (by kernel_rfl) (by kernel_rfl) (by kernel_rfl) (by kernel_rfl) (fun _ _ _ h => h) (.inl ⟨by rfl, fun W hW => by obtain ⟨q0, q1⟩ := hW; go_simp; try rfl⟩) hSW ?_
          try simp only [Act.put, List.setIfInBounds_toArray, List.set_cons_zero, List.set_cons_succ]
          refine wpAnyS_take (i := 2) (d := some 64) (v := .pointer (some ⟨T, 1, none⟩)) rfl rfl rfl (by kernel_rfl) (by kernel_rfl) (by kernel_rfl) (by kernel_rfl) (fun _ _ _ h => h) (.inl ⟨by rfl, fun W hW => by obtain ⟨q0, q1⟩ := hW; go_simp; try rfl⟩) hSW ?_
          try simp only [Act.put, List.setIfInBounds_toArray, List.set_cons_zero, List.set_cons_succ]
          refine wpAnyS_take (i := 3) (d := some 65) (v := .slice (some ⟨g, 0, none⟩) ls.length lc) rfl rfl rfl (by kernel_rfl) (by kernel_rfl) (by kernel_rfl) (by kernel_rfl) (fun _ _ _ h => h) (.inl ⟨by rfl, fun W hW => by obtain ⟨q0, q1⟩ := hW; go_simp; try rfl⟩) hSW ?_
          try simp only [Act.put, List.setIfInBounds_toArray, List.set_cons_zero, List.set_cons_succ]
          refine wpAnyS_take (i := 4) (d := some 66) (v := .int .i64 i) rfl rfl rfl (by kernel_rfl) (by kernel_rfl) (by kernel_rfl) (by kernel_rfl) (fun _ _ _ h => h) (.inl ⟨by rfl, fun W hW => by obtain ⟨q0, q1⟩ := hW; go_simp; try rfl⟩) hSW ?_
          try simp only [Act.put, List.setIfInBounds_toArray, List.set_cons_zero, List.set_cons_succ]
          refine wpAnyS_take (i := 5) (d := some 67) (v := .pointer (some ⟨g, i * 26, none⟩)) rfl rfl rfl (by kernel_rfl) (by kernel_rfl) (by kernel_rfl) (by kernel_rfl) (fun _ _ _ h => h) (.inl ⟨by rfl, fun W hW => by obtain ⟨q0, q1⟩ := hW; go_simp; try rfl⟩) hSW ?_
          try simp only [Act.put, List.setIfInBounds_toArray, List.set_cons_zero, List.set_cons_succ]
          refine wpAnyS_take (i := 6) (d := some 68) (v := .func (.func 155) #[] #[.pointer (some ⟨lo, 0, none⟩), .pointer (some ⟨wr.heap.size + 1, 0, none⟩), .pointer (some ⟨wr.heap.size, 0, none⟩)]) rfl rfl rfl (by kernel_rfl) (by kernel_rfl) (by kernel_rfl) (by kernel_rfl) (fun _ _ _ h => h) (.inl ⟨by rfl, fun W hW => by obtain ⟨q0, q1⟩ := hW; go_simp; try rfl⟩) hSW ?_
          try simp only [Act.put, List.setIfInBounds_toArray, List.set_cons_zero, List.set_cons_succ]
          obtain ⟨rb, rcap, erv, rb1, rb2, hrow⟩ := HNR.out
          have hbe : Ext (fun _ => False) wr W2 := HX1.out.1
          have hz2 := HX1.out.2.1
          have hN : NR W2 lo (wr.heap.size + 2) lo wr.heap.size rb rcap i (colF L i) (wr.heap.size + 1) :=
            ⟨by rw [← erv]; exact cell_of_one ((hbe.block _ (by omega) id).trans HR.out.row), cell_of_one HX1.out.2.2.1, fun c hc => by
              obtain ⟨sb, sn, sc, q1, q2, q3, q4⟩ := hrow c hc
              exact ⟨sb, sn, sc, hbe.keep q1 id, ⟨by omega, by omega, by omega⟩, q3, hbe.keep q4 id⟩, ⟨⟨Nat.le_refl _, by omega, by omega⟩, ⟨by omega, by omega, by omega⟩, ⟨by omega, by omega, by omega⟩, by omega, by omega⟩⟩
          have hJ0 : JN W2 lo (wr.heap.size + 2) (wr.heap.size + 1) 0 (fun k => k < lo) W2 := ⟨fun k hk => .inl hk, fun _ _ _ _ => rfl, HX1.out.2.2.2, by omega, by omega, by omega⟩
          have hN2 := HR.out.ext hbe (fun _ f => f.elim) HF.out.2.2
          have hown3 := hN2.tks.own
          rw [show ls.length = (mixN L i ls).length from (mixN_len L i ls).symm] at hown3
          have hAt : At g (i * 26) x (fld x) W2 := At.of_cells (fun j u hj => hown3.cellAt OpD.len (mixN_at L i HX.out) hj) (fun j _ => hown3.free _)
          refine wpAnyS_call (i := 7) (d := some 69) (f := 92) (args := #[.pointer (some ⟨g, i * 26, none⟩), .func (.func 155) #[] #[.pointer (some ⟨lo, 0, none⟩), .pointer (some ⟨wr.heap.size + 1, 0, none⟩), .pointer (some ⟨wr.heap.size, 0, none⟩)]]) (w' := W2) (by kernel_rfl) rfl rfl (by rfl) (by go_simp; try rfl) ?_
          refine (ints_any (enters_of Tryz.func155 (by kernel_rfl) rfl) g (i * 26) x (colF L i) (JN W2 lo (wr.heap.size + 2) (wr.heap.size + 1)) (fun k => k < lo) W2 (nums_use hN (fld x)) (JN.jok _ _ _ _ _) hgl hAt hJ0).mono ?_
          rintro e w3 ⟨⟨v3, rfl⟩, hJ, hA3, hx3, hR3⟩
          have hxx : Ext (fun k => k = g ∨ k = wr.heap.size + 1) W2 w3 := ⟨hx3.os, hx3.tape, hx3.output, hx3.size, fun k hk hn => by
            by_cases h : k < lo
            · exact hx3.block k hk (fun e => e.elim (fun e => e h) (fun e => hn (.inl e)))
            · exact hJ.2.1 k (by omega) (by omega) (fun e => hn (.inr e))⟩
          have HN : Hid (N2 w0 T (.slice (some ⟨g, 0, none⟩) ls.length lc) ls lo tb1 rv L r2 rs (i + 1) w3) := Lib.hid (hN2.put HR.out hxx (by omega) HX.out hA3 hR3 HF.out.2.2)
          refine ⟨_, rfl, fun _ => ⟨hxx.keep hSW.1 (fun e => e.elim (fun e => ?_) (fun e => by omega)), hxx.keep hSW.2 (fun e => by omega)⟩, ?_⟩
          · have h1 := hN2.tks.cell
            obtain ⟨c2, h2⟩ := hN2.tks.own.tag (b := g) rfl
            rw [e, h2] at h1
            cases h1
          try simp only [Act.put, List.setIfInBounds_toArray, List.set_cons_zero, List.set_cons_succ]
          refine wpAnyS_done (by kernel_rfl) ?_ _
          clear hxx hx3 hJ hA3 hR3 hAt hown3 hN2 hJ0 hN hbe hrow hSW HX1 HNR HR
          go_wp2_with fail
          go_roundg (ls.length - (i + 1))
          case measure => rw [HG.out]; omega
          case rel => exact ⟨i + 1, rfl, by simp, by omega, HN⟩
        · obtain rfl : i = ls.length := by omega
          have hk1 : ¬ (ls.length : Int) < (ls.length : Int) := by omega
          go_wp2_with fail
          go_ret
          exact .inl ⟨_, _, HF.out.1, rfl, _, HR.out.tks⟩
end Go.Proofs.YtgmdimbiipemhaaGreatDoor
namespace Go.Proofs.YtgmdimbiipemhaaGreatDoor
open Go.RowKit Go.Extern.Stop Go.Stop Go.Extern
theorem as_nil (t : Value) (w : World) :
    Calls Tryz.prog 52 #[.nilIface, t] w fun e w' => e = .returned (.bool false) ∧ w' = w := by
  go_enter Tryz.func52, Tryz.ntmps52
  go_wp2
  go_ret
  exact ⟨rfl, rfl⟩
theorem Tryz.valueOfP (t : Addr) (w : World) : (ReflectliteValue.unpack (.iface 96 (.pointer (some t)))).run Tryz.prog w
    = .ok (.agg #[.pointer (some ⟨5, 96, none⟩), .pointer (some ⟨w.heap.size, 0, none⟩), .int .u64 150]) (w.alloc (.cells #[.pointer (some t)] 96)) := by kernel_rfl
theorem Tryz.typeP (a : Addr) (w : World) : (ReflectliteValue.methodAny (ReflectliteValue.valueError "reflectlite.Value.Type" 0) (fun t _ _ _ => ReflectliteType.toType t) #[.agg #[.pointer (some ⟨5, 96, none⟩), .pointer (some a), .int .u64 150]]).run Tryz.prog w
    = .ok (.iface 234 (.agg #[.pointer (some ⟨5, 96, none⟩)])) w := by kernel_rfl
theorem Tryz.kindP (w : World) : ((ReflectliteType.abiMethod fun t => (fun a : Nat => Value.int IntKind.u8 (a : Int)) <$> Rtype.kind t) #[.pointer (some ⟨5, 96, none⟩)]).run Tryz.prog w = .ok (.int .u8 22) w := by kernel_rfl
theorem Tryz.kindF (w : World) : ((ReflectliteType.abiMethod fun t => (fun a : Nat => Value.int IntKind.u8 (a : Int)) <$> Rtype.kind t) #[.pointer (some ⟨5, 91, none⟩)]).run Tryz.prog w = .ok (.int .u8 2) w := by kernel_rfl
theorem rlm (z : Sem Value) (f : TypeId → Addr → Nat → Nat → Sem Value) (v : Value) :
    ReflectliteValue.method z f #[v] = (do match ← ReflectliteValue.parts v with | none => z | some (t, a, fl) => f t a fl (fl % 32)) := rfl
theorem Tryz.partsP (a : Addr) (w : World) : (ReflectliteValue.parts (.agg #[.pointer (some ⟨5, 96, none⟩), .pointer (some a), .int .u64 150])).run Tryz.prog w = .ok (some (96, a, 150)) w := by kernel_rfl
theorem Tryz.isNilP (a p : Addr) (W : World) (ha : W.cell? a = some (.pointer (some p))) :
    (ReflectliteValue.method (ReflectliteValue.valueError "reflectlite.Value.IsNil" 0) ReflectliteValue.isNil #[.agg #[.pointer (some ⟨5, 96, none⟩), .pointer (some a), .int .u64 150]]).run Tryz.prog W = .ok (.bool false) W := by
  rw [rlm]
  simp only [Sem.run_bind, Tryz.partsP, Result.andThen]
  simp [ReflectliteValue.isNil, loadVar, isAgg, underlying, Tryz.underlying96, ha, Result.andThen]
theorem Tryz.elemP (w : World) : (ReflectliteType.method ReflectliteType.elem #[.agg #[.pointer (some ⟨5, 96, none⟩)]]).run Tryz.prog w = .ok (.iface 234 (.agg #[.pointer (some ⟨5, 91, none⟩)])) w := by kernel_rfl
theorem Tryz.implementsF (w : World) : (ReflectliteType.relation "Implements" ReflectliteType.implements_ #[.agg #[.pointer (some ⟨5, 91, none⟩)], .iface 234 (.agg #[.pointer (some ⟨5, 94, none⟩)])]).run Tryz.prog w = .ok (.bool true) w := by kernel_rfl
theorem Tryz.typeOfA (v : Value) (w : World) : (ReflectliteType.typeOf #[.iface 187 v]).run Tryz.prog w = .ok (.iface 234 (.agg #[.pointer (some ⟨5, 187, none⟩)])) w := by kernel_rfl
theorem Tryz.typeOfF (v : Value) (w : World) : (ReflectliteType.typeOf #[.iface 91 v]).run Tryz.prog w = .ok (.iface 234 (.agg #[.pointer (some ⟨5, 91, none⟩)])) w := by kernel_rfl
theorem Tryz.assignableA (w : World) : (ReflectliteType.relation "AssignableTo" ReflectliteType.assignableTo #[.agg #[.pointer (some ⟨5, 187, none⟩)], .iface 234 (.agg #[.pointer (some ⟨5, 91, none⟩)])]).run Tryz.prog w = .ok (.bool false) w := by kernel_rfl
theorem Tryz.assignableF (w : World) : (ReflectliteType.relation "AssignableTo" ReflectliteType.assignableTo #[.agg #[.pointer (some ⟨5, 91, none⟩)], .iface 234 (.agg #[.pointer (some ⟨5, 91, none⟩)])]).run Tryz.prog w = .ok (.bool true) w := by kernel_rfl
theorem Tryz.valueOfF (n : Int) (w : World) : (ReflectliteValue.unpack (.iface 91 (.int .i64 n))).run Tryz.prog w
    = .ok (.agg #[.pointer (some ⟨5, 91, none⟩), .pointer (some ⟨w.heap.size, 0, none⟩), .int .u64 130]) (w.alloc (.cells #[.int .i64 n] 91)) := by kernel_rfl
theorem Tryz.elemOfP (w : World) : (Rtype.elem? 96).run Tryz.prog w = .ok (some 91) w := by kernel_rfl
theorem Tryz.mkF (p : Addr) (w : World) : (ReflectliteValue.mk 91 p ReflectliteValue.flagAddr).run Tryz.prog w = .ok (.agg #[.pointer (some ⟨5, 91, none⟩), .pointer (some p), .int .u64 386]) w := by kernel_rfl
theorem Tryz.elemV (a p : Addr) (W : World) (ha : W.cell? a = some (.pointer (some p))) :
    (ReflectliteValue.method (ReflectliteValue.valueError "reflectlite.Value.Elem" 0) ReflectliteValue.elem #[.agg #[.pointer (some ⟨5, 96, none⟩), .pointer (some a), .int .u64 150]]).run Tryz.prog W
      = .ok (.agg #[.pointer (some ⟨5, 91, none⟩), .pointer (some p), .int .u64 386]) W := by
  rw [rlm]
  simp only [Sem.run_bind, Tryz.partsP, Result.andThen]
  simp [ReflectliteValue.elem, loadVar, isAgg, underlying, Tryz.underlying96, ha, Result.andThen, Tryz.elemOfP, Tryz.mkF]
theorem rls (v x : Value) : ReflectliteValue.set #[v, x] = (do
    let (some (dst, a, fl), some (src, b, _)) := (← ReflectliteValue.parts v, ← ReflectliteValue.parts x)
      | unsupported (.noEntry "extern/(internal/reflectlite.Value).Set.zeroValue")
    if fl / ReflectliteValue.flagAddr % 2 == 0 then unsupported (.noEntry "extern/(internal/reflectlite.Value).Set.unaddressable")
    let val ← loadVar src b
    if ← Rtype.directlyAssignable dst src then storeVar dst a val
    else if ← Rtype.implements dst src then
      if (← Rtype.kind src) == 20 then
        match val with
        | .nilIface => unsupported (.noEntry "extern/reflectlite: a nil value of one interface type handed on as a value of another")
        | _ => storeVar dst a val
      else storeVar dst a (.iface src val)
    else panicString ("reflectlite.Set: value of type " ++ (← Rtype.spelt src) ++ " is not assignable to type " ++ (← Rtype.spelt dst))
    pure (.tuple #[])) := rfl
theorem Tryz.partsFa (a : Addr) (w : World) : (ReflectliteValue.parts (.agg #[.pointer (some ⟨5, 91, none⟩), .pointer (some a), .int .u64 386])).run Tryz.prog w = .ok (some (91, a, 386)) w := by kernel_rfl
theorem Tryz.partsF (a : Addr) (w : World) : (ReflectliteValue.parts (.agg #[.pointer (some ⟨5, 91, none⟩), .pointer (some a), .int .u64 130])).run Tryz.prog w = .ok (some (91, a, 130)) w := by kernel_rfl
theorem Tryz.directF (w : World) : (Rtype.directlyAssignable 91 91).run Tryz.prog w = .ok true w := by kernel_rfl
theorem Tryz.setF (ta b : Addr) (n : Int) (old : Value) (W : World) (hb : W.cell? b = some (.int .i64 n)) (ht : W.cell? ta = some old) (hf : W.frozen? ta = false) :
    (ReflectliteValue.set #[.agg #[.pointer (some ⟨5, 91, none⟩), .pointer (some ta), .int .u64 386], .agg #[.pointer (some ⟨5, 91, none⟩), .pointer (some b), .int .u64 130]]).run Tryz.prog W
      = .ok (.tuple #[]) (W.setCell ta (.int .i64 n)) := by
  rw [rls]
  simp only [Sem.run_bind, Tryz.partsFa, Tryz.partsF, Result.andThen]
  simp [ReflectliteValue.flagAddr, loadVar, isAgg, underlying, Tryz.underlying91, hb, Result.andThen, Tryz.directF, storeVar, Value.cells, storeCells, Addr.add]
  rw [run_store Tryz.prog W ta _ _ (by rfl)]
  simp [ht, hf]
theorem missing_one (nm : String) (sg : TypeId) (got : Array Method) (h : (got.any fun m => m.name == nm && m.sig == sg) = false) : ∃ s, Instr.missingMethod #[(nm, sg)] got = some s := by
  unfold Instr.missingMethod
  simp only [List.filter, h, Bool.not_false, List.map]
  cases hc : nm.contains '.' with
  | true => simp [List.partition, List.partition.loop, hc, Instr.least]
  | false => simp [List.partition, List.partition.loop, hc, Instr.least]
theorem Tryz.infoAt : (Tryz.prog.info? 187).map (fun i => i.methods.any fun m => m.name == "As" && m.sig == 241) = some false := by kernel_rfl
theorem Tryz.undAs : Tryz.prog.underlying 239 = some (.interface #[("As", 241)]) := by kernel_rfl
theorem Tryz.zeroAs (w : World) : (zeroValue 239).run Tryz.prog w = .ok .nilIface w := by kernel_rfl
theorem Tryz.noAs (v : Value) (w : World) : (Instr.typeAssert (.iface 187 v) 94 239 true).run Tryz.prog w = .ok (.tuple #[.nilIface, .bool false]) w := by
  obtain ⟨i, hi, hm⟩ : ∃ i, Tryz.prog.info? 187 = some i ∧ (i.methods.any fun m => m.name == "As" && m.sig == 241) = false := by
    have h := Tryz.infoAt
    cases hh : Tryz.prog.info? 187 with
    | none => rw [hh] at h; cases h
    | some i => rw [hh] at h; exact ⟨i, rfl, Option.some.inj h⟩
  obtain ⟨s, hs⟩ := missing_one _ _ _ hm
  have hz := Tryz.zeroAs w
  unfold Instr.typeAssert
  simp [run_underlying Tryz.undAs, typeInfo, hi, hs, hz, Result.andThen]
theorem Tryz.hasUn (v : Value) (w : World) : (Instr.typeAssert (.iface 187 v) 94 242 true).run Tryz.prog w = .ok (.tuple #[.iface 187 v, .bool true]) w := by kernel_rfl
theorem unwrap_any (what : ByteArray) (x : Value) (w : World) : Calls Tryz.prog 250 #[.agg #[.string what, x]] w fun e w' => e = .returned x ∧ w' = w.alloc (.cells #[.string what, x] 187) := by
  go_enter Tryz.func250, Tryz.ntmps250
  go_wp2
  go_ret
  exact ⟨rfl, rfl⟩
theorem Tryz.methodKind (n : Nat) (h : Value) (w : World) : (Go.method (n + 1) 234 (.agg #[h]) "Kind").run Tryz.prog w = .ok (241, h) w := by kernel_rfl
theorem Tryz.methodElem (n : Nat) (h : Value) (w : World) : (Go.method (n + 1) 234 (.agg #[h]) "Elem").run Tryz.prog w = .ok (260, .agg #[h]) w := by kernel_rfl
theorem Tryz.methodImplements (n : Nat) (h : Value) (w : World) : (Go.method (n + 1) 234 (.agg #[h]) "Implements").run Tryz.prog w = .ok (261, .agg #[h]) w := by kernel_rfl
theorem Tryz.methodAssignableTo (n : Nat) (h : Value) (w : World) : (Go.method (n + 1) 234 (.agg #[h]) "AssignableTo").run Tryz.prog w = .ok (258, .agg #[h]) w := by kernel_rfl
theorem Tryz.methodUnwrap (n : Nat) (h : Value) (w : World) : (Go.method (n + 1) 187 h "Unwrap").run Tryz.prog w = .ok (250, h) w := by kernel_rfl
set_option maxRecDepth 20000 in
set_option maxHeartbeats 8000000 in
theorem as_in (what : ByteArray) (n : Int) (t : Addr) (A0 : Nat) (old : Value) (w : World) (hA : w.cell? ⟨A0, 0, none⟩ = some (.pointer (some t))) (ht0 : w.cell? t = some old) (hf0 : w.frozen? t = false) :
    Calls Tryz.prog 102 #[.iface 187 (.agg #[.string what, .iface 91 (.int .i64 n)]), .iface 96 (.pointer (some t)), .agg #[.pointer (some ⟨5, 96, none⟩), .pointer (some ⟨A0, 0, none⟩), .int .u64 150], .iface 234 (.agg #[.pointer (some ⟨5, 91, none⟩)])] w fun ev w' => ev = .returned (.bool true) ∧ Ext (· = t.block) w w' := by
  have h6 := @run_callFunc_extern Tryz.prog 99 _ (fun args => ReflectliteValue.unpack (args.getD 0 (.tuple #[]))) Tryz.func99 (by kernel_rfl) (by kernel_rfl) (by kernel_rfl) (by kernel_rfl)
  have h10 := @run_callFunc_extern Tryz.prog 150 _ ReflectliteType.typeOf Tryz.func150 (by kernel_rfl) (by kernel_rfl) (by kernel_rfl) (by kernel_rfl)
  have h35 := @run_callFunc_extern Tryz.prog 258 _ (ReflectliteType.relation "AssignableTo" ReflectliteType.assignableTo) Tryz.func258 (by kernel_rfl) (by kernel_rfl) (by kernel_rfl) (by kernel_rfl)
  have h11 := @run_callFunc_extern Tryz.prog 151 _ (ReflectliteValue.method (ReflectliteValue.valueError "reflectlite.Value.Elem" 0) ReflectliteValue.elem) Tryz.func151 (by kernel_rfl) (by kernel_rfl) (by kernel_rfl) (by kernel_rfl)
  have h12 := @run_callFunc_extern Tryz.prog 152 _ ReflectliteValue.set Tryz.func152 (by kernel_rfl) (by kernel_rfl) (by kernel_rfl) (by kernel_rfl)
  have mA := Tryz.methodAssignableTo
  have mU := Tryz.methodUnwrap
  have tA := Tryz.typeOfA
  have tF := Tryz.typeOfF
  have aA := Tryz.assignableA
  have aF := Tryz.assignableF
  have nA := Tryz.noAs
  have hU := Tryz.hasUn
  have vF := Tryz.valueOfF
  have hAl : A0 < w.heap.size := cell_lt hA
  have htl : t.block < w.heap.size := by
    rcases Nat.lt_or_ge t.block w.heap.size with h | h
    · exact h
    · simp [World.cell?, Array.getElem?_eq_none h] at ht0
  have el := Tryz.elemV ⟨A0, 0, none⟩ t ((w.alloc (.cells #[.pointer (some ⟨5, 96, none⟩), .pointer (some ⟨A0, 0, none⟩), .int .u64 150] 177)).alloc (.cells #[.string what, .iface 91 (.int .i64 n)] 187)) (by rw [World.cell?_alloc_lt _ _ ⟨A0, 0, none⟩ (by simp; omega), World.cell?_alloc_lt _ _ ⟨A0, 0, none⟩ hAl]; exact hA)
  have st := Tryz.setF t ⟨w.heap.size + 1 + 1, 0, none⟩ n old (((w.alloc (.cells #[.pointer (some ⟨5, 96, none⟩), .pointer (some ⟨A0, 0, none⟩), .int .u64 150] 177)).alloc (.cells #[.string what, .iface 91 (.int .i64 n)] 187)).alloc (.cells #[.int .i64 n] 91)) (by rw [World.cell?_alloc_at _ _ _ _ (by simp)]; rfl)
    (by rw [World.cell?_alloc_lt _ _ t (by simp; omega), World.cell?_alloc_lt _ _ t (by simp; omega), World.cell?_alloc_lt _ _ t htl]; exact ht0)
    (by rw [World.frozen?_alloc_old _ _ t (by simp; omega), World.frozen?_alloc_old _ _ t (by simp; omega), World.frozen?_alloc_old _ _ t (Nat.ne_of_lt htl)]; exact hf0)
  clear ht0 hf0 hA
  go_enter Tryz.func102, Tryz.ntmps102
  go_wp2_with fail
  refine wp_loop_rounds 2 ?_
  rw [rounds_succ]
  go_wp2_with (first | (go_at_call 250; refine (unwrap_any what (.iface 91 (.int .i64 n)) _).mono ?_; rintro e w' ⟨rfl, rfl⟩))
  rw [rounds_succ]
  go_wp2_with fail
  go_ret
  refine ⟨rfl, ?_⟩
  exact ((((Ext.refl (· = t.block) w).alloc _).alloc _).alloc _).setCell (p := t) (.inr rfl) _
set_option maxRecDepth 20000 in
set_option maxHeartbeats 8000000 in
theorem as_hit (what : ByteArray) (n : Int) (t : Addr) (old : Value) (w : World) (hg : w.cell? ⟨0, 0, none⟩ = some (.iface 234 (.agg #[.pointer (some ⟨5, 94, none⟩)]))) (ht0 : w.cell? t = some old) (hf0 : w.frozen? t = false) :
    Calls Tryz.prog 52 #[atErr what n, .iface 96 (.pointer (some t))] w fun ev w' => ev = .returned (.bool true) ∧ Ext (· = t.block) w w' := by
  have h6 := @run_callFunc_extern Tryz.prog 99 _ (fun args => ReflectliteValue.unpack (args.getD 0 (.tuple #[]))) Tryz.func99 (by kernel_rfl) (by kernel_rfl) (by kernel_rfl) (by kernel_rfl)
  have h7 := @run_callFunc_extern Tryz.prog 100 _ (ReflectliteValue.methodAny (ReflectliteValue.valueError "reflectlite.Value.Type" 0) (fun t _ _ _ => ReflectliteType.toType t)) Tryz.func100 (by kernel_rfl) (by kernel_rfl) (by kernel_rfl) (by kernel_rfl)
  have h8 := @run_callFunc_extern Tryz.prog 101 _ (ReflectliteValue.method (ReflectliteValue.valueError "reflectlite.Value.IsNil" 0) ReflectliteValue.isNil) Tryz.func101 (by kernel_rfl) (by kernel_rfl) (by kernel_rfl) (by kernel_rfl)
  have h27 := @run_callFunc_extern Tryz.prog 241 _ (ReflectliteType.abiMethod fun t => do pure (.int .u8 (← Rtype.kind t))) Tryz.func241 (by kernel_rfl) (by kernel_rfl) (by kernel_rfl) (by kernel_rfl)
  have h37 := @run_callFunc_extern Tryz.prog 260 _ (ReflectliteType.method ReflectliteType.elem) Tryz.func260 (by kernel_rfl) (by kernel_rfl) (by kernel_rfl) (by kernel_rfl)
  have h38 := @run_callFunc_extern Tryz.prog 261 _ (ReflectliteType.relation "Implements" ReflectliteType.implements_) Tryz.func261 (by kernel_rfl) (by kernel_rfl) (by kernel_rfl) (by kernel_rfl)
  have h10 := @run_callFunc_extern Tryz.prog 150 _ ReflectliteType.typeOf Tryz.func150 (by kernel_rfl) (by kernel_rfl) (by kernel_rfl) (by kernel_rfl)
  have h35 := @run_callFunc_extern Tryz.prog 258 _ (ReflectliteType.relation "AssignableTo" ReflectliteType.assignableTo) Tryz.func258 (by kernel_rfl) (by kernel_rfl) (by kernel_rfl) (by kernel_rfl)
  have h11 := @run_callFunc_extern Tryz.prog 151 _ (ReflectliteValue.method (ReflectliteValue.valueError "reflectlite.Value.Elem" 0) ReflectliteValue.elem) Tryz.func151 (by kernel_rfl) (by kernel_rfl) (by kernel_rfl) (by kernel_rfl)
  have h12 := @run_callFunc_extern Tryz.prog 152 _ ReflectliteValue.set Tryz.func152 (by kernel_rfl) (by kernel_rfl) (by kernel_rfl) (by kernel_rfl)
  have f6 := Tryz.valueOfP
  have f7 := Tryz.typeP
  have k27 := Tryz.kindP
  have k25 := Tryz.kindF
  have e27 := Tryz.elemP
  have i25 := Tryz.implementsF
  have n8 := Tryz.isNilP ⟨w.heap.size, 0, none⟩ t ((w.alloc (.cells #[.pointer (some t)] 96)).alloc (.cells #[.pointer (some ⟨5, 96, none⟩), .pointer (some ⟨w.heap.size, 0, none⟩), .int .u64 150] 177)) (by simp)
  have hlt : 0 < w.heap.size := by
    rcases Nat.eq_zero_or_pos w.heap.size with h0 | h
    · simp [World.cell?, h0] at hg
    · exact h
  have htl : t.block < w.heap.size := by
    rcases Nat.lt_or_ge t.block w.heap.size with h | h
    · exact h
    · simp [World.cell?, Array.getElem?_eq_none h] at ht0
  have hg2 : ((w.alloc (.cells #[.pointer (some t)] 96)).alloc (.cells #[.pointer (some ⟨5, 96, none⟩), .pointer (some ⟨w.heap.size, 0, none⟩), .int .u64 150] 177)).cell? ⟨0, 0, none⟩ = some (.iface 234 (.agg #[.pointer (some ⟨5, 94, none⟩)])) := by
    rw [World.cell?_alloc_lt _ _ ⟨0, 0, none⟩ (by simp), World.cell?_alloc_lt _ _ ⟨0, 0, none⟩ hlt]; exact hg
  have mK := Tryz.methodKind
  have mE := Tryz.methodElem
  have mI := Tryz.methodImplements
  have mA := Tryz.methodAssignableTo
  have mU := Tryz.methodUnwrap
  have tA := Tryz.typeOfA
  have tF := Tryz.typeOfF
  have aA := Tryz.assignableA
  have aF := Tryz.assignableF
  have nA := Tryz.noAs
  have hU := Tryz.hasUn
  have vF := Tryz.valueOfF
  unfold atErr
  go_enter Tryz.func52, Tryz.ntmps52
  go_wp2_with fail
  refine (as_in what n t w.heap.size old _ ?_ ?_ ?_).mono ?_
  · rw [World.cell?_alloc_lt _ _ ⟨w.heap.size, 0, none⟩ (by simp)]; simp
  · rw [World.cell?_alloc_lt _ _ t (by simp; omega), World.cell?_alloc_lt _ _ t htl]; exact ht0
  · rw [World.frozen?_alloc_old _ _ t (by simp; omega), World.frozen?_alloc_old _ _ t (Nat.ne_of_lt htl)]; exact hf0
  rintro e w' ⟨rfl, hx⟩
  have HX : Hid (Ext (· = t.block) w w') := Lib.hid ((((Ext.refl (· = t.block) w).alloc _).alloc _).andThen hx (fun i hi e => e))
  clear hx
  go_wp2_with fail
  go_ret
  exact ⟨rfl, HX.out⟩
end Go.Proofs.YtgmdimbiipemhaaGreatDoor
