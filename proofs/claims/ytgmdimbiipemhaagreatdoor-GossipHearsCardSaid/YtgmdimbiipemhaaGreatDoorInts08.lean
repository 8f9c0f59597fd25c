/- batch.ints: a contract, whatever function uses the places. -/
import Derived.Test.YtgmdimbiipemhaaGreatDoorIntsP08
import Derived.Test.YtgmdimbiipemhaaGreatDoorHeldT
import Derived.Deep.LoopGhost
import Derived.Deep.QuietTactic
import Derived.Deep.CutBlock
import Derived.Deep.DeepCutAuto
import Derived.IntWalk
import Derived.Outline
import Derived.OneCell
namespace Go.Proofs.YtgmdimbiipemhaaGreatDoor
open Go.RowKit Go.Deep
set_option linter.unusedSimpArgs false
set_option linter.unusedVariables false

/-- Behind c uses. -/
def IS (b off : Nat) (o : OpD) (f : Nat → Int) (J : Nat → (Nat → Prop) → World → Prop) (A : Nat → Prop) (w : World) (c : Nat) (A' : Nat → Prop) (W : World) : Prop := J c A' W ∧ At b off o (stg f o c) W ∧ Ext (fun k => ¬ A k ∨ k = b) w W ∧ Rst b off w W
section
variable {P : Program} {gf : Nat} {lb : Array Value} {b off : Nat} {o : OpD} {f : Nat → Int} {J : Nat → (Nat → Prop) → World → Prop} {A A' : Nat → Prop} {w W : World} {c : Nat}
theorem IS.use (hU : UseOK P gf lb f (fld o) J) (hAb : A b) (hAA : ∀ k, A k → A' k) (h : IS b off o f J A w c A' W) (hc : c < 21) (h1 : c ≠ 10) (h2 : c ≠ 13) :
    Calls P gf (#[.pointer (some ⟨b, off + offC c, none⟩), .bool (dlt c)] ++ lb) W fun e W' => (∃ v, e = .returned v) ∧ IS b off o f J A w (c + 1) A' W' ∧ Ext (fun k => ¬ A' k ∨ k = b) W W' := by
  have hn := h.2.1.num c hc
  rw [stg_at] at hn
  have hf := h.2.1.free (offC c) (offC_lt hc)
  refine (hU c A' W b (off + offC c) hc h.1 hn hf (hAA b hAb)).mono ?_
  rintro e W' ⟨hv, hJ, hp, hq, hfz, hx, hsh⟩
  refine ⟨hv, ⟨hJ, ?_, h.2.2.1.andThen hx (fun i hi e => e.elim (fun e => .inl (fun ha => e (hAA i ha))) .inr), h.2.2.2.trans (Rst.of_shp hsh hq (by omega) (by have := offC_lt hc; omega))⟩, hx⟩
  have := h.2.1.put hc hp hq hfz
  rwa [stg_step f o h1 h2] at this
/-- A place of its own is used. -/
theorem IS.box {k : Nat} (hU : UseOK P gf lb f (fld o) J) (h : IS b off o f J A w c A' W) (hc : c = 10 ∨ c = 13) (hk : W.cell? ⟨k, 0, none⟩ = some (.int .i64 (fld o c))) (hf : W.frozen? ⟨k, 0, none⟩ = false) (hn : w.heap.size ≤ k) (hCk : A' k) (hb : b < w.heap.size) (hAb : A b) (hAA : ∀ k, A k → A' k) :
    Calls P gf (#[.pointer (some ⟨k, 0, none⟩), .bool (dlt c)] ++ lb) W fun e W' => (∃ v, e = .returned v) ∧ IS b off o f J A w (c + 1) A' W' ∧ W'.cell? ⟨k, 0, none⟩ = some (.int .i64 (f c)) ∧ W'.frozen? ⟨k, 0, none⟩ = false ∧ Ext (fun i => ¬ A' i ∨ i = k) W W' := by
  refine (hU c A' W k 0 (by omega) h.1 hk hf hCk).mono ?_
  rintro e W' ⟨hv, hJ, hp, hq, hfz, hx, hsh⟩
  refine ⟨hv, ⟨hJ, ?_, h.2.2.1.andThen hx (fun i hi e => e.elim (fun e => .inl (fun ha => e (hAA i ha))) (fun e => by omega)), h.2.2.2.trans (Rst.same (hx.block b h.2.1.lt (fun e => e.elim (fun e => e (hAA b hAb)) (fun e => by omega))))⟩, hp, (hfz 0).trans hf, hx⟩
  have := h.2.1.ext hx (fun e => e.elim (fun e => e (hAA b hAb)) (fun e => by omega))
  rwa [stg_skip f o hc] at this
theorem IS.step {W' : World} {A'' : Nat → Prop} (h : IS b off o f J A w c A' W) (hJ : JOK b J) (hb : A' b) (hA : ∀ k, A'' k → A' k ∨ (W.heap.size ≤ k ∧ k < W'.heap.size)) (hx : Ext (fun _ => False) W W') : IS b off o f J A w c A'' W' :=
  ⟨hJ _ _ _ _ _ h.1 (hx.mono (fun _ _ e => e.elim)) hA hb, h.2.1.ext hx id, h.2.2.1.andThen hx (fun i hi e => e.elim), h.2.2.2.trans (Rst.same (hx.block b h.2.1.lt id))⟩
end
def KF (b off : Nat) (o : OpD) (f : Nat → Int) (J : Nat → (Nat → Prop) → World → Prop) (A : Nat → Prop) (w : World) (k5 k6 c : Nat) (x5 x6 : Int) (A' : Nat → Prop) (W : World) : Prop := IS b off o f J A w c A' W ∧ W.cell? ⟨k5, 0, none⟩ = some (.int .i64 x5) ∧ W.frozen? ⟨k5, 0, none⟩ = false ∧ W.cell? ⟨k6, 0, none⟩ = some (.int .i64 x6) ∧ W.frozen? ⟨k6, 0, none⟩ = false
section
variable {b off : Nat} {o : OpD} {f : Nat → Int} {J : Nat → (Nat → Prop) → World → Prop} {A A' A'' : Nat → Prop} {w W W' : World} {k5 k6 c c' : Nat} {x5 x6 : Int} {S : Nat → Prop}
theorem KF.ext (h : KF b off o f J A w k5 k6 c x5 x6 A' W) (hi : IS b off o f J A w c' A'' W') (hx : Ext S W W') (h5 : ¬ S k5) (h6 : ¬ S k6) : KF b off o f J A w k5 k6 c' x5 x6 A'' W' :=
  ⟨hi, hx.keep h.2.1 h5, (hx.frozen (p := ⟨k5, 0, none⟩) (cell_lt h.2.1) h5).trans h.2.2.1, hx.keep h.2.2.2.1 h6, (hx.frozen (p := ⟨k6, 0, none⟩) (cell_lt h.2.2.2.1) h6).trans h.2.2.2.2⟩
theorem KF.step (h : KF b off o f J A w k5 k6 c x5 x6 A' W) (hJ : JOK b J) (hb : A' b) (hA : ∀ k, A'' k → A' k ∨ (W.heap.size ≤ k ∧ k < W'.heap.size)) (hx : Ext (fun _ => False) W W') : KF b off o f J A w k5 k6 c x5 x6 A'' W' :=
  h.ext (h.1.step hJ hb hA hx) hx id id
end
theorem cell_setCell_same8 {W : World} {b q : Nat} {v u : Value} (h : W.cell? ⟨b, q, none⟩ = some u) : (W.setCell ⟨b, q, none⟩ v).cell? ⟨b, q, none⟩ = some v := by
  go_simp
theorem cell_setCell_ne8 {W : World} {b q p : Nat} {v : Value} (h : p ≠ q) : (W.setCell ⟨b, q, none⟩ v).cell? ⟨b, p, none⟩ = W.cell? ⟨b, p, none⟩ := by
  go_simp
theorem At.num_eq {b off : Nat} {o : OpD} {g : Nat → Int} {W : World} (h : At b off o g W) (g' : Nat → Int) (he : ∀ c, c < 21 → g c = g' c) : At b off o g' W :=
  { h with num := fun c hc => by rw [← he c hc]; exact h.num c hc }
theorem stg_end (f : Nat → Int) (o : OpD) : ∀ c, c < 21 → (fun d => if d = 13 then f 13 else (fun d => if d = 10 then f 10 else stg f o 21 d) d) c = f c := by
  intro c hc
  dsimp only
  by_cases h1 : c = 13
  · rw [if_pos h1, h1]
  · rw [if_neg h1]
    by_cases h2 : c = 10
    · rw [if_pos h2, h2]
    · rw [if_neg h2]
      unfold stg
      rw [if_pos ⟨hc, h2, h1⟩]
theorem wpAnyS_any {P : Program} {ops : Array Oper} {Q : Exit → Act → World → Prop} {md : Region.Mode} {S : World → Prop} {Z : Nat → Bool} {rs : List Nat} {fuel : Nat} {listed : Array Bool} {a : Act} {w : World} (hr : Region.ready md ops listed = rs) (hne : rs ≠ [])
    (h : ∀ i ∈ rs, wpOp P ops Q i (fun a' w' => (Z i = false → S w') ∧ wpAnyS P md ops Q S Z fuel (listed.setIfInBounds i true) a' w') a w) : wpAnyS P md ops Q S Z (fuel + 1) listed a w :=
  ⟨fun h0 => absurd (hr.symm.trans h0) hne, fun j hj => by rw [hr] at hj; exact h j hj⟩
theorem wpOp_ran {P : Program} {ops : Array Oper} {Q : Exit → Act → World → Prop} {i : Nat} {o : Oper} {d : Option Tmp} {v : Value} {K : Act → World → Prop} {a : Act} {w w' : World} (ho : ops[i]? = some o) (hd : o.dst = d) (hw : Region.wanted o (yielded ops a.tmps) = true)
    (hv : (execOp a.eval o).run P w = .ok (.value v) w') (h : K (a.put d v) w') : wpOp P ops Q i K a w := by
  subst hd
  exact wpOp_step ho fun K' hK => by
    rw [if_pos hw, Oper.wp, hv]
    exact hK _ _ h

set_option maxRecDepth 20000 in
set_option maxHeartbeats 1000000 in
theorem ints_any {gf : Nat} {lb : Array Value} (hen : ∀ args w, (callFunc gf args).run Tryz.prog w = .ok (.enter gf args) w) (b off : Nat) (o : OpD) (f : Nat → Int) (J : Nat → (Nat → Prop) → World → Prop) (A : Nat → Prop) (w : World) (hU : UseOK Tryz.prog gf lb f (fld o) J)
    (hJ : JOK b J) (hAb : A b) (hA : At b off o (fld o) w) (h0 : J 0 A w) :
    Calls Tryz.prog 92 #[.pointer (some ⟨b, off, none⟩), .func (.func gf) #[] lb] w fun e w' => (∃ v, e = .returned v) ∧ J 21 A w' ∧ At b off o f w' ∧ Ext (fun k => ¬ A k ∨ k = b) w w' ∧ Rst b off w w' := by
  have hbw := hA.lt
  have HU := Lib.hid hU
  have HJ := Lib.hid hJ
  have hid8 : ∀ k, A k → A k := fun k h => h
  have HS : Hid (IS b off o f J A w 0 A w) := Lib.hid ⟨h0, by rw [stg_zero]; exact hA, Ext.refl _ _, Rst.refl _ _ _⟩
  clear hU hJ hA h0
  go_enter Tryz.func92, Tryz.ntmps92
  go_wp2_with fail
  refine (IS.use HU.out hAb hid8 HS.out (by omega) (by omega) (by omega)).mono ?_
  rintro e w1 ⟨⟨v1, rfl⟩, h1, -⟩
  have HS1 := Lib.hid h1
  clear h1 HS
  go_wp2_with fail
  refine (IS.use HU.out hAb hid8 HS1.out (by omega) (by omega) (by omega)).mono ?_
  rintro e w2 ⟨⟨v2, rfl⟩, h2, -⟩
  have HS2 := Lib.hid h2
  clear h2 HS1
  go_wp2_with fail
  go_loopg [21] 8 (fun g kv wx => ∃ k : Nat, g = 8 - k ∧ kv = .int .i64 k ∧ k ≤ 8 ∧ Hid (IS b off o f J A w (2 + k) A wx))
  case atStart => exact ⟨0, rfl, rfl, by omega, HS2⟩
  case round =>
    clear HS2
    obtain ⟨k, hg, rfl, hk, HS⟩ := hrel
    have HG := Lib.hid hg
    clear hg
    by_cases hlt : k < 8
    · have hk1 : (k : Int) < 8 := by omega
      have hc := IS.use HU.out hAb hid8 HS.out (c := 2 + k) (by omega) (by omega) (by omega)
      rw [show off + offC (2 + k) = off + 2 + k by unfold offC; rw [if_pos (by omega)]; omega, show dlt (2 + k) = true by unfold dlt; simp; omega] at hc
      have HC := Lib.hid hc
      clear hc
      go_wp2_with fail
      refine HC.out.mono ?_
      rintro e w3 ⟨⟨v3, rfl⟩, h3, -⟩
      have HS3 := Lib.hid h3
      clear h3 HC HS
      go_wp2_with fail
      go_roundg (8 - (k + 1))
      case measure => rw [HG.out]; omega
      case rel => exact ⟨k + 1, rfl, by simp, by omega, HS3⟩
    · obtain rfl : k = 8 := by omega
      have hk1 : ¬ (8 : Int) < 8 := by omega
      have HS10 : Hid (IS b off o f J A w 10 A wr) := HS
      clear hlt HS hk
      go_upto_region 7 with fail
      go_cut [5, 6] (fun pv qv wx => ∃ k5 k6 : Nat, pv = .pointer (some ⟨k5, 0, none⟩) ∧ qv = .pointer (some ⟨k6, 0, none⟩) ∧ w.heap.size ≤ k5 ∧ w.heap.size ≤ k6 ∧ k5 ≠ k6 ∧ Hid (IS b off o f J A w 10 (fun k => A k ∨ k = k5 ∨ k = k6) wx ∧ wx.cell? ⟨k5, 0, none⟩ = some (.int .i64 (fld o 10)) ∧ wx.frozen? ⟨k5, 0, none⟩ = false ∧ wx.cell? ⟨k6, 0, none⟩ = some (.int .i64 (fld o 13)) ∧ wx.frozen? ⟨k6, 0, none⟩ = false))
      case first => as_aux_lemma =>
        have hS0 : (fun W : World => W.cell? ⟨b, off + 10, none⟩ = some (.int .i64 (fld o 10)) ∧ W.cell? ⟨b, off + 13, none⟩ = some (.int .i64 (fld o 13))) wr.drew := ⟨by have := HS10.out.2.1.num 10 (by omega); exact this, by have := HS10.out.2.1.num 13 (by omega); exact this⟩
        have HS1 : Hid (IS b off o f J A w 10 A wr.drew) := Lib.hid (HS10.out.step HJ.out hAb (fun k h => .inl h) (Ext.refl _ _).drew)
        clear HS10
        refine wp_region_s (fun W : World => W.cell? ⟨b, off + 10, none⟩ = some (.int .i64 (fld o 10)) ∧ W.cell? ⟨b, off + 13, none⟩ = some (.int .i64 (fld o 13))) (fun _ => false) (by kernel_rfl) ?_
        generalize wr.drew = W1 at hS0 HS1 ⊢
        have hsz := HS1.out.2.2.1.size
        refine wpAnyS_take (i := 0) (d := some 32) rfl rfl rfl (by kernel_rfl) (by kernel_rfl) (by kernel_rfl) (by kernel_rfl) (fun _ _ _ h => h) (.inl ⟨by rfl, fun W hW => by obtain ⟨q0, q1⟩ := hW; go_simp; try rfl⟩) hS0 ?_
        try simp only [Act.put, List.setIfInBounds_toArray, List.set_cons_zero, List.set_cons_succ]
        refine wpAnyS_take (i := 1) (d := some 33) (v := .pointer (some ⟨b, off, none⟩)) rfl rfl rfl (by kernel_rfl) (by kernel_rfl) (by kernel_rfl) (by kernel_rfl) (fun _ _ _ h => h) (.inl ⟨by rfl, fun W hW => by obtain ⟨q0, q1⟩ := hW; go_simp; try rfl⟩) hS0 ?_
        try simp only [Act.put, List.setIfInBounds_toArray, List.set_cons_zero, List.set_cons_succ]
        refine wpAnyS_take (i := 2) (d := some 34) (v := .pointer (some ⟨b, off + 10, none⟩)) rfl rfl rfl (by kernel_rfl) (by kernel_rfl) (by kernel_rfl) (by kernel_rfl) (fun _ _ _ h => h) (.inl ⟨by rfl, fun W hW => by obtain ⟨q0, q1⟩ := hW; go_simp; try rfl⟩) hS0 ?_
        try simp only [Act.put, List.setIfInBounds_toArray, List.set_cons_zero, List.set_cons_succ]
        refine wpAnyS_take (i := 3) (d := some 35) (v := .int .i64 (fld o 10)) rfl rfl rfl (by kernel_rfl) (by kernel_rfl) (by kernel_rfl) (by kernel_rfl) (fun _ _ _ h => h) (.inl ⟨by rfl, fun W hW => by obtain ⟨q0, q1⟩ := hW; go_simp; try rfl⟩) hS0 ?_
        try simp only [Act.put, List.setIfInBounds_toArray, List.set_cons_zero, List.set_cons_succ]
        refine wpAnyS_take (i := 4) (d := some 36) rfl rfl rfl (by kernel_rfl) (by kernel_rfl) (by kernel_rfl) (by kernel_rfl) (fun _ _ _ h => h) (.inl ⟨by rfl, fun W hW => by obtain ⟨q0, q1⟩ := hW; go_simp; try rfl⟩) hS0 ?_
        try simp only [Act.put, List.setIfInBounds_toArray, List.set_cons_zero, List.set_cons_succ]
        refine wpAnyS_take (i := 5) (d := some 37) (v := .pointer (some ⟨b, off, none⟩)) rfl rfl rfl (by kernel_rfl) (by kernel_rfl) (by kernel_rfl) (by kernel_rfl) (fun _ _ _ h => h) (.inl ⟨by rfl, fun W hW => by obtain ⟨q0, q1⟩ := hW; go_simp; try rfl⟩) hS0 ?_
        try simp only [Act.put, List.setIfInBounds_toArray, List.set_cons_zero, List.set_cons_succ]
        refine wpAnyS_take (i := 6) (d := some 38) (v := .pointer (some ⟨b, off + 13, none⟩)) rfl rfl rfl (by kernel_rfl) (by kernel_rfl) (by kernel_rfl) (by kernel_rfl) (fun _ _ _ h => h) (.inl ⟨by rfl, fun W hW => by obtain ⟨q0, q1⟩ := hW; go_simp; try rfl⟩) hS0 ?_
        try simp only [Act.put, List.setIfInBounds_toArray, List.set_cons_zero, List.set_cons_succ]
        refine wpAnyS_take (i := 7) (d := some 39) (v := .int .i64 (fld o 13)) rfl rfl rfl (by kernel_rfl) (by kernel_rfl) (by kernel_rfl) (by kernel_rfl) (fun _ _ _ h => h) (.inl ⟨by rfl, fun W hW => by obtain ⟨q0, q1⟩ := hW; go_simp; try rfl⟩) hS0 ?_
        try simp only [Act.put, List.setIfInBounds_toArray, List.set_cons_zero, List.set_cons_succ]
        refine wpAnyS_any (rs := [8, 9]) (by kernel_rfl) (by simp) (fun i hi => ?_)
        simp only [List.mem_cons, List.not_mem_nil, or_false] at hi
        rcases hi with rfl | rfl
        · refine wpOp_ran (d := some 5) (v := .pointer (some ⟨W1.heap.size, 0, none⟩)) (w' := (W1.alloc (.cells #[.int .i64 0] 3))) rfl rfl (by rfl) (by go_simp; try rfl) ⟨fun _ => ⟨cell_alloc hS0.1 _, cell_alloc hS0.2 _⟩, ?_⟩
          try simp only [Act.put, List.setIfInBounds_toArray, List.set_cons_zero, List.set_cons_succ]
          refine wpAnyS_ran (i := 9) (d := some 6) (v := .pointer (some ⟨W1.heap.size + 1, 0, none⟩)) (w' := ((W1.alloc (.cells #[.int .i64 0] 3)).alloc (.cells #[.int .i64 0] 3))) (by kernel_rfl) rfl rfl (by rfl) (by go_simp; try rfl) (fun _ => ⟨cell_alloc (cell_alloc hS0.1 _) _, cell_alloc (cell_alloc hS0.2 _) _⟩) ?_
          try simp only [Act.put, List.setIfInBounds_toArray, List.set_cons_zero, List.set_cons_succ]
          have hS3 : (fun W : World => W.cell? ⟨b, off + 10, none⟩ = some (.int .i64 (fld o 10)) ∧ W.cell? ⟨b, off + 13, none⟩ = some (.int .i64 (fld o 13))) ((W1.alloc (.cells #[.int .i64 0] 3)).alloc (.cells #[.int .i64 0] 3)) := ⟨cell_alloc (cell_alloc hS0.1 _) _, cell_alloc (cell_alloc hS0.2 _) _⟩
          have HS3 : Hid (Ext (fun _ => False) W1 ((W1.alloc (.cells #[.int .i64 0] 3)).alloc (.cells #[.int .i64 0] 3))) := Lib.hid (((Ext.refl _ _).alloc _).alloc _)
          have z3 : ((W1.alloc (.cells #[.int .i64 0] 3)).alloc (.cells #[.int .i64 0] 3)).heap.size = W1.heap.size + 2 := by simp
          have e1 : ((W1.alloc (.cells #[.int .i64 0] 3)).alloc (.cells #[.int .i64 0] 3)).heap[W1.heap.size]? = some (.cells #[.int .i64 0] 3 (0, 0)) := (Below.heap_alloc _ _ _ (by simp)).trans (heap_new8 W1 _)
          have e2 : ((W1.alloc (.cells #[.int .i64 0] 3)).alloc (.cells #[.int .i64 0] 3)).heap[W1.heap.size + 1]? = some (.cells #[.int .i64 0] 3 (0, 0)) := by have := heap_new8 (W1.alloc (.cells #[.int .i64 0] 3)) (.cells #[.int .i64 0] 3); rwa [World.size_alloc] at this
          generalize ((W1.alloc (.cells #[.int .i64 0] 3)).alloc (.cells #[.int .i64 0] 3)) = W3 at hS3 HS3 z3 e1 e2 ⊢
          clear hS0
          have hb1 : b < W1.heap.size := by omega
          obtain ⟨k1, hk1⟩ : ∃ k1, k1 = W1.heap.size := ⟨_, rfl⟩
          have HK1 := Lib.hid hk1
          rw [← hk1] at e1 e2 z3 hb1 hsz ⊢
          clear hk1
          have c5 := cell_of_one e1
          have f5 := free_of_one e1
          have x5 : Ext (· = k1) W3 (W3.setCell ⟨k1, 0, none⟩ (.int .i64 (fld o 10))) := (Ext.refl (· = k1) W3).setCell (p := ⟨k1, 0, none⟩) (.inr rfl) _
          have hS4 : (fun W : World => W.cell? ⟨b, off + 10, none⟩ = some (.int .i64 (fld o 10)) ∧ W.cell? ⟨b, off + 13, none⟩ = some (.int .i64 (fld o 13))) (W3.setCell ⟨k1, 0, none⟩ (.int .i64 (fld o 10))) := ⟨x5.keep hS3.1 (by omega), x5.keep hS3.2 (by omega)⟩
          refine wpAnyS_mute (i := 10) (d := none) (w' := W3.setCell ⟨k1, 0, none⟩ (.int .i64 (fld o 10))) (by kernel_rfl) rfl rfl (by rfl) (by go_simp; try rfl) (fun _ => hS4) ?_
          try simp only [Act.put, List.setIfInBounds_toArray, List.set_cons_zero, List.set_cons_succ]
          have HS4 : Hid (Ext (fun _ => False) W1 (W3.setCell ⟨k1, 0, none⟩ (.int .i64 (fld o 10)))) := Lib.hid (HS3.out.setCell (p := ⟨k1, 0, none⟩) (.inl (by have := HK1.out; show W1.heap.size ≤ k1; omega)) _)
          have g5 := one_setCell (u := .int .i64 (fld o 10)) e1
          have g6 : (W3.setCell ⟨k1, 0, none⟩ (.int .i64 (fld o 10))).heap[k1 + 1]? = some (.cells #[.int .i64 0] 3 (0, 0)) := (x5.block _ (by omega) (by omega)).trans e2
          have z4 : (W3.setCell ⟨k1, 0, none⟩ (.int .i64 (fld o 10))).heap.size = W3.heap.size := World.size_setCell _ _ _
          generalize W3.setCell ⟨k1, 0, none⟩ (.int .i64 (fld o 10)) = W4 at hS4 HS4 g5 g6 z4 ⊢
          clear hS3 HS3 e1 e2 c5 f5 x5
          have c6 := cell_of_one g6
          have f6 := free_of_one g6
          have x6 : Ext (· = k1 + 1) W4 (W4.setCell ⟨k1 + 1, 0, none⟩ (.int .i64 (fld o 13))) := (Ext.refl (· = k1 + 1) W4).setCell (p := ⟨k1 + 1, 0, none⟩) (.inr rfl) _
          have hS5 : (fun W : World => W.cell? ⟨b, off + 10, none⟩ = some (.int .i64 (fld o 10)) ∧ W.cell? ⟨b, off + 13, none⟩ = some (.int .i64 (fld o 13))) (W4.setCell ⟨k1 + 1, 0, none⟩ (.int .i64 (fld o 13))) := ⟨x6.keep hS4.1 (by omega), x6.keep hS4.2 (by omega)⟩
          refine wpAnyS_mute (i := 11) (d := none) (w' := W4.setCell ⟨k1 + 1, 0, none⟩ (.int .i64 (fld o 13))) (by kernel_rfl) rfl rfl (by rfl) (by go_simp; try rfl) (fun _ => hS5) ?_
          try simp only [Act.put, List.setIfInBounds_toArray, List.set_cons_zero, List.set_cons_succ]
          refine wpAnyS_done (by kernel_rfl) ?_ _
          have HS5 : Hid (IS b off o f J A w 10 (fun k => A k ∨ k = k1 ∨ k = k1 + 1) (W4.setCell ⟨k1 + 1, 0, none⟩ (.int .i64 (fld o 13)))) := Lib.hid (HS1.out.step HJ.out hAb (fun k h => h.elim .inl (fun e => .inr (by have h1 := HK1.out; have h2 := World.size_setCell W4 ⟨k1 + 1, 0, none⟩ (.int .i64 (fld o 13)); constructor <;> omega))) (HS4.out.setCell (p := ⟨k1 + 1, 0, none⟩) (.inl (by have := HK1.out; show W1.heap.size ≤ k1 + 1; omega)) _))
          have g7 := one_setCell (u := .int .i64 (fld o 13)) g6
          have g8 : (W4.setCell ⟨k1 + 1, 0, none⟩ (.int .i64 (fld o 13))).heap[k1]? = some (.cells #[.int .i64 (fld o 10)] 3 (0, 0)) := (x6.block _ (by have := (Array.getElem?_eq_some_iff.1 g5).1; omega) (by omega)).trans g5
          have HFIN : Hid (IS b off o f J A w 10 (fun k => A k ∨ k = k1 ∨ k = k1 + 1) (W4.setCell ⟨k1 + 1, 0, none⟩ (.int .i64 (fld o 13))) ∧ _ ∧ _ ∧ _ ∧ _) := Lib.hid ⟨HS5.out, cell_of_one g8, free_of_one g8, cell_of_one g7, free_of_one g7⟩
          clear hS4 hS5 HS4 HS5 g5 g6 g7 g8 c6 f6 x6
          go_wp2_with fail
          go_meet
          case rel => exact ⟨k1, k1 + 1, rfl, rfl, by omega, by omega, by omega, HFIN⟩
        · refine wpOp_ran (d := some 6) (v := .pointer (some ⟨W1.heap.size, 0, none⟩)) (w' := (W1.alloc (.cells #[.int .i64 0] 3))) rfl rfl (by rfl) (by go_simp; try rfl) ⟨fun _ => ⟨cell_alloc hS0.1 _, cell_alloc hS0.2 _⟩, ?_⟩
          try simp only [Act.put, List.setIfInBounds_toArray, List.set_cons_zero, List.set_cons_succ]
          refine wpAnyS_ran (i := 8) (d := some 5) (v := .pointer (some ⟨W1.heap.size + 1, 0, none⟩)) (w' := ((W1.alloc (.cells #[.int .i64 0] 3)).alloc (.cells #[.int .i64 0] 3))) (by kernel_rfl) rfl rfl (by rfl) (by go_simp; try rfl) (fun _ => ⟨cell_alloc (cell_alloc hS0.1 _) _, cell_alloc (cell_alloc hS0.2 _) _⟩) ?_
          try simp only [Act.put, List.setIfInBounds_toArray, List.set_cons_zero, List.set_cons_succ]
          have hS3 : (fun W : World => W.cell? ⟨b, off + 10, none⟩ = some (.int .i64 (fld o 10)) ∧ W.cell? ⟨b, off + 13, none⟩ = some (.int .i64 (fld o 13))) ((W1.alloc (.cells #[.int .i64 0] 3)).alloc (.cells #[.int .i64 0] 3)) := ⟨cell_alloc (cell_alloc hS0.1 _) _, cell_alloc (cell_alloc hS0.2 _) _⟩
          have HS3 : Hid (Ext (fun _ => False) W1 ((W1.alloc (.cells #[.int .i64 0] 3)).alloc (.cells #[.int .i64 0] 3))) := Lib.hid (((Ext.refl _ _).alloc _).alloc _)
          have z3 : ((W1.alloc (.cells #[.int .i64 0] 3)).alloc (.cells #[.int .i64 0] 3)).heap.size = W1.heap.size + 2 := by simp
          have e1 : ((W1.alloc (.cells #[.int .i64 0] 3)).alloc (.cells #[.int .i64 0] 3)).heap[W1.heap.size]? = some (.cells #[.int .i64 0] 3 (0, 0)) := (Below.heap_alloc _ _ _ (by simp)).trans (heap_new8 W1 _)
          have e2 : ((W1.alloc (.cells #[.int .i64 0] 3)).alloc (.cells #[.int .i64 0] 3)).heap[W1.heap.size + 1]? = some (.cells #[.int .i64 0] 3 (0, 0)) := by have := heap_new8 (W1.alloc (.cells #[.int .i64 0] 3)) (.cells #[.int .i64 0] 3); rwa [World.size_alloc] at this
          generalize ((W1.alloc (.cells #[.int .i64 0] 3)).alloc (.cells #[.int .i64 0] 3)) = W3 at hS3 HS3 z3 e1 e2 ⊢
          clear hS0
          have hb1 : b < W1.heap.size := by omega
          obtain ⟨k1, hk1⟩ : ∃ k1, k1 = W1.heap.size := ⟨_, rfl⟩
          have HK1 := Lib.hid hk1
          rw [← hk1] at e1 e2 z3 hb1 hsz ⊢
          clear hk1
          have c5 := cell_of_one e2
          have f5 := free_of_one e2
          have x5 : Ext (· = k1 + 1) W3 (W3.setCell ⟨k1 + 1, 0, none⟩ (.int .i64 (fld o 10))) := (Ext.refl (· = k1 + 1) W3).setCell (p := ⟨k1 + 1, 0, none⟩) (.inr rfl) _
          have hS4 : (fun W : World => W.cell? ⟨b, off + 10, none⟩ = some (.int .i64 (fld o 10)) ∧ W.cell? ⟨b, off + 13, none⟩ = some (.int .i64 (fld o 13))) (W3.setCell ⟨k1 + 1, 0, none⟩ (.int .i64 (fld o 10))) := ⟨x5.keep hS3.1 (by omega), x5.keep hS3.2 (by omega)⟩
          refine wpAnyS_mute (i := 10) (d := none) (w' := W3.setCell ⟨k1 + 1, 0, none⟩ (.int .i64 (fld o 10))) (by kernel_rfl) rfl rfl (by rfl) (by go_simp; try rfl) (fun _ => hS4) ?_
          try simp only [Act.put, List.setIfInBounds_toArray, List.set_cons_zero, List.set_cons_succ]
          have HS4 : Hid (Ext (fun _ => False) W1 (W3.setCell ⟨k1 + 1, 0, none⟩ (.int .i64 (fld o 10)))) := Lib.hid (HS3.out.setCell (p := ⟨k1 + 1, 0, none⟩) (.inl (by have := HK1.out; show W1.heap.size ≤ k1 + 1; omega)) _)
          have g5 := one_setCell (u := .int .i64 (fld o 10)) e2
          have g6 : (W3.setCell ⟨k1 + 1, 0, none⟩ (.int .i64 (fld o 10))).heap[k1]? = some (.cells #[.int .i64 0] 3 (0, 0)) := (x5.block _ (by omega) (by omega)).trans e1
          have z4 : (W3.setCell ⟨k1 + 1, 0, none⟩ (.int .i64 (fld o 10))).heap.size = W3.heap.size := World.size_setCell _ _ _
          generalize W3.setCell ⟨k1 + 1, 0, none⟩ (.int .i64 (fld o 10)) = W4 at hS4 HS4 g5 g6 z4 ⊢
          clear hS3 HS3 e1 e2 c5 f5 x5
          have c6 := cell_of_one g6
          have f6 := free_of_one g6
          have x6 : Ext (· = k1) W4 (W4.setCell ⟨k1, 0, none⟩ (.int .i64 (fld o 13))) := (Ext.refl (· = k1) W4).setCell (p := ⟨k1, 0, none⟩) (.inr rfl) _
          have hS5 : (fun W : World => W.cell? ⟨b, off + 10, none⟩ = some (.int .i64 (fld o 10)) ∧ W.cell? ⟨b, off + 13, none⟩ = some (.int .i64 (fld o 13))) (W4.setCell ⟨k1, 0, none⟩ (.int .i64 (fld o 13))) := ⟨x6.keep hS4.1 (by omega), x6.keep hS4.2 (by omega)⟩
          refine wpAnyS_mute (i := 11) (d := none) (w' := W4.setCell ⟨k1, 0, none⟩ (.int .i64 (fld o 13))) (by kernel_rfl) rfl rfl (by rfl) (by go_simp; try rfl) (fun _ => hS5) ?_
          try simp only [Act.put, List.setIfInBounds_toArray, List.set_cons_zero, List.set_cons_succ]
          refine wpAnyS_done (by kernel_rfl) ?_ _
          have HS5 : Hid (IS b off o f J A w 10 (fun k => A k ∨ k = k1 + 1 ∨ k = k1) (W4.setCell ⟨k1, 0, none⟩ (.int .i64 (fld o 13)))) := Lib.hid (HS1.out.step HJ.out hAb (fun k h => h.elim .inl (fun e => .inr (by have h1 := HK1.out; have h2 := World.size_setCell W4 ⟨k1, 0, none⟩ (.int .i64 (fld o 13)); constructor <;> omega))) (HS4.out.setCell (p := ⟨k1, 0, none⟩) (.inl (by have := HK1.out; show W1.heap.size ≤ k1; omega)) _))
          have g7 := one_setCell (u := .int .i64 (fld o 13)) g6
          have g8 : (W4.setCell ⟨k1, 0, none⟩ (.int .i64 (fld o 13))).heap[k1 + 1]? = some (.cells #[.int .i64 (fld o 10)] 3 (0, 0)) := (x6.block _ (by have := (Array.getElem?_eq_some_iff.1 g5).1; omega) (by omega)).trans g5
          have HFIN : Hid (IS b off o f J A w 10 (fun k => A k ∨ k = k1 + 1 ∨ k = k1) (W4.setCell ⟨k1, 0, none⟩ (.int .i64 (fld o 13))) ∧ _ ∧ _ ∧ _ ∧ _) := Lib.hid ⟨HS5.out, cell_of_one g8, free_of_one g8, cell_of_one g7, free_of_one g7⟩
          clear hS4 hS5 HS4 HS5 g5 g6 g7 g8 c6 f6 x6
          go_wp2_with fail
          go_meet
          case rel => exact ⟨k1 + 1, k1, rfl, rfl, by omega, by omega, by omega, HFIN⟩
      case rest =>
        obtain ⟨k5, k6, rfl, rfl, hk5, hk6, hk56, HF⟩ := hcut
        clear HS10
        have hAA : ∀ k, A k → (A k ∨ k = k5 ∨ k = k6) := fun k h => .inl h
        go_wp2_with fail
        refine (IS.box HU.out HF.out.1 (.inl rfl) HF.out.2.1 HF.out.2.2.1 hk5 (.inr (.inl rfl)) hbw hAb hAA).mono ?_
        rintro e w4 ⟨⟨vv, rfl⟩, h4, hp4, hf4, hx4⟩
        have hno : ¬ (¬ (A k6 ∨ k6 = k5 ∨ k6 = k6) ∨ k6 = k5) := fun h => h.elim (fun h => h (.inr (.inr rfl))) (fun e => by omega)
        have HF4 : Hid (KF b off o f J A w k5 k6 11 (f 10) (fld o 13) (fun k => A k ∨ k = k5 ∨ k = k6) w4) := Lib.hid ⟨h4, hp4, hf4, hx4.keep HF.out.2.2.2.1 hno, (hx4.frozen (p := ⟨k6, 0, none⟩) (cell_lt HF.out.2.2.2.1) hno).trans HF.out.2.2.2.2⟩
        clear h4 hp4 hf4 hx4 hno HF
        go_wp2_with fail
        refine (IS.use HU.out hAb hAA HF4.out.1 (by omega) (by omega) (by omega)).mono ?_
        rintro e w5 ⟨⟨vv, rfl⟩, h4, hx4⟩
        have HF5 : Hid (KF b off o f J A w k5 k6 12 (f 10) (fld o 13) (fun k => A k ∨ k = k5 ∨ k = k6) w5) := Lib.hid (KF.ext HF4.out h4 hx4 (fun h => h.elim (fun h => h (.inr (.inl rfl))) (fun e => by omega)) (fun h => h.elim (fun h => h (.inr (.inr rfl))) (fun e => by omega)))
        clear h4 hx4 HF4
        go_wp2_with fail
        refine (IS.use HU.out hAb hAA HF5.out.1 (by omega) (by omega) (by omega)).mono ?_
        rintro e w6 ⟨⟨vv, rfl⟩, h4, hx4⟩
        have HF6 : Hid (KF b off o f J A w k5 k6 13 (f 10) (fld o 13) (fun k => A k ∨ k = k5 ∨ k = k6) w6) := Lib.hid (KF.ext HF5.out h4 hx4 (fun h => h.elim (fun h => h (.inr (.inl rfl))) (fun e => by omega)) (fun h => h.elim (fun h => h (.inr (.inr rfl))) (fun e => by omega)))
        clear h4 hx4 HF5
        go_wp2_with fail
        refine (IS.box HU.out HF6.out.1 (.inr rfl) HF6.out.2.2.2.1 HF6.out.2.2.2.2 hk6 (.inr (.inr rfl)) hbw hAb hAA).mono ?_
        rintro e w7 ⟨⟨vv, rfl⟩, h4, hp4, hf4, hx4⟩
        have hno : ¬ (¬ (A k5 ∨ k5 = k5 ∨ k5 = k6) ∨ k5 = k6) := fun h => h.elim (fun h => h (.inr (.inl rfl))) (fun e => by omega)
        have HF7 : Hid (KF b off o f J A w k5 k6 14 (f 10) (f 13) (fun k => A k ∨ k = k5 ∨ k = k6) w7) := Lib.hid ⟨h4, hx4.keep HF6.out.2.1 hno, (hx4.frozen (p := ⟨k5, 0, none⟩) (cell_lt HF6.out.2.1) hno).trans HF6.out.2.2.1, hp4, hf4⟩
        clear h4 hp4 hf4 hx4 hno HF6
        go_upto_region 12 with fail
        have HF8 : Hid (KF b off o f J A w k5 k6 14 (f 10) (f 13) (fun k => A k ∨ k = k5 ∨ k = k6) w7.drew) := Lib.hid (KF.step HF7.out HJ.out (hAA b hAb) (fun k h => .inl h) (Ext.refl _ _).drew)
        clear HF7
        have hS0 : (fun _ : World => True) w7.drew := trivial
        refine wp_region_s (fun _ => True) (fun _ => false) (by kernel_rfl) ?_
        generalize w7.drew = W1 at hS0 HF8 ⊢
        refine wpAnyS_take (i := 0) (d := some 56) rfl rfl rfl (by kernel_rfl) (by kernel_rfl) (by kernel_rfl) (by kernel_rfl) (fun _ _ _ h => h) (.inl ⟨by rfl, fun W hW => by go_simp; try rfl⟩) hS0 ?_
        try simp only [Act.put, List.setIfInBounds_toArray, List.set_cons_zero, List.set_cons_succ]
        refine wpAnyS_take (i := 1) (d := some 57) (v := .pointer (some ⟨b, off, none⟩)) rfl rfl rfl (by kernel_rfl) (by kernel_rfl) (by kernel_rfl) (by kernel_rfl) (fun _ _ _ h => h) (.inl ⟨by rfl, fun W hW => by go_simp; try rfl⟩) hS0 ?_
        try simp only [Act.put, List.setIfInBounds_toArray, List.set_cons_zero, List.set_cons_succ]
        refine wpAnyS_take (i := 2) (d := some 58) (v := .pointer (some ⟨b, off + 14, none⟩)) rfl rfl rfl (by kernel_rfl) (by kernel_rfl) (by kernel_rfl) (by kernel_rfl) (fun _ _ _ h => h) (.inl ⟨by rfl, fun W hW => by go_simp; try rfl⟩) hS0 ?_
        try simp only [Act.put, List.setIfInBounds_toArray, List.set_cons_zero, List.set_cons_succ]
        refine wpAnyS_take (i := 3) (d := some 59) rfl rfl rfl (by kernel_rfl) (by kernel_rfl) (by kernel_rfl) (by kernel_rfl) (fun _ _ _ h => h) (.inl ⟨by rfl, fun W hW => by go_simp; try rfl⟩) hS0 ?_
        try simp only [Act.put, List.setIfInBounds_toArray, List.set_cons_zero, List.set_cons_succ]
        refine wpAnyS_take (i := 4) (d := some 60) (v := .pointer (some ⟨b, off, none⟩)) rfl rfl rfl (by kernel_rfl) (by kernel_rfl) (by kernel_rfl) (by kernel_rfl) (fun _ _ _ h => h) (.inl ⟨by rfl, fun W hW => by go_simp; try rfl⟩) hS0 ?_
        try simp only [Act.put, List.setIfInBounds_toArray, List.set_cons_zero, List.set_cons_succ]
        refine wpAnyS_take (i := 5) (d := some 61) (v := .pointer (some ⟨b, off + 15, none⟩)) rfl rfl rfl (by kernel_rfl) (by kernel_rfl) (by kernel_rfl) (by kernel_rfl) (fun _ _ _ h => h) (.inl ⟨by rfl, fun W hW => by go_simp; try rfl⟩) hS0 ?_
        try simp only [Act.put, List.setIfInBounds_toArray, List.set_cons_zero, List.set_cons_succ]
        refine wpAnyS_take (i := 6) (d := some 62) (v := .pointer (some ⟨b, off + 15, none⟩)) rfl rfl rfl (by kernel_rfl) (by kernel_rfl) (by kernel_rfl) (by kernel_rfl) (fun _ _ _ h => h) (.inl ⟨by rfl, fun W hW => by go_simp; try rfl⟩) hS0 ?_
        try simp only [Act.put, List.setIfInBounds_toArray, List.set_cons_zero, List.set_cons_succ]
        refine wpAnyS_take (i := 7) (d := some 63) rfl rfl rfl (by kernel_rfl) (by kernel_rfl) (by kernel_rfl) (by kernel_rfl) (fun _ _ _ h => h) (.inl ⟨by rfl, fun W hW => by go_simp; try rfl⟩) hS0 ?_
        try simp only [Act.put, List.setIfInBounds_toArray, List.set_cons_zero, List.set_cons_succ]
        refine wpAnyS_take (i := 8) (d := some 64) (v := .pointer (some ⟨b, off, none⟩)) rfl rfl rfl (by kernel_rfl) (by kernel_rfl) (by kernel_rfl) (by kernel_rfl) (fun _ _ _ h => h) (.inl ⟨by rfl, fun W hW => by go_simp; try rfl⟩) hS0 ?_
        try simp only [Act.put, List.setIfInBounds_toArray, List.set_cons_zero, List.set_cons_succ]
        refine wpAnyS_take (i := 9) (d := some 65) (v := .pointer (some ⟨b, off + 15, none⟩)) rfl rfl rfl (by kernel_rfl) (by kernel_rfl) (by kernel_rfl) (by kernel_rfl) (fun _ _ _ h => h) (.inl ⟨by rfl, fun W hW => by go_simp; try rfl⟩) hS0 ?_
        try simp only [Act.put, List.setIfInBounds_toArray, List.set_cons_zero, List.set_cons_succ]
        refine wpAnyS_take (i := 10) (d := some 66) (v := .pointer (some ⟨b, off + 16, none⟩)) rfl rfl rfl (by kernel_rfl) (by kernel_rfl) (by kernel_rfl) (by kernel_rfl) (fun _ _ _ h => h) (.inl ⟨by rfl, fun W hW => by go_simp; try rfl⟩) hS0 ?_
        try simp only [Act.put, List.setIfInBounds_toArray, List.set_cons_zero, List.set_cons_succ]
        refine wpAnyS_take (i := 11) (d := some 67) rfl rfl rfl (by kernel_rfl) (by kernel_rfl) (by kernel_rfl) (by kernel_rfl) (fun _ _ _ h => h) (.inl ⟨by rfl, fun W hW => by go_simp; try rfl⟩) hS0 ?_
        try simp only [Act.put, List.setIfInBounds_toArray, List.set_cons_zero, List.set_cons_succ]
        refine wpAnyS_take (i := 12) (d := some 68) (v := .pointer (some ⟨b, off, none⟩)) rfl rfl rfl (by kernel_rfl) (by kernel_rfl) (by kernel_rfl) (by kernel_rfl) (fun _ _ _ h => h) (.inl ⟨by rfl, fun W hW => by go_simp; try rfl⟩) hS0 ?_
        try simp only [Act.put, List.setIfInBounds_toArray, List.set_cons_zero, List.set_cons_succ]
        refine wpAnyS_take (i := 13) (d := some 69) (v := .pointer (some ⟨b, off + 20, none⟩)) rfl rfl rfl (by kernel_rfl) (by kernel_rfl) (by kernel_rfl) (by kernel_rfl) (fun _ _ _ h => h) (.inl ⟨by rfl, fun W hW => by go_simp; try rfl⟩) hS0 ?_
        try simp only [Act.put, List.setIfInBounds_toArray, List.set_cons_zero, List.set_cons_succ]
        refine wpAnyS_take (i := 14) (d := some 70) (v := .pointer (some ⟨b, off + 20, none⟩)) rfl rfl rfl (by kernel_rfl) (by kernel_rfl) (by kernel_rfl) (by kernel_rfl) (fun _ _ _ h => h) (.inl ⟨by rfl, fun W hW => by go_simp; try rfl⟩) hS0 ?_
        try simp only [Act.put, List.setIfInBounds_toArray, List.set_cons_zero, List.set_cons_succ]
        refine wpAnyS_take (i := 15) (d := some 71) (v := .pointer (some ⟨b, off + 20, none⟩)) rfl rfl rfl (by kernel_rfl) (by kernel_rfl) (by kernel_rfl) (by kernel_rfl) (fun _ _ _ h => h) (.inl ⟨by rfl, fun W hW => by go_simp; try rfl⟩) hS0 ?_
        try simp only [Act.put, List.setIfInBounds_toArray, List.set_cons_zero, List.set_cons_succ]
        refine wpAnyS_take (i := 16) (d := some 72) rfl rfl rfl (by kernel_rfl) (by kernel_rfl) (by kernel_rfl) (by kernel_rfl) (fun _ _ _ h => h) (.inl ⟨by rfl, fun W hW => by go_simp; try rfl⟩) hS0 ?_
        try simp only [Act.put, List.setIfInBounds_toArray, List.set_cons_zero, List.set_cons_succ]
        refine wpAnyS_take (i := 17) (d := some 73) (v := .pointer (some ⟨b, off, none⟩)) rfl rfl rfl (by kernel_rfl) (by kernel_rfl) (by kernel_rfl) (by kernel_rfl) (fun _ _ _ h => h) (.inl ⟨by rfl, fun W hW => by go_simp; try rfl⟩) hS0 ?_
        try simp only [Act.put, List.setIfInBounds_toArray, List.set_cons_zero, List.set_cons_succ]
        refine wpAnyS_take (i := 18) (d := some 74) (v := .pointer (some ⟨b, off + 20, none⟩)) rfl rfl rfl (by kernel_rfl) (by kernel_rfl) (by kernel_rfl) (by kernel_rfl) (fun _ _ _ h => h) (.inl ⟨by rfl, fun W hW => by go_simp; try rfl⟩) hS0 ?_
        try simp only [Act.put, List.setIfInBounds_toArray, List.set_cons_zero, List.set_cons_succ]
        refine wpAnyS_take (i := 19) (d := some 75) (v := .pointer (some ⟨b, off + 20, none⟩)) rfl rfl rfl (by kernel_rfl) (by kernel_rfl) (by kernel_rfl) (by kernel_rfl) (fun _ _ _ h => h) (.inl ⟨by rfl, fun W hW => by go_simp; try rfl⟩) hS0 ?_
        try simp only [Act.put, List.setIfInBounds_toArray, List.set_cons_zero, List.set_cons_succ]
        refine wpAnyS_take (i := 20) (d := some 76) (v := .pointer (some ⟨b, off + 21, none⟩)) rfl rfl rfl (by kernel_rfl) (by kernel_rfl) (by kernel_rfl) (by kernel_rfl) (fun _ _ _ h => h) (.inl ⟨by rfl, fun W hW => by go_simp; try rfl⟩) hS0 ?_
        try simp only [Act.put, List.setIfInBounds_toArray, List.set_cons_zero, List.set_cons_succ]
        refine wpAnyS_take (i := 21) (d := some 77) rfl rfl rfl (by kernel_rfl) (by kernel_rfl) (by kernel_rfl) (by kernel_rfl) (fun _ _ _ h => h) (.inl ⟨by rfl, fun W hW => by go_simp; try rfl⟩) hS0 ?_
        try simp only [Act.put, List.setIfInBounds_toArray, List.set_cons_zero, List.set_cons_succ]
        refine wpAnyS_take (i := 22) (d := some 78) (v := .pointer (some ⟨b, off, none⟩)) rfl rfl rfl (by kernel_rfl) (by kernel_rfl) (by kernel_rfl) (by kernel_rfl) (fun _ _ _ h => h) (.inl ⟨by rfl, fun W hW => by go_simp; try rfl⟩) hS0 ?_
        try simp only [Act.put, List.setIfInBounds_toArray, List.set_cons_zero, List.set_cons_succ]
        refine wpAnyS_take (i := 23) (d := some 79) (v := .pointer (some ⟨b, off + 23, none⟩)) rfl rfl rfl (by kernel_rfl) (by kernel_rfl) (by kernel_rfl) (by kernel_rfl) (fun _ _ _ h => h) (.inl ⟨by rfl, fun W hW => by go_simp; try rfl⟩) hS0 ?_
        try simp only [Act.put, List.setIfInBounds_toArray, List.set_cons_zero, List.set_cons_succ]
        refine wpAnyS_take (i := 24) (d := some 80) (v := .pointer (some ⟨b, off + 23, none⟩)) rfl rfl rfl (by kernel_rfl) (by kernel_rfl) (by kernel_rfl) (by kernel_rfl) (fun _ _ _ h => h) (.inl ⟨by rfl, fun W hW => by go_simp; try rfl⟩) hS0 ?_
        try simp only [Act.put, List.setIfInBounds_toArray, List.set_cons_zero, List.set_cons_succ]
        refine wpAnyS_take (i := 25) (d := some 81) (v := .pointer (some ⟨b, off + 23, none⟩)) rfl rfl rfl (by kernel_rfl) (by kernel_rfl) (by kernel_rfl) (by kernel_rfl) (fun _ _ _ h => h) (.inl ⟨by rfl, fun W hW => by go_simp; try rfl⟩) hS0 ?_
        try simp only [Act.put, List.setIfInBounds_toArray, List.set_cons_zero, List.set_cons_succ]
        refine wpAnyS_take (i := 26) (d := some 82) rfl rfl rfl (by kernel_rfl) (by kernel_rfl) (by kernel_rfl) (by kernel_rfl) (fun _ _ _ h => h) (.inl ⟨by rfl, fun W hW => by go_simp; try rfl⟩) hS0 ?_
        try simp only [Act.put, List.setIfInBounds_toArray, List.set_cons_zero, List.set_cons_succ]
        refine wpAnyS_take (i := 27) (d := some 83) (v := .pointer (some ⟨b, off, none⟩)) rfl rfl rfl (by kernel_rfl) (by kernel_rfl) (by kernel_rfl) (by kernel_rfl) (fun _ _ _ h => h) (.inl ⟨by rfl, fun W hW => by go_simp; try rfl⟩) hS0 ?_
        try simp only [Act.put, List.setIfInBounds_toArray, List.set_cons_zero, List.set_cons_succ]
        refine wpAnyS_take (i := 28) (d := some 84) (v := .pointer (some ⟨b, off + 23, none⟩)) rfl rfl rfl (by kernel_rfl) (by kernel_rfl) (by kernel_rfl) (by kernel_rfl) (fun _ _ _ h => h) (.inl ⟨by rfl, fun W hW => by go_simp; try rfl⟩) hS0 ?_
        try simp only [Act.put, List.setIfInBounds_toArray, List.set_cons_zero, List.set_cons_succ]
        refine wpAnyS_take (i := 29) (d := some 85) (v := .pointer (some ⟨b, off + 23, none⟩)) rfl rfl rfl (by kernel_rfl) (by kernel_rfl) (by kernel_rfl) (by kernel_rfl) (fun _ _ _ h => h) (.inl ⟨by rfl, fun W hW => by go_simp; try rfl⟩) hS0 ?_
        try simp only [Act.put, List.setIfInBounds_toArray, List.set_cons_zero, List.set_cons_succ]
        refine wpAnyS_take (i := 30) (d := some 86) (v := .pointer (some ⟨b, off + 24, none⟩)) rfl rfl rfl (by kernel_rfl) (by kernel_rfl) (by kernel_rfl) (by kernel_rfl) (fun _ _ _ h => h) (.inl ⟨by rfl, fun W hW => by go_simp; try rfl⟩) hS0 ?_
        try simp only [Act.put, List.setIfInBounds_toArray, List.set_cons_zero, List.set_cons_succ]
        refine wpAnyS_take (i := 33) (d := some 89) (v := .int .i64 0) rfl rfl rfl (by kernel_rfl) (by kernel_rfl) (by kernel_rfl) (by kernel_rfl) (fun _ _ _ h => h) (.inl ⟨by rfl, fun W hW => by go_simp; try rfl⟩) hS0 ?_
        try simp only [Act.put, List.setIfInBounds_toArray, List.set_cons_zero, List.set_cons_succ]
        refine wpAnyS_ran (i := 31) (d := some 87) (v := .slice (some ⟨W1.heap.size, 0, none⟩) 7 7) (w' := W1.alloc (.cells #[.pointer (some ⟨b, off + 14, none⟩), .pointer (some ⟨b, off + 15, none⟩), .pointer (some ⟨b, off + 16, none⟩), .pointer (some ⟨b, off + 20, none⟩), .pointer (some ⟨b, off + 21, none⟩), .pointer (some ⟨b, off + 23, none⟩), .pointer (some ⟨b, off + 24, none⟩)] 164)) (by kernel_rfl) rfl rfl (by rfl) (by go_simp; try rfl) (fun _ => trivial) ?_
        try simp only [Act.put, List.setIfInBounds_toArray, List.set_cons_zero, List.set_cons_succ]
        have HF9 : Hid (KF b off o f J A w k5 k6 14 (f 10) (f 13) (fun k => (A k ∨ k = k5 ∨ k = k6) ∨ k = W1.heap.size) (W1.alloc (.cells #[.pointer (some ⟨b, off + 14, none⟩), .pointer (some ⟨b, off + 15, none⟩), .pointer (some ⟨b, off + 16, none⟩), .pointer (some ⟨b, off + 20, none⟩), .pointer (some ⟨b, off + 21, none⟩), .pointer (some ⟨b, off + 23, none⟩), .pointer (some ⟨b, off + 24, none⟩)] 164))) := Lib.hid (KF.step HF8.out HJ.out (hAA b hAb) (fun k h => h.elim .inl (fun e => .inr (by rw [World.size_alloc]; omega))) ((Ext.refl _ _).alloc _))
        have hps : ∀ k : Nat, k < 7 → (W1.alloc (.cells #[.pointer (some ⟨b, off + 14, none⟩), .pointer (some ⟨b, off + 15, none⟩), .pointer (some ⟨b, off + 16, none⟩), .pointer (some ⟨b, off + 20, none⟩), .pointer (some ⟨b, off + 21, none⟩), .pointer (some ⟨b, off + 23, none⟩), .pointer (some ⟨b, off + 24, none⟩)] 164)).cell? ⟨W1.heap.size, k, none⟩ = some (.pointer (some ⟨b, off + offC (14 + k), none⟩)) := fun k hk => cells_new W1 [.pointer (some ⟨b, off + 14, none⟩), .pointer (some ⟨b, off + 15, none⟩), .pointer (some ⟨b, off + 16, none⟩), .pointer (some ⟨b, off + 20, none⟩), .pointer (some ⟨b, off + 21, none⟩), .pointer (some ⟨b, off + 23, none⟩), .pointer (some ⟨b, off + 24, none⟩)] _ k _ (by
          match k, hk with
          | 0, _ => rfl
          | 1, _ => rfl
          | 2, _ => rfl
          | 3, _ => rfl
          | 4, _ => rfl
          | 5, _ => rfl
          | 6, _ => rfl
          | n + 7, h => exact absurd h (by omega))
        obtain ⟨SB, hSB⟩ : ∃ SB, SB = W1.heap.size := ⟨_, rfl⟩
        have hSw : w.heap.size ≤ SB := by rw [hSB]; exact HF8.out.1.2.2.1.size
        rw [← hSB] at hps HF9 ⊢
        have hA7 : ∀ k, A k → ((A k ∨ k = k5 ∨ k = k6) ∨ k = SB) := fun k h => .inl (.inl h)
        generalize W1.alloc (.cells #[.pointer (some ⟨b, off + 14, none⟩), .pointer (some ⟨b, off + 15, none⟩), .pointer (some ⟨b, off + 16, none⟩), .pointer (some ⟨b, off + 20, none⟩), .pointer (some ⟨b, off + 21, none⟩), .pointer (some ⟨b, off + 23, none⟩), .pointer (some ⟨b, off + 24, none⟩)] 164) = W2 at HF9 hps ⊢
        have HPS := Lib.hid hps
        clear hSB HF8 hps hS0
        have hS0 : (fun _ : World => True) W2 := trivial
        refine wpAnyS_take (i := 32) (d := some 88) (v := .int .i64 7) rfl rfl rfl (by kernel_rfl) (by kernel_rfl) (by kernel_rfl) (by kernel_rfl) (fun _ _ _ h => h) (.inl ⟨by rfl, fun W hW => by go_simp; try rfl⟩) hS0 ?_
        try simp only [Act.put, List.setIfInBounds_toArray, List.set_cons_zero, List.set_cons_succ]
        refine wpAnyS_done (by kernel_rfl) ?_ _
        clear hS0
        go_wp2_with fail
        go_loopg [89] 7 (fun g kv wx => ∃ k : Nat, g = 7 - k ∧ kv = .int .i64 k ∧ k ≤ 7 ∧ Hid (KF b off o f J A w k5 k6 (14 + k) (f 10) (f 13) (fun k => (A k ∨ k = k5 ∨ k = k6) ∨ k = SB) wx) ∧ Hid (∀ q : Nat, q < 7 → wx.cell? ⟨SB, q, none⟩ = some (.pointer (some ⟨b, off + offC (14 + q), none⟩))))
        case atStart => exact ⟨0, rfl, rfl, by omega, HF9, HPS⟩
        case round =>
          clear HF9 HPS
          obtain ⟨k, hg, rfl, hk, HF, HPS⟩ := hrel
          have HG := Lib.hid hg
          clear hg
          by_cases hlt : k < 7
          · have hk1 : (k : Int) < 7 := by omega
            have hcell := HPS.out k hlt
            have hc := IS.use HU.out hAb hA7 HF.out.1 (c := 14 + k) (by omega) (by omega) (by omega)
            rw [show dlt (14 + k) = false by unfold dlt; simp; omega] at hc
            generalize off + offC (14 + k) = pk at hcell hc
            have HC := Lib.hid hc
            clear hc
            go_wp2_with fail
            refine HC.out.mono ?_
            rintro e w3 ⟨⟨v3, rfl⟩, h3, hx3⟩
            have HF3 : Hid (KF b off o f J A w k5 k6 (14 + k + 1) (f 10) (f 13) (fun k => (A k ∨ k = k5 ∨ k = k6) ∨ k = SB) w3) := Lib.hid (HF.out.ext h3 hx3 (fun h => h.elim (fun h => h (.inl (.inr (.inl rfl)))) (fun e => by omega)) (fun h => h.elim (fun h => h (.inl (.inr (.inr rfl)))) (fun e => by omega)))
            have HPS3 : Hid (∀ q : Nat, q < 7 → w3.cell? ⟨SB, q, none⟩ = some (.pointer (some ⟨b, off + offC (14 + q), none⟩))) := Lib.hid (fun q hq => hx3.keep (HPS.out q hq) (fun h => h.elim (fun h => h (.inr rfl)) (fun e => by omega)))
            clear h3 hx3 HC HF HPS hcell
            go_wp2_with fail
            go_roundg (7 - (k + 1))
            case measure => rw [HG.out]; omega
            case rel => exact ⟨k + 1, rfl, by simp, by omega, HF3, HPS3⟩
          · obtain rfl : k = 7 := by omega
            have hk1 : ¬ (7 : Int) < 7 := by omega
            have HF21 : Hid (KF b off o f J A w k5 k6 21 (f 10) (f 13) (fun k => (A k ∨ k = k5 ∨ k = k6) ∨ k = SB) wr) := HF
            clear hlt HF HPS hk
            have hA := HF21.out.1.2.1
            have c10 : wr.cell? ⟨b, off + 10, none⟩ = some (.int .i64 (stg f o 21 10)) := hA.num 10 (by omega)
            have f10 : wr.frozen? ⟨b, off + 10, none⟩ = false := hA.free 10 (by omega)
            have c13 : wr.cell? ⟨b, off + 13, none⟩ = some (.int .i64 (stg f o 21 13)) := hA.num 13 (by omega)
            have f13 : wr.frozen? ⟨b, off + 13, none⟩ = false := hA.free 13 (by omega)
            have c5 := HF21.out.2.1
            have c6 := HF21.out.2.2.2.1
            have hbk5 : ¬ b = k5 := by omega
            have hbk6 : ¬ b = k6 := by omega
            have x1 : Ext (· = b) wr (wr.setCell ⟨b, off + 10, none⟩ (.int .i64 (f 10))) := (Ext.refl (· = b) wr).setCell (p := ⟨b, off + 10, none⟩) (.inr rfl) _
            have hA1 := hA.put (c := 10) (x := f 10) (by omega) (cell_setCell_same8 c10) (fun q hq => cell_setCell_ne8 hq) (fun q => World.frozen?_setCell _ _ _ _)
            have x2 : Ext (· = b) (wr.setCell ⟨b, off + 10, none⟩ (.int .i64 (f 10))) ((wr.setCell ⟨b, off + 10, none⟩ (.int .i64 (f 10))).setCell ⟨b, off + 13, none⟩ (.int .i64 (f 13))) := (Ext.refl (· = b) _).setCell (p := ⟨b, off + 13, none⟩) (.inr rfl) _
            have hA2 := hA1.put (c := 13) (x := f 13) (by omega) (cell_setCell_same8 (hA1.num 13 (by omega))) (fun q hq => cell_setCell_ne8 hq) (fun q => World.frozen?_setCell _ _ _ _)
            have HFIN := Lib.hid (And.intro (HJ.out _ _ A _ _ (HJ.out _ _ A _ _ HF21.out.1.1 x1 (fun k h => .inl (hA7 k h)) (hA7 b hAb)) x2 (fun k h => .inl h) hAb) (And.intro (hA2.num_eq f (stg_end f o)) (And.intro ((HF21.out.1.2.2.1.andThen x1 (fun i hi e => .inr e)).andThen x2 (fun i hi e => .inr e)) ((HF21.out.1.2.2.2.trans (Rst.set (b := b) (off := off) (po := off + 10) wr (.int .i64 (f 10)) (by omega) (by omega))).trans (Rst.set (b := b) (off := off) (po := off + 13) _ (.int .i64 (f 13)) (by omega) (by omega))))))
            clear hA hA1 hA2 x1 x2 HF21
            go_wp2_with fail
            go_end0
            exact ⟨⟨_, rfl⟩, HFIN.out⟩

end Go.Proofs.YtgmdimbiipemhaaGreatDoor
