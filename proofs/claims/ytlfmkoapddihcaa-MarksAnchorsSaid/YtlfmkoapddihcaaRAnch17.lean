/- Layer 17: the reference's Anchors. -/
import Derived.Test.YtlfmkoapddihcaaAnch17
namespace Go.Proofs.Ytlfmkoapddihcaa
open Go.RowKit
set_option linter.unusedSimpArgs false
set_option linter.unusedVariables false

set_option maxRecDepth 100000 in
set_option maxHeartbeats 2000000 in
theorem ranchors_any (va : Option Addr) (ca : Nat) (l : List El) (f t : Int) (g : Bool) (w : World) (hl : SliceIs El.cells 4 w (.slice va l.length ca) l) (hln : l.length ≤ 1000) :
    Calls Try.prog 17 #[.slice va l.length ca, .int .i64 f, .int .i64 t, .bool g] w fun e w' => e = .returned (.tuple #[ancV (ancP ((shownL l).map (·.id)) f t g).1, ancV (ancP ((shownL l).map (·.id)) f t g).2.1, .bool (ancP ((shownL l).map (·.id)) f t g).2.2]) ∧ Below w.heap.size w w' := by
  obtain ⟨W0, hW0⟩ : ∃ W0, (w.alloc (.cells #[.int .i64 0, .int .i64 0, .bool false] 37)).alloc (.cells #[.int .i64 0, .int .i64 0, .bool false] 37) = W0 := ⟨_, rfl⟩
  have hB0 : Below w.heap.size w W0 := by rw [← hW0]; exact ((Below.refl _ _).alloc (Nat.le_refl _) _).alloc (by simp) _
  have hS0 : W0.heap.size = w.heap.size + 2 := by rw [← hW0]; simp
  have hr0 : W0.heap[w.heap.size]? = some (.cells #[.int .i64 0, .int .i64 0, .bool false] 37 (0, 0)) := by
    rw [← hW0, Below.heap_alloc _ _ _ (by simp)]
    exact heap_new w _
  have hr1 : W0.heap[w.heap.size + 1]? = some (.cells #[.int .i64 0, .int .i64 0, .bool false] 37 (0, 0)) := by
    have := heap_new (w.alloc (.cells #[.int .i64 0, .int .i64 0, .bool false] 37)) (.cells #[.int .i64 0, .int .i64 0, .bool false] 37)
    rw [World.size_alloc, hW0] at this
    exact this
  have HB0 := Lib.hid hB0
  have HS0 := Lib.hid hS0
  have HR0 := Lib.hid hr0
  have HR1 := Lib.hid hr1
  have HW0 := Lib.hid hW0
  have hl0 := hl.below hB0
  clear hB0 hS0 hr0 hr1 hW0 hl
  go_enter Try.func17, Try.ntmps17
  go_wp2_with fail
  rw [HW0.out]
  refine (shown_any va ca l W0 hl0 hln).mono ?_
  rintro e w1 ⟨u, rfl, hO, hB⟩
  have hsz := hB.size
  rw [HS0.out] at hsz hO
  have hb0 := (hB.block _ (by rw [HS0.out]; omega)).trans HR0.out
  have hb1 := (hB.block _ (by rw [HS0.out]; omega)).trans HR1.out
  have hB2 := HB0.out.trans (hB.mono (by have := HS0.out; omega))
  clear HB0 HS0 HR0 HR1 HW0 hB hl0
  have hil : (shownL l).length ≤ 1000 := by
    have := shownL_le l
    omega
  obtain ⟨sh, hsh⟩ : ∃ sh, shownL l = sh := ⟨_, rfl⟩
  rw [hsh] at hO hil
  have HI := Lib.hid hsh
  clear hsh
  have hob := hO.blk
  obtain ⟨va', vc', rfl, _, _, hcs⟩ := hO.slice El.len
  have HB2 := Lib.hid hB2
  have HCS := Lib.hid hcs
  clear hB2 hcs hO
  have c00 : w1.cell? ⟨w.heap.size, 0, none⟩ = some (.int .i64 0) := by simp [World.cell?, hb0]
  have c01 : w1.cell? ⟨w.heap.size, 1, none⟩ = some (.int .i64 0) := by simp [World.cell?, hb0]
  have c02 : w1.cell? ⟨w.heap.size, 2, none⟩ = some (.bool false) := by simp [World.cell?, hb0]
  have c10 : w1.cell? ⟨w.heap.size + 1, 0, none⟩ = some (.int .i64 0) := by simp [World.cell?, hb1]
  have c11 : w1.cell? ⟨w.heap.size + 1, 1, none⟩ = some (.int .i64 0) := by simp [World.cell?, hb1]
  have c12 : w1.cell? ⟨w.heap.size + 1, 2, none⟩ = some (.bool false) := by simp [World.cell?, hb1]
  have f00 : w1.frozen? ⟨w.heap.size, 0, none⟩ = false := by simp [World.frozen?, hb0]
  have f01 : w1.frozen? ⟨w.heap.size, 1, none⟩ = false := by simp [World.frozen?, hb0]
  have f02 : w1.frozen? ⟨w.heap.size, 2, none⟩ = false := by simp [World.frozen?, hb0]
  have f10 : w1.frozen? ⟨w.heap.size + 1, 0, none⟩ = false := by simp [World.frozen?, hb1]
  have f11 : w1.frozen? ⟨w.heap.size + 1, 1, none⟩ = false := by simp [World.frozen?, hb1]
  have f12 : w1.frozen? ⟨w.heap.size + 1, 2, none⟩ = false := by simp [World.frozen?, hb1]
  clear hb0 hb1
  by_cases hbad : f < 0 ∨ t ≤ f ∨ (sh.length : Int) < t
  · have hP : ancP (sh.map (·.id)) f t g = _ := ancP_bad (by rw [List.length_map]; exact hbad)
    have HP := Lib.hid hP
    clear hP
    by_cases h1 : f < 0
    · clear hbad
      go_wp2_with fail
      refine bodyPost_ret (results_ccb rfl _ rfl rfl (load_anchor (n := 0) (r := 0) (a := false) ?_ ?_ ?_) (load_anchor (n := 0) (r := 0) (a := false) ?_ ?_ ?_)) rfl ⟨?_, ?_⟩
      · go_simp
      · go_simp
      · go_simp
      · go_simp
      · go_simp
      · go_simp
      · rw [HI.out, HP.out]; rfl
      · refine Ext.new (S := fun b => w.heap.size ≤ b) HB2.out ?_ (fun i hi _ e => by omega) (by omega)
        repeat (first | (with_reducible exact Ext.refl _ _) | ((with_reducible refine Ext.setCell ?_ (.inr ?_) _); rotate_left; (dsimp only; omega)) | (with_reducible refine Ext.alloc ?_ _) | (with_reducible refine Ext.drew ?_))
    · by_cases h2 : t ≤ f
      · clear hbad
        go_wp2_with fail
        refine bodyPost_ret (results_ccb rfl _ rfl rfl (load_anchor (n := 0) (r := 0) (a := false) ?_ ?_ ?_) (load_anchor (n := 0) (r := 0) (a := false) ?_ ?_ ?_)) rfl ⟨?_, ?_⟩
        · go_simp
        · go_simp
        · go_simp
        · go_simp
        · go_simp
        · go_simp
        · rw [HI.out, HP.out]; rfl
        · refine Ext.new (S := fun b => w.heap.size ≤ b) HB2.out ?_ (fun i hi _ e => by omega) (by omega)
          repeat (first | (with_reducible exact Ext.refl _ _) | ((with_reducible refine Ext.setCell ?_ (.inr ?_) _); rotate_left; (dsimp only; omega)) | (with_reducible refine Ext.alloc ?_ _) | (with_reducible refine Ext.drew ?_))
      · have h3 : (sh.length : Int) < t := by omega
        clear hbad
        go_wp2_with fail
        refine bodyPost_ret (results_ccb rfl _ rfl rfl (load_anchor (n := 0) (r := 0) (a := false) ?_ ?_ ?_) (load_anchor (n := 0) (r := 0) (a := false) ?_ ?_ ?_)) rfl ⟨?_, ?_⟩
        · go_simp
        · go_simp
        · go_simp
        · go_simp
        · go_simp
        · go_simp
        · rw [HI.out, HP.out]; rfl
        · refine Ext.new (S := fun b => w.heap.size ≤ b) HB2.out ?_ (fun i hi _ e => by omega) (by omega)
          repeat (first | (with_reducible exact Ext.refl _ _) | ((with_reducible refine Ext.setCell ?_ (.inr ?_) _); rotate_left; (dsimp only; omega)) | (with_reducible refine Ext.alloc ?_ _) | (with_reducible refine Ext.drew ?_))
  · obtain ⟨fn, rfl⟩ : ∃ fn : Nat, f = fn := ⟨f.toNat, by omega⟩
    obtain ⟨tn, rfl⟩ : ∃ tn : Nat, t = (tn : Int) + 1 := ⟨t.toNat - 1, by omega⟩
    have h1 : fn < tn + 1 := by omega
    have h2 : tn + 1 ≤ sh.length := by omega
    obtain ⟨x, hx⟩ : ∃ x, sh[fn]? = some x := ⟨_, List.getElem?_eq_getElem (by omega)⟩
    obtain ⟨y, hy⟩ : ∃ y, sh[tn]? = some y := ⟨_, List.getElem?_eq_getElem (by omega)⟩
    obtain ⟨b, o, rfl, hcc⟩ := HCS.out (by intro e; rw [e] at hx; simp at hx)
    obtain ⟨hb1, hb2⟩ := hob b rfl
    have x0 : w1.cell? ⟨b, o + fn * 4, none⟩ = some (.int .i64 x.id.n) := hcc fn x hx 0 _ rfl
    have x1 : w1.cell? ⟨b, o + fn * 4 + 1, none⟩ = some (.int .i64 x.id.r) := hcc fn x hx 1 _ rfl
    have y0 : w1.cell? ⟨b, o + tn * 4, none⟩ = some (.int .i64 y.id.n) := hcc tn y hy 0 _ rfl
    have y1 : w1.cell? ⟨b, o + tn * 4 + 1, none⟩ = some (.int .i64 y.id.r) := hcc tn y hy 1 _ rfl
    have i1 : ¬ (fn : Int) < 0 := by omega
    have i2 : ¬ (tn : Int) + 1 ≤ fn := by omega
    have i3 : ¬ (sh.length : Int) < (tn : Int) + 1 := by omega
    have i4 : (fn : Int) < (sh.length : Int) := by omega
    have i5 : (tn : Int) < (sh.length : Int) := by omega
    have i7 : (tn : Int) ≤ 1000 := by omega
    have k0 : w.heap.size < w1.heap.size := by omega
    have k1 : w.heap.size + 1 < w1.heap.size := by omega
    have k2 : ¬ w.heap.size = w1.heap.size := by omega
    have k3 : ¬ w.heap.size + 1 = w1.heap.size := by omega
    have k4 : ¬ b = w.heap.size := by omega
    have k5 : ¬ b = w.heap.size + 1 := by omega
    have i8 : (sh.length : Int) ≤ 1000 := by omega
    by_cases hgg : g = true ∧ tn + 1 < sh.length
    · obtain ⟨rfl, hg2⟩ := hgg
      obtain ⟨z, hz⟩ : ∃ z, sh[tn + 1]? = some z := ⟨_, List.getElem?_eq_getElem (by omega)⟩
      have z0 : w1.cell? ⟨b, o + (tn + 1) * 4, none⟩ = some (.int .i64 z.id.n) := hcc (tn + 1) z hz 0 _ rfl
      have z1 : w1.cell? ⟨b, o + (tn + 1) * 4 + 1, none⟩ = some (.int .i64 z.id.r) := hcc (tn + 1) z hz 1 _ rfl
      have i6 : (tn : Int) + 1 < (sh.length : Int) := by omega
      have hP : ancP (sh.map (·.id)) fn (tn + 1) true = _ := ancP_ok (x := x.id) (y := y.id) (z := z.id) h1 (by rw [List.length_map]; exact h2) (by simp [hx]) (by simp [hy]) (fun _ _ => by simp [hz])
      rw [if_pos ⟨rfl, by rw [List.length_map]; exact hg2⟩] at hP
      have HP := Lib.hid hP
      clear hP hbad hcc hx hy hz HCS
      go_wp2_with fail
      go_region
      all_goals
        go_wp2_with fail
        refine bodyPost_ret (results_ccb rfl _ rfl rfl (load_anchor (n := x.id.n) (r := x.id.r) (a := false) ?_ ?_ ?_) (load_anchor (n := z.id.n) (r := z.id.r) (a := false) ?_ ?_ ?_)) rfl ⟨?_, ?_⟩
        · go_simp
        · go_simp
        · go_simp
        · go_simp
        · go_simp
        · go_simp
        · rw [HI.out, HP.out]; rfl
        · refine Ext.new (S := fun b => w.heap.size ≤ b) HB2.out ?_ (fun i hi _ e => by omega) (by omega)
          repeat (first | (with_reducible exact Ext.refl _ _) | ((with_reducible refine Ext.setCell ?_ (.inr ?_) _); rotate_left; (dsimp only; omega)) | (with_reducible refine Ext.alloc ?_ _) | (with_reducible refine Ext.drew ?_))
    · have hP : ancP (sh.map (·.id)) fn (tn + 1) g = _ := ancP_ok (x := x.id) (y := y.id) (z := ⟨0, 0⟩) h1 (by rw [List.length_map]; exact h2) (by simp [hx]) (by simp [hy]) (fun a b => absurd ⟨a, by rw [List.length_map] at b; exact b⟩ hgg)
      rw [if_neg (fun h => hgg ⟨h.1, by have := h.2; rw [List.length_map] at this; exact this⟩)] at hP
      have HP := Lib.hid hP
      clear hP hbad hcc hx hy HCS
      cases g with
      | true =>
        have i6 : ¬ (tn : Int) + 1 < (sh.length : Int) := fun h => hgg ⟨rfl, by omega⟩
        clear hgg
        go_wp2_with fail
        go_region
        all_goals
          go_wp2_with fail
          refine bodyPost_ret (results_ccb rfl _ rfl rfl (load_anchor (n := x.id.n) (r := x.id.r) (a := false) ?_ ?_ ?_) (load_anchor (n := y.id.n) (r := y.id.r) (a := true) ?_ ?_ ?_)) rfl ⟨?_, ?_⟩
          · go_simp
          · go_simp
          · go_simp
          · go_simp
          · go_simp
          · go_simp
          · rw [HI.out, HP.out]; rfl
          · refine Ext.new (S := fun b => w.heap.size ≤ b) HB2.out ?_ (fun i hi _ e => by omega) (by omega)
            repeat (first | (with_reducible exact Ext.refl _ _) | ((with_reducible refine Ext.setCell ?_ (.inr ?_) _); rotate_left; (dsimp only; omega)) | (with_reducible refine Ext.alloc ?_ _) | (with_reducible refine Ext.drew ?_))
      | false =>
        clear hgg
        go_wp2_with fail
        go_region
        all_goals
          go_wp2_with fail
          refine bodyPost_ret (results_ccb rfl _ rfl rfl (load_anchor (n := x.id.n) (r := x.id.r) (a := false) ?_ ?_ ?_) (load_anchor (n := y.id.n) (r := y.id.r) (a := true) ?_ ?_ ?_)) rfl ⟨?_, ?_⟩
          · go_simp
          · go_simp
          · go_simp
          · go_simp
          · go_simp
          · go_simp
          · rw [HI.out, HP.out]; rfl
          · refine Ext.new (S := fun b => w.heap.size ≤ b) HB2.out ?_ (fun i hi _ e => by omega) (by omega)
            repeat (first | (with_reducible exact Ext.refl _ _) | ((with_reducible refine Ext.setCell ?_ (.inr ?_) _); rotate_left; (dsimp only; omega)) | (with_reducible refine Ext.alloc ?_ _) | (with_reducible refine Ext.drew ?_))

end Go.Proofs.Ytlfmkoapddihcaa
