/- Layer 17: Anchors: where a mark is anchored; the program's and the reference's. -/
import Derived.Test.YtlfmkoapddihcaaOp17
import Derived.Test.YtlfmkoapddihcaaStepIn
import Derived.WalkKit
import Derived.Deep.LoopGhost
namespace Go.Proofs.Ytlfmkoapddihcaa
open Go.RowKit
set_option linter.unusedSimpArgs false
set_option linter.unusedVariables false

theorem El.one (x : El) : ∀ u ∈ x.cells, u.oneCell' = true := by
  intro u hu
  simp only [El.cells, List.mem_cons, List.not_mem_nil, or_false] at hu
  rcases hu with rfl | rfl | rfl | rfl <;> rfl
def St.cells (x : St) : List Value := [.int .i64 x.n, .int .i64 x.r]
theorem St.len (x : St) : x.cells.length = 2 := rfl
theorem St.one (x : St) : ∀ u ∈ x.cells, u.oneCell' = true := by
  intro u hu
  simp only [St.cells, List.mem_cons, List.not_mem_nil, or_false] at hu
  rcases hu with rfl | rfl <;> rfl

/-- What is not gone. -/
def shownL (l : List El) : List El := l.filter fun x => !x.gone
theorem shownL_snoc (l : List El) (x : El) : shownL (l ++ [x]) = shownL l ++ if x.gone = true then [] else [x] := by
  unfold shownL
  rw [List.filter_append]
  cases h : x.gone <;> simp [h]
theorem shownL_le (l : List El) : (shownL l).length ≤ l.length := List.length_filter_le _ _

/-- Where a mark is anchored. -/
def ancP (ids : List St) (f t : Int) (g : Bool) : (St × Bool) × (St × Bool) × Bool :=
  if f < 0 ∨ t ≤ f ∨ (ids.length : Int) < t then ((⟨0, 0⟩, false), (⟨0, 0⟩, false), false)
  else ((ids.getD f.toNat ⟨0, 0⟩, false), (if g = true ∧ t < ids.length then (ids.getD t.toNat ⟨0, 0⟩, false) else (ids.getD (t.toNat - 1) ⟨0, 0⟩, true)), true)
theorem ancP_bad {ids : List St} {f t : Int} {g : Bool} (h : f < 0 ∨ t ≤ f ∨ (ids.length : Int) < t) : ancP ids f t g = ((⟨0, 0⟩, false), (⟨0, 0⟩, false), false) := if_pos h
theorem ancP_ok {ids : List St} {f t : Nat} {g : Bool} (h1 : f < t + 1) (h2 : t + 1 ≤ ids.length) {x y z : St} (hx : ids[f]? = some x) (hy : ids[t]? = some y) (hz : g = true → t + 1 < ids.length → ids[t + 1]? = some z) :
    ancP ids f (t + 1) g = ((x, false), (if g = true ∧ t + 1 < ids.length then (z, false) else (y, true)), true) := by
  unfold ancP
  rw [if_neg (by omega)]
  simp only [List.getD_eq_getElem?_getD, Int.toNat_natCast, hx, Option.getD_some]
  have e1 : ((t : Int) + 1).toNat = t + 1 := by omega
  rw [e1]
  by_cases hc : g = true ∧ t + 1 < ids.length
  · rw [if_pos hc, if_pos ⟨hc.1, by have := hc.2; omega⟩, hz hc.1 hc.2]
    rfl
  · rw [if_neg hc, if_neg (fun h => hc ⟨h.1, by have := h.2; omega⟩), Nat.add_sub_cancel, hy]
    rfl
def ancV (a : St × Bool) : Value := .agg #[.int .i64 a.1.n, .int .i64 a.1.r, .bool a.2]

theorem info_el : (Try.prog.info? 48).map (fun i => (i.zero, i.size, i.bytes)) = some (some (.agg #[.int .i64 0, .int .i64 0, .int .i64 0, .bool false]), 4, 32) := by kernel_rfl
theorem info_st : (Try.prog.info? 31).map (fun i => (i.zero, i.size, i.bytes)) = some (some (.agg #[.int .i64 0, .int .i64 0]), 2, 16) := by kernel_rfl

set_option maxHeartbeats 1000000 in
theorem shown_any (va : Option Addr) (ca : Nat) (l : List El) (w : World) (hl : SliceIs El.cells 4 w (.slice va l.length ca) l) (hln : l.length ≤ 4398046510976) :
    Calls Try.prog 26 #[.slice va l.length ca] w fun e w' => ∃ u, e = .returned u ∧ Own El.cells 4 48 w.heap.size w' u (shownL l) ∧ Below w.heap.size w w' := by
  obtain ⟨_, _, e0, hcap, hmax, hcs⟩ := id hl
  cases e0
  obtain ⟨i0, hi, hz0, hz1', hz2⟩ := info_parts info_el
  have HC := Lib.hid hcs
  clear hcs hl
  go_enter Try.func26, Try.ntmps26
  go_wp2_with fail
  go_loopg [3, 4] l.length (fun g out iv wr => ∃ k : Nat, g = l.length - k ∧ k ≤ l.length ∧ iv = .int .i64 k ∧ Own El.cells 4 48 w.heap.size wr out (shownL (l.take k)) ∧ Below w.heap.size w wr)
  case atStart => exact ⟨0, by omega, by omega, rfl, Own.nil, Below.refl _ _⟩
  case round =>
    obtain ⟨k, hg, hk, rfl, hO, hB⟩ := hrel
    by_cases hkl : k < l.length
    · obtain ⟨x, hx⟩ : ∃ x, l[k]? = some x := ⟨_, List.getElem?_eq_getElem hkl⟩
      obtain ⟨b, o, rfl, hcc⟩ := HC.out (by intro e; rw [e] at hx; simp at hx)
      have hcell : ∀ j u, (El.cells x)[j]? = some u → wr.cell? ⟨b, o + k * 4 + j, none⟩ = some u := fun j u h => by
        have h1 := hcc k x hx j u h
        exact (World.cell?_of_block (w := w) (hB.block b (cell_lt h1))).trans h1
      have x0 : wr.cell? ⟨b, o + k * 4, none⟩ = some (.int .i64 x.id.n) := hcell 0 _ rfl
      have x1 : wr.cell? ⟨b, o + k * 4 + 1, none⟩ = some (.int .i64 x.id.r) := hcell 1 _ rfl
      have x2 : wr.cell? ⟨b, o + k * 4 + 2, none⟩ = some (.int .i64 x.ch) := hcell 2 _ rfl
      have x3 : wr.cell? ⟨b, o + k * 4 + 3, none⟩ = some (.bool x.gone) := hcell 3 _ rfl
      have hkk : (k : Int) < (l.length : Int) := by omega
      have hsn : shownL (l.take (k + 1)) = shownL (l.take k) ++ if x.gone = true then [] else [x] := by rw [List.take_add_one, hx, Option.toList_some, shownL_snoc]
      have hle : (shownL (l.take k)).length ≤ 4398046510976 := by
        have h1 := shownL_le (l.take k)
        rw [List.length_take] at h1
        omega
      have HSN := Lib.hid hsn
      have HB := Lib.hid hB
      have HG := Lib.hid hg
      have hsz := hB.size
      clear hcc hcell hsn hB hg
      cases hgn : x.gone with
      | true =>
        rw [hgn] at x3
        go_wp2_with fail
        go_roundg (l.length - (k + 1))
        case measure => rw [HG.out]; omega
        case rel => exact ⟨k + 1, rfl, by omega, by simp, by rw [HSN.out, hgn]; simpa using hO, HB.out⟩
      | false =>
        rw [hgn] at x3
        go_wp2_with (at_builtin; refine wpList_append_struct rfl _ _ _ rfl i0 (.agg #[.int .i64 0, .int .i64 0, .int .i64 0, .bool false]) 32 Try.underlying22 hi hz0 hz1' hz2 rfl (by omega) El.len El.one rfl (hO.alloc _) x wr.heap.size 1 rfl ?_ (by unfold maxLen; omega) (by omega) (by simp; omega) ?_)
        · intro j u hj
          match j, hj with
          | 0, hj => simp [El.cells] at hj; subst hj; go_simp
          | 1, hj => simp [El.cells] at hj; subst hj; go_simp
          | 2, hj => simp [El.cells] at hj; subst hj; go_simp
          | 3, hj => simp [El.cells] at hj; subst hj; go_simp
          | n + 4, hj => simp [El.cells] at hj
        · intro v' w3 hO3 hx3
          go_wp2_with fail
          go_roundg (l.length - (k + 1))
          case measure => rw [HG.out]; omega
          case rel => exact ⟨k + 1, rfl, by omega, by simp, by rw [HSN.out, hgn]; simpa using hO3, Ext.new (HB.out.alloc (by omega) _) hx3 (fun i hi _ e => by have := (hO.blk _ e).1; omega) (by simp; omega)⟩
    · obtain rfl : k = l.length := by omega
      rw [List.take_length] at hO
      go_wp2_with fail
      go_ret
      exact ⟨_, rfl, hO, hB⟩

theorem anch_ty : StructTy Try.prog 37 3 := ⟨fun w => by kernel_rfl, fun w => by kernel_rfl⟩
theorem load_anchor {w : World} {b : Nat} {n r : Int} {a : Bool} (h0 : w.cell? ⟨b, 0, none⟩ = some (.int .i64 n)) (h1 : w.cell? ⟨b, 1, none⟩ = some (.int .i64 r)) (h2 : w.cell? ⟨b, 2, none⟩ = some (.bool a)) :
    (loadVar 37 ⟨b, 0, none⟩).run Try.prog w = .ok (.agg #[.int .i64 n, .int .i64 r, .bool a]) w := by
  have hl := run_loadCells_list (P := Try.prog) w ⟨b, 0, none⟩ [.int .i64 n, .int .i64 r, .bool a] (fun j v hj => by
    rw [addr_add, Nat.zero_add]
    match j, hj with
    | 0, hj => simp at hj; subst hj; exact h0
    | 1, hj => simp at hj; subst hj; exact h1
    | 2, hj => simp at hj; subst hj; exact h2
    | n + 3, hj => simp at hj)
  rw [show ([.int .i64 n, .int .i64 r, .bool a] : List Value).length = 3 from rfl] at hl
  simp only [loadVar, Sem.run_bind, anch_ty.agg, anch_ty.size, Result.andThen_ok, Sem.run_ite, hl]
  simp [hl]
theorem results_ccb {P : Program} {fn : Func} {p q u : Tmp} {ty : TypeId} (h : fn.results = #[.cell p ty, .cell q ty, .tmp u]) (tmps : Array Value) {a b : Addr} {v1 v2 : Value} {w : World} (hp : tmps.getD p undef = .pointer (some a)) (hq : tmps.getD q undef = .pointer (some b))
    (h1 : (loadVar ty a).run P w = .ok v1 w) (h2 : (loadVar ty b).run P w = .ok v2 w) : (results fn tmps).run P w = .ok (.tuple #[v1, v2, tmps.getD u undef]) w := by
  simp only [results, h]
  simp only [Array.getD_eq_getD_getElem?] at hp hq
  simp [Sem.run_bind, Result.andThen, hp, hq, asAddr, h1, h2]

set_option maxRecDepth 100000 in
set_option maxHeartbeats 2000000 in
theorem anchors_any (va : Option Addr) (ca : Nat) (l : List El) (f t : Int) (g : Bool) (w : World) (hl : SliceIs El.cells 4 w (.slice va l.length ca) l) (hln : l.length ≤ 4398046510976) :
    Calls Try.prog 16 #[.slice va l.length ca, .int .i64 f, .int .i64 t, .bool g] w fun e w' => e = .returned (.tuple #[ancV (ancP ((shownL l).map (·.id)) f t g).1, ancV (ancP ((shownL l).map (·.id)) f t g).2.1, .bool (ancP ((shownL l).map (·.id)) f t g).2.2]) ∧ Below w.heap.size w w' := by
  obtain ⟨_, _, e0, hcap, hmax, hcs⟩ := id hl
  cases e0
  obtain ⟨i0, hi, hz0, hz1', hz2⟩ := info_parts info_st
  have HC := Lib.hid hcs
  clear hcs hl
  obtain ⟨W0, hW0⟩ : ∃ W0, (w.alloc (.cells #[.int .i64 0, .int .i64 0, .bool false] 37)).alloc (.cells #[.int .i64 0, .int .i64 0, .bool false] 37) = W0 := ⟨_, rfl⟩
  have hB0 : Below w.heap.size w W0 := by rw [← hW0]; exact ((Below.refl _ _).alloc (Nat.le_refl _) _).alloc (by simp) _
  have hS0 : W0.heap.size = w.heap.size + 2 := by rw [← hW0]; simp
  have hr0 : W0.heap[w.heap.size]? = some (.cells #[.int .i64 0, .int .i64 0, .bool false] 37 (0, 0)) := by
    rw [← hW0, Below.heap_alloc _ _ _ (by simp)]
    exact heap_new w _
  have hr1 : W0.heap[w.heap.size + 1]? = some (.cells #[.int .i64 0, .int .i64 0, .bool false] 37 (0, 0)) := by
    have := heap_new (w.alloc (.cells #[.int .i64 0, .int .i64 0, .bool false] 37)) (.cells #[.int .i64 0, .int .i64 0, .bool false] 37)
    rw [World.size_alloc, hW0] at this
    exact this
  have HB0 := Lib.hid hB0
  have HS0 := Lib.hid hS0
  have HR0 := Lib.hid hr0
  have HR1 := Lib.hid hr1
  have HW0 := Lib.hid hW0
  clear hB0 hS0 hr0 hr1 hW0
  go_enter Try.func16, Try.ntmps16
  go_wp2_with fail
  rw [HW0.out]
  go_loopg [11, 17] l.length (fun g out iv wr => ∃ k : Nat, g = l.length - k ∧ k ≤ l.length ∧ iv = .int .i64 k ∧ Own St.cells 2 31 (w.heap.size + 2) wr out ((shownL (l.take k)).map (·.id)) ∧ Below W0.heap.size W0 wr)
  case atStart => exact ⟨0, by omega, by omega, rfl, Own.nil, Below.refl _ _⟩
  case round =>
    obtain ⟨k, hg, hk, rfl, hO, hB⟩ := hrel
    have hsz := hB.size
    rw [HS0.out] at hsz
    by_cases hkl : k < l.length
    · obtain ⟨x, hx⟩ : ∃ x, l[k]? = some x := ⟨_, List.getElem?_eq_getElem hkl⟩
      obtain ⟨b, o, rfl, hcc⟩ := HC.out (by intro e; rw [e] at hx; simp at hx)
      have hcell : ∀ j u, (El.cells x)[j]? = some u → wr.cell? ⟨b, o + k * 4 + j, none⟩ = some u := fun j u h => by
        have h1 := hcc k x hx j u h
        have h2 := keepB hB (keepB HB0.out h1)
        exact h2
      have x0 : wr.cell? ⟨b, o + k * 4, none⟩ = some (.int .i64 x.id.n) := hcell 0 _ rfl
      have x1 : wr.cell? ⟨b, o + k * 4 + 1, none⟩ = some (.int .i64 x.id.r) := hcell 1 _ rfl
      have x2 : wr.cell? ⟨b, o + k * 4 + 2, none⟩ = some (.int .i64 x.ch) := hcell 2 _ rfl
      have x3 : wr.cell? ⟨b, o + k * 4 + 3, none⟩ = some (.bool x.gone) := hcell 3 _ rfl
      have hkk : (k : Int) < (l.length : Int) := by omega
      have hsn : shownL (l.take (k + 1)) = shownL (l.take k) ++ if x.gone = true then [] else [x] := by rw [List.take_add_one, hx, Option.toList_some, shownL_snoc]
      have hle : ((shownL (l.take k)).map (·.id)).length ≤ 4398046510976 := by
        have h1 := shownL_le (l.take k)
        rw [List.length_take] at h1
        rw [List.length_map]
        omega
      have HSN := Lib.hid hsn
      have HB := Lib.hid hB
      have HG := Lib.hid hg
      clear hcc hcell hsn hB hg
      cases hgn : x.gone with
      | true =>
        rw [hgn] at x3
        go_wp2_with fail
        go_roundg (l.length - (k + 1))
        case measure => rw [HG.out]; omega
        case rel => exact ⟨k + 1, rfl, by omega, by simp, by rw [HSN.out, hgn]; simpa using hO.alloc _, HB.out.alloc HB.out.size _⟩
      | false =>
        rw [hgn] at x3
        go_wp2_with (at_builtin; refine wpList_append_struct rfl _ _ _ rfl i0 (.agg #[.int .i64 0, .int .i64 0]) 16 Try.underlying65 hi hz0 hz1' hz2 rfl (by omega) St.len St.one rfl ((hO.alloc _).alloc _) x.id (wr.heap.size + 1) 1 rfl ?_ (by unfold maxLen; omega) (by omega) (by simp; omega) ?_)
        · intro j u hj
          match j, hj with
          | 0, hj => simp [St.cells] at hj; subst hj; go_simp
          | 1, hj => simp [St.cells] at hj; subst hj; go_simp
          | n + 2, hj => simp [St.cells] at hj
        · intro v' w3 hO3 hx3
          go_wp2_with fail
          go_roundg (l.length - (k + 1))
          case measure => rw [HG.out]; omega
          case rel => exact ⟨k + 1, rfl, by omega, by simp, by rw [HSN.out, hgn]; simpa using hO3, Ext.new ((HB.out.alloc HB.out.size _).alloc (by simp; have := HB.out.size; omega) _) hx3 (fun i hi _ e => by have := (hO.blk _ e).1; have := HS0.out; omega) (by simp; have := HB.out.size; omega)⟩
    · obtain rfl : k = l.length := by omega
      rw [List.take_length] at hO
      have hb0 := (hB.block _ (by rw [HS0.out]; omega)).trans HR0.out
      have hb1 := (hB.block _ (by rw [HS0.out]; omega)).trans HR1.out
      have hB2 := HB0.out.trans (hB.mono (by have := HS0.out; omega))
      clear HB0 HS0 HR0 HR1 HW0 hB HC
      have hil : ((shownL l).map (·.id)).length ≤ 4398046510976 := by
        rw [List.length_map]
        have := shownL_le l
        omega
      obtain ⟨ids, hids⟩ : ∃ ids, (shownL l).map (·.id) = ids := ⟨_, rfl⟩
      rw [hids] at hO hil
      have HI := Lib.hid hids
      clear hids
      have hob := hO.blk
      obtain ⟨va', vc', rfl, _, _, hcs⟩ := hO.slice St.len
      have HB2 := Lib.hid hB2
      have HCS := Lib.hid hcs
      clear hB2 hcs hO
      have c00 : wr.cell? ⟨w.heap.size, 0, none⟩ = some (.int .i64 0) := by simp [World.cell?, hb0]
      have c01 : wr.cell? ⟨w.heap.size, 1, none⟩ = some (.int .i64 0) := by simp [World.cell?, hb0]
      have c02 : wr.cell? ⟨w.heap.size, 2, none⟩ = some (.bool false) := by simp [World.cell?, hb0]
      have c10 : wr.cell? ⟨w.heap.size + 1, 0, none⟩ = some (.int .i64 0) := by simp [World.cell?, hb1]
      have c11 : wr.cell? ⟨w.heap.size + 1, 1, none⟩ = some (.int .i64 0) := by simp [World.cell?, hb1]
      have c12 : wr.cell? ⟨w.heap.size + 1, 2, none⟩ = some (.bool false) := by simp [World.cell?, hb1]
      have f00 : wr.frozen? ⟨w.heap.size, 0, none⟩ = false := by simp [World.frozen?, hb0]
      have f01 : wr.frozen? ⟨w.heap.size, 1, none⟩ = false := by simp [World.frozen?, hb0]
      have f02 : wr.frozen? ⟨w.heap.size, 2, none⟩ = false := by simp [World.frozen?, hb0]
      have f10 : wr.frozen? ⟨w.heap.size + 1, 0, none⟩ = false := by simp [World.frozen?, hb1]
      have f11 : wr.frozen? ⟨w.heap.size + 1, 1, none⟩ = false := by simp [World.frozen?, hb1]
      have f12 : wr.frozen? ⟨w.heap.size + 1, 2, none⟩ = false := by simp [World.frozen?, hb1]
      clear hb0 hb1
      by_cases hbad : f < 0 ∨ t ≤ f ∨ (ids.length : Int) < t
      · have hP : ancP ids f t g = _ := ancP_bad hbad
        have HP := Lib.hid hP
        clear hP
        by_cases h1 : f < 0
        · clear hbad
          go_wp2_with fail
          refine bodyPost_ret (results_ccb rfl _ rfl rfl (load_anchor (n := 0) (r := 0) (a := false) ?_ ?_ ?_) (load_anchor (n := 0) (r := 0) (a := false) ?_ ?_ ?_)) rfl ⟨?_, ?_⟩
          · go_simp
          · go_simp
          · go_simp
          · go_simp
          · go_simp
          · go_simp
          · rw [HI.out, HP.out]; rfl
          · refine Ext.new (S := fun b => w.heap.size ≤ b) HB2.out ?_ (fun i hi _ e => by omega) (by omega)
            repeat (first | (with_reducible exact Ext.refl _ _) | ((with_reducible refine Ext.setCell ?_ (.inr ?_) _); rotate_left; (dsimp only; omega)) | (with_reducible refine Ext.alloc ?_ _) | (with_reducible refine Ext.drew ?_))
        · by_cases h2 : t ≤ f
          · clear hbad
            go_wp2_with fail
            refine bodyPost_ret (results_ccb rfl _ rfl rfl (load_anchor (n := 0) (r := 0) (a := false) ?_ ?_ ?_) (load_anchor (n := 0) (r := 0) (a := false) ?_ ?_ ?_)) rfl ⟨?_, ?_⟩
            · go_simp
            · go_simp
            · go_simp
            · go_simp
            · go_simp
            · go_simp
            · rw [HI.out, HP.out]; rfl
            · refine Ext.new (S := fun b => w.heap.size ≤ b) HB2.out ?_ (fun i hi _ e => by omega) (by omega)
              repeat (first | (with_reducible exact Ext.refl _ _) | ((with_reducible refine Ext.setCell ?_ (.inr ?_) _); rotate_left; (dsimp only; omega)) | (with_reducible refine Ext.alloc ?_ _) | (with_reducible refine Ext.drew ?_))
          · have h3 : (ids.length : Int) < t := by omega
            clear hbad
            go_wp2_with fail
            refine bodyPost_ret (results_ccb rfl _ rfl rfl (load_anchor (n := 0) (r := 0) (a := false) ?_ ?_ ?_) (load_anchor (n := 0) (r := 0) (a := false) ?_ ?_ ?_)) rfl ⟨?_, ?_⟩
            · go_simp
            · go_simp
            · go_simp
            · go_simp
            · go_simp
            · go_simp
            · rw [HI.out, HP.out]; rfl
            · refine Ext.new (S := fun b => w.heap.size ≤ b) HB2.out ?_ (fun i hi _ e => by omega) (by omega)
              repeat (first | (with_reducible exact Ext.refl _ _) | ((with_reducible refine Ext.setCell ?_ (.inr ?_) _); rotate_left; (dsimp only; omega)) | (with_reducible refine Ext.alloc ?_ _) | (with_reducible refine Ext.drew ?_))
      · obtain ⟨fn, rfl⟩ : ∃ fn : Nat, f = fn := ⟨f.toNat, by omega⟩
        obtain ⟨tn, rfl⟩ : ∃ tn : Nat, t = (tn : Int) + 1 := ⟨t.toNat - 1, by omega⟩
        have h1 : fn < tn + 1 := by omega
        have h2 : tn + 1 ≤ ids.length := by omega
        obtain ⟨x, hx⟩ : ∃ x, ids[fn]? = some x := ⟨_, List.getElem?_eq_getElem (by omega)⟩
        obtain ⟨y, hy⟩ : ∃ y, ids[tn]? = some y := ⟨_, List.getElem?_eq_getElem (by omega)⟩
        obtain ⟨b, o, rfl, hcc⟩ := HCS.out (by intro e; rw [e] at hx; simp at hx)
        obtain ⟨hb1, hb2⟩ := hob b rfl
        have x0 : wr.cell? ⟨b, o + fn * 2, none⟩ = some (.int .i64 x.n) := hcc fn x hx 0 _ rfl
        have x1 : wr.cell? ⟨b, o + fn * 2 + 1, none⟩ = some (.int .i64 x.r) := hcc fn x hx 1 _ rfl
        have y0 : wr.cell? ⟨b, o + tn * 2, none⟩ = some (.int .i64 y.n) := hcc tn y hy 0 _ rfl
        have y1 : wr.cell? ⟨b, o + tn * 2 + 1, none⟩ = some (.int .i64 y.r) := hcc tn y hy 1 _ rfl
        have i1 : ¬ (fn : Int) < 0 := by omega
        have i2 : ¬ (tn : Int) + 1 ≤ fn := by omega
        have i3 : ¬ (ids.length : Int) < (tn : Int) + 1 := by omega
        have i4 : (fn : Int) < (ids.length : Int) := by omega
        have i5 : (tn : Int) < (ids.length : Int) := by omega
        have i7 : (tn : Int) ≤ 4398046510976 := by omega
        have k0 : w.heap.size < wr.heap.size := by omega
        have k1 : w.heap.size + 1 < wr.heap.size := by omega
        have k2 : ¬ w.heap.size = wr.heap.size := by omega
        have k3 : ¬ w.heap.size + 1 = wr.heap.size := by omega
        have k4 : ¬ b = w.heap.size := by omega
        have k5 : ¬ b = w.heap.size + 1 := by omega
        have i8 : (ids.length : Int) ≤ 4398046510976 := by omega
        by_cases hgg : g = true ∧ tn + 1 < ids.length
        · obtain ⟨rfl, hg2⟩ := hgg
          obtain ⟨z, hz⟩ : ∃ z, ids[tn + 1]? = some z := ⟨_, List.getElem?_eq_getElem (by omega)⟩
          have z0 : wr.cell? ⟨b, o + (tn + 1) * 2, none⟩ = some (.int .i64 z.n) := hcc (tn + 1) z hz 0 _ rfl
          have z1 : wr.cell? ⟨b, o + (tn + 1) * 2 + 1, none⟩ = some (.int .i64 z.r) := hcc (tn + 1) z hz 1 _ rfl
          have i6 : (tn : Int) + 1 < (ids.length : Int) := by omega
          have hP : ancP ids fn (tn + 1) true = _ := ancP_ok h1 h2 hx hy (fun _ _ => hz)
          rw [if_pos ⟨rfl, hg2⟩] at hP
          have HP := Lib.hid hP
          clear hP hbad hcc hx hy hz HCS
          go_wp2_with fail
          go_region
          all_goals
            go_wp2_with fail
            refine bodyPost_ret (results_ccb rfl _ rfl rfl (load_anchor (n := x.n) (r := x.r) (a := false) ?_ ?_ ?_) (load_anchor (n := z.n) (r := z.r) (a := false) ?_ ?_ ?_)) rfl ⟨?_, ?_⟩
            · go_simp
            · go_simp
            · go_simp
            · go_simp
            · go_simp
            · go_simp
            · rw [HI.out, HP.out]; rfl
            · refine Ext.new (S := fun b => w.heap.size ≤ b) HB2.out ?_ (fun i hi _ e => by omega) (by omega)
              repeat (first | (with_reducible exact Ext.refl _ _) | ((with_reducible refine Ext.setCell ?_ (.inr ?_) _); rotate_left; (dsimp only; omega)) | (with_reducible refine Ext.alloc ?_ _) | (with_reducible refine Ext.drew ?_))
        · have hP : ancP ids fn (tn + 1) g = _ := ancP_ok (z := ⟨0, 0⟩) h1 h2 hx hy (fun a b => absurd ⟨a, b⟩ hgg)
          rw [if_neg hgg] at hP
          have HP := Lib.hid hP
          clear hP hbad hcc hx hy HCS
          cases g with
          | true =>
            have i6 : ¬ (tn : Int) + 1 < (ids.length : Int) := fun h => hgg ⟨rfl, by omega⟩
            clear hgg
            go_wp2_with fail
            go_region
            all_goals
              go_wp2_with fail
              refine bodyPost_ret (results_ccb rfl _ rfl rfl (load_anchor (n := x.n) (r := x.r) (a := false) ?_ ?_ ?_) (load_anchor (n := y.n) (r := y.r) (a := true) ?_ ?_ ?_)) rfl ⟨?_, ?_⟩
              · go_simp
              · go_simp
              · go_simp
              · go_simp
              · go_simp
              · go_simp
              · rw [HI.out, HP.out]; rfl
              · refine Ext.new (S := fun b => w.heap.size ≤ b) HB2.out ?_ (fun i hi _ e => by omega) (by omega)
                repeat (first | (with_reducible exact Ext.refl _ _) | ((with_reducible refine Ext.setCell ?_ (.inr ?_) _); rotate_left; (dsimp only; omega)) | (with_reducible refine Ext.alloc ?_ _) | (with_reducible refine Ext.drew ?_))
          | false =>
            clear hgg
            go_wp2_with fail
            go_region
            all_goals
              go_wp2_with fail
              refine bodyPost_ret (results_ccb rfl _ rfl rfl (load_anchor (n := x.n) (r := x.r) (a := false) ?_ ?_ ?_) (load_anchor (n := y.n) (r := y.r) (a := true) ?_ ?_ ?_)) rfl ⟨?_, ?_⟩
              · go_simp
              · go_simp
              · go_simp
              · go_simp
              · go_simp
              · go_simp
              · rw [HI.out, HP.out]; rfl
              · refine Ext.new (S := fun b => w.heap.size ≤ b) HB2.out ?_ (fun i hi _ e => by omega) (by omega)
                repeat (first | (with_reducible exact Ext.refl _ _) | ((with_reducible refine Ext.setCell ?_ (.inr ?_) _); rotate_left; (dsimp only; omega)) | (with_reducible refine Ext.alloc ?_ _) | (with_reducible refine Ext.drew ?_))

end Go.Proofs.Ytlfmkoapddihcaa
