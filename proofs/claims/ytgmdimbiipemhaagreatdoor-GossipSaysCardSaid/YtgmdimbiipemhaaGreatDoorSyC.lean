/- The document's Deltas: a contract. stemmaref08.raw: a contract. stemmaref08.Encode: a contract. The document's frames: contracts of four and Wrap. The document's Ask, Give, Rounds: contracts. stemmalaw21.GossipSays: walked. GossipSays: the row, and its tied card. -/
import Derived.Test.YtgmdimbiipemhaaGreatDoorDiffP08
import Derived.Test.YtgmdimbiipemhaaGreatDoorHeldT
import Derived.Deep.LoopGhost
import Derived.Deep.QuietTactic
import Derived.Deep.CutBlock
import Derived.Deep.DeepCutAuto
import Derived.IntWalk
import Derived.Lib.AppendZeros
import Derived.Test.YtgmdimbiipemhaaGreatDoorFldR08
import Derived.Test.YtgmdimbiipemhaaGreatDoorSyUC
import Derived.Test.YtgmdimbiipemhaaGreatDoorRRuns08
import Derived.Test.YtgmdimbiipemhaaGreatDoorRBools08
import Derived.Laws.Concat
import Derived.Test.YtgmdimbiipemhaaGreatDoorRRight08
import Derived.Test.YtgmdimbiipemhaaGreatDoorSyA
import Derived.Test.YtgmdimbiipemhaaGreatDoorSyB
import Derived.Test.YtgmdimbiipemhaaGreatDoorRVar08
import Derived.Test.YtgmdimbiipemhaaGreatDoorSyUD
import Derived.Test.YtgmdimbiipemhaaGreatDoorTie
import Derived.Test.YtgmdimbiipemhaaGreatDoorCards
import Derived.SevenTiedAt
namespace Go.Proofs.YtgmdimbiipemhaaGreatDoor
open Go.RowKit Go.Deep
set_option linter.unusedSimpArgs false
set_option linter.unusedVariables false
set_option maxRecDepth 20000 in
set_option maxHeartbeats 1000000 in
theorem rdeltas_any (v : Value) (l : List Int) (w : World) (h : SliceIs intc 1 w v l) (hn : l.length ≤ 1000000000000) (hin : ∀ x ∈ l, -9223372036854775808 ≤ x ∧ x ≤ 9223372036854775807) : Calls Tryz.prog 160 #[v] w fun e w' => BytesPost w (runsB (diffsB l)) e w' := by
  obtain ⟨a, cap, rfl, hcap, hmax, -⟩ := id h
  unfold maxLen at hmax
  have HH := Lib.hid h
  have HIN := Lib.hid hin
  obtain ⟨i0, hi, hz0, hz1, hz2⟩ := info_parts info_int
  clear h hin
  go_enter Tryz.func160, Tryz.ntmps160
  go_wp2_with fail
  go_loopg [3, 4] l.length (fun g ov iv wr => ∃ (i : Nat) (s : Sl), g = l.length - i ∧ ov = .slice s.a s.n s.cap ∧ iv = .int .i64 i ∧ i ≤ l.length ∧ Hid (Own intc 1 3 w.heap.size wr (.slice s.a s.n s.cap) (diffsB (l.take i)) ∧ Below w.heap.size w wr))
  case atStart => exact ⟨0, ⟨none, 0, 0⟩, rfl, rfl, rfl, Nat.zero_le _, Lib.hid ⟨Own.nil, Below.refl _ _⟩⟩
  case round =>
    obtain ⟨i, ⟨sa, sn, sc⟩, hg, rfl, rfl, hil, HU⟩ := hrel
    dsimp only at HU ⊢
    have HG := Lib.hid hg
    clear hg
    have hsz := HU.out.2.size
    have hdl : (diffsB (l.take i)).length = i := by rw [diffsB_length, List.length_take]; omega
    by_cases hlt : i < l.length
    · have hi1 : (i : Int) < (l.length : Int) := by omega
      obtain ⟨x, hx⟩ : ∃ x, l[i]? = some x := ⟨_, List.getElem?_eq_getElem (by omega)⟩
      obtain ⟨bb, o, rfl, c0⟩ := (HH.out.below HU.out.2).at1 hx rfl
      cases i with
      | zero =>
        have HD : Hid (diffsB [] ++ [x] = diffsB (l.take 1)) := Lib.hid (by rw [List.take_add_one, hx]; simp [diffsB, diffsF])
        have c00 : wr.cell? ⟨bb, o, none⟩ = some (.int .i64 x) := c0
        clear hx
        go_wp2_with (at_builtin; refine wpList_append_struct rfl _ _ _ rfl i0 _ 8 Tryz.underlying100 hi hz0 hz1 hz2 rfl (by omega) intc_len intc_one rfl (HU.out.1.alloc _) x wr.heap.size 1 rfl (int_new _ x) (by unfold maxLen; omega) (by omega) (by simp; omega) ?_)
        intro v' w3 hown3 hx3
        have hB3 := Ext.new (HU.out.2.alloc HU.out.2.size (.cells #[.int .i64 x] 3)) hx3 (fun i hi _ e => by have := (HU.out.1.blk i e).1; omega) (by simp; omega)
        rw [HD.out] at hown3
        obtain ⟨⟨ua, un, uc⟩, e3⟩ := hown3.sl
        dsimp only at e3
        subst e3
        have HN := Lib.hid (And.intro hown3 hB3)
        clear hown3 hx3 hB3
        go_wp2_with fail
        go_roundg (l.length - 1)
        case measure => rw [HG.out]; omega
        case rel => exact ⟨1, ⟨ua, un, uc⟩, rfl, rfl, by simp, by omega, HN⟩
      | succ j =>
        obtain ⟨y, hy⟩ : ∃ y, l[j]? = some y := ⟨_, List.getElem?_eq_getElem (by omega)⟩
        obtain ⟨bb2, o2, e2, c1⟩ := (HH.out.below HU.out.2).at1 hy rfl
        cases e2
        have hbb : bb < w.heap.size := by
          obtain ⟨b3, o3, e3, c3⟩ := HH.out.at1 hy rfl
          cases e3
          exact cell_lt c3
        have hds := diffsB_take hx hy
        obtain ⟨d, hd⟩ : ∃ d, d = wrapI (x - y) := ⟨_, rfl⟩
        rw [← hd] at hds
        have hin1 := HIN.out x (List.mem_of_getElem? hx)
        have hin2 := HIN.out y (List.mem_of_getElem? hy)
        obtain ⟨xu, hxu⟩ : ∃ xu, IntKind.u64.wrap x = xu := ⟨_, rfl⟩
        obtain ⟨yu, hyu⟩ : ∃ yu, IntKind.u64.wrap y = yu := ⟨_, rfl⟩
        obtain ⟨du, hdu⟩ : ∃ du, IntKind.u64.wrap (xu - yu) = du := ⟨_, rfl⟩
        have hdd : IntKind.i64.wrap du = d := by rw [← hdu, ← hxu, ← hyu, hd, i64_wrap, u64_wrap, u64_wrap, u64_wrap]; unfold wrapI; omega
        have hj1 : IntKind.i64.wrap (((j + 1 : Nat) : Int) - 1) = (j : Int) := by rw [IntWalk.i64_in _ (by omega)]; omega
        have hj0 : IntKind.i64.wrap (j : Int) = (j : Int) := IntWalk.i64_in _ (by omega)
        have hj2 : (j : Int) < (l.length : Int) := by omega
        have HDS := Lib.hid hds
        clear hd hds hx hy hin1 hin2
        go_upto_region 7 with fail
        have hS0 : (fun W : World => W.cell? ⟨bb, o + (j + 1), none⟩ = some (.int .i64 x) ∧ W.cell? ⟨bb, o + j, none⟩ = some (.int .i64 y)) wr.drew := ⟨c0, c1⟩
        refine wp_region_s (fun W : World => W.cell? ⟨bb, o + (j + 1), none⟩ = some (.int .i64 x) ∧ W.cell? ⟨bb, o + j, none⟩ = some (.int .i64 y)) (fun _ => false) (by kernel_rfl) ?_
        have HU1 : Hid (Own intc 1 3 w.heap.size wr.drew (.slice sa sn sc) (diffsB (l.take (j + 1))) ∧ Below w.heap.size w wr.drew) := Lib.hid ⟨HU.out.1.drew, HU.out.2.drew⟩
        clear HU c0 c1 hsz
        generalize wr.drew = W1 at hS0 HU1 ⊢
        refine wpAnyS_take (i := 0) (d := some 20) rfl rfl rfl (by kernel_rfl) (by kernel_rfl) (by kernel_rfl) (by kernel_rfl) (fun _ _ _ h => h) (.inl ⟨by rfl, fun W hW => by go_simp; try rfl⟩) hS0 ?_
        try simp only [Act.put, List.setIfInBounds_toArray, List.set_cons_zero, List.set_cons_succ]
        refine wpAnyS_take (i := 1) (d := some 21) rfl rfl rfl (by kernel_rfl) (by kernel_rfl) (by kernel_rfl) (by kernel_rfl) (fun _ _ _ h => h) (.inl ⟨by rfl, fun W hW => by go_simp; try rfl⟩) hS0 ?_
        try simp only [Act.put, List.setIfInBounds_toArray, List.set_cons_zero, List.set_cons_succ]
        refine wpAnyS_take (i := 2) (d := some 22) rfl rfl rfl (by kernel_rfl) (by kernel_rfl) (by kernel_rfl) (by kernel_rfl) (fun _ _ _ h => h) (.inl ⟨by rfl, fun W hW => by go_simp; try rfl⟩) hS0 ?_
        try simp only [Act.put, List.setIfInBounds_toArray, List.set_cons_zero, List.set_cons_succ]
        refine wpAnyS_take (i := 3) (d := some 23) rfl rfl rfl (by kernel_rfl) (by kernel_rfl) (by kernel_rfl) (by kernel_rfl) (fun _ _ _ h => h) (.inl ⟨by rfl, fun W hW => by go_simp; try rfl⟩) hS0 ?_
        try simp only [Act.put, List.setIfInBounds_toArray, List.set_cons_zero, List.set_cons_succ]
        refine wpAnyS_take (i := 4) (d := some 24) (v := .int .i64 x) rfl rfl rfl (by kernel_rfl) (by kernel_rfl) (by kernel_rfl) (by kernel_rfl) (fun _ _ _ h => h) (.inl ⟨by rfl, fun W hW => by obtain ⟨q0, q1⟩ := hW; go_simp; try rfl⟩) hS0 ?_
        try simp only [Act.put, List.setIfInBounds_toArray, List.set_cons_zero, List.set_cons_succ]
        refine wpAnyS_take (i := 5) (d := some 25) (v := .int .u64 xu) rfl rfl rfl (by kernel_rfl) (by kernel_rfl) (by kernel_rfl) (by kernel_rfl) (fun _ _ _ h => h) (.inl ⟨by rfl, fun W hW => by go_simp; try rfl⟩) hS0 ?_
        try simp only [Act.put, List.setIfInBounds_toArray, List.set_cons_zero, List.set_cons_succ]
        refine wpAnyS_take (i := 6) (d := some 26) rfl rfl rfl (by kernel_rfl) (by kernel_rfl) (by kernel_rfl) (by kernel_rfl) (fun _ _ _ h => h) (.inl ⟨by rfl, fun W hW => by go_simp; try rfl⟩) hS0 ?_
        try simp only [Act.put, List.setIfInBounds_toArray, List.set_cons_zero, List.set_cons_succ]
        refine wpAnyS_take (i := 7) (d := some 27) rfl rfl rfl (by kernel_rfl) (by kernel_rfl) (by kernel_rfl) (by kernel_rfl) (fun _ _ _ h => h) (.inl ⟨by rfl, fun W hW => by go_simp; try rfl⟩) hS0 ?_
        try simp only [Act.put, List.setIfInBounds_toArray, List.set_cons_zero, List.set_cons_succ]
        refine wpAnyS_take (i := 8) (d := some 28) (v := .int .i64 j) rfl rfl rfl (by kernel_rfl) (by kernel_rfl) (by kernel_rfl) (by kernel_rfl) (fun _ _ _ h => h) (.inl ⟨by rfl, fun W hW => by go_simp; try rfl⟩) hS0 ?_
        try simp only [Act.put, List.setIfInBounds_toArray, List.set_cons_zero, List.set_cons_succ]
        refine wpAnyS_take (i := 9) (d := some 29) rfl rfl rfl (by kernel_rfl) (by kernel_rfl) (by kernel_rfl) (by kernel_rfl) (fun _ _ _ h => h) (.inl ⟨by rfl, fun W hW => by go_simp; try rfl⟩) hS0 ?_
        try simp only [Act.put, List.setIfInBounds_toArray, List.set_cons_zero, List.set_cons_succ]
        refine wpAnyS_take (i := 10) (d := some 30) (v := .int .i64 y) rfl rfl rfl (by kernel_rfl) (by kernel_rfl) (by kernel_rfl) (by kernel_rfl) (fun _ _ _ h => h) (.inl ⟨by rfl, fun W hW => by obtain ⟨q0, q1⟩ := hW; go_simp; try rfl⟩) hS0 ?_
        try simp only [Act.put, List.setIfInBounds_toArray, List.set_cons_zero, List.set_cons_succ]
        refine wpAnyS_take (i := 11) (d := some 31) (v := .int .u64 yu) rfl rfl rfl (by kernel_rfl) (by kernel_rfl) (by kernel_rfl) (by kernel_rfl) (fun _ _ _ h => h) (.inl ⟨by rfl, fun W hW => by go_simp; try rfl⟩) hS0 ?_
        try simp only [Act.put, List.setIfInBounds_toArray, List.set_cons_zero, List.set_cons_succ]
        refine wpAnyS_take (i := 12) (d := some 32) (v := .int .u64 du) rfl rfl rfl (by kernel_rfl) (by kernel_rfl) (by kernel_rfl) (by kernel_rfl) (fun _ _ _ h => h) (.inl ⟨by rfl, fun W hW => by go_simp; try rfl⟩) hS0 ?_
        try simp only [Act.put, List.setIfInBounds_toArray, List.set_cons_zero, List.set_cons_succ]
        refine wpAnyS_take (i := 13) (d := some 33) (v := .int .i64 d) rfl rfl rfl (by kernel_rfl) (by kernel_rfl) (by kernel_rfl) (by kernel_rfl) (fun _ _ _ h => h) (.inl ⟨by rfl, fun W hW => by go_simp; try rfl⟩) hS0 ?_
        try simp only [Act.put, List.setIfInBounds_toArray, List.set_cons_zero, List.set_cons_succ]
        have hsz1 := HU1.out.2.size
        obtain ⟨v', w3, hr3, hown3, hx3, -⟩ := append_struct_run (P := Tryz.prog) 100 100 i0 _ 8 Tryz.underlying100 hi hz0 hz1 hz2 rfl (by omega) intc_len intc_one (HU1.out.1.alloc (.cells #[.int .i64 d] 3)) d W1.heap.size 1 (int_new W1 d) (by unfold maxLen; omega) (by omega) (by simp; omega)
        obtain ⟨⟨ua, un, uc⟩, e3⟩ := hown3.sl
        dsimp only at e3
        subst e3
        have hSa : (W1.alloc (.cells #[.int .i64 d] 3)).cell? ⟨bb, o + (j + 1), none⟩ = some (.int .i64 x) ∧ (W1.alloc (.cells #[.int .i64 d] 3)).cell? ⟨bb, o + j, none⟩ = some (.int .i64 y) := ⟨cell_alloc hS0.1 _, cell_alloc hS0.2 _⟩
        have hnb : ¬ (Value.slice sa sn sc).ownBlock = some bb := fun e => by have := (HU1.out.1.blk bb e).1; omega
        have hS3 : w3.cell? ⟨bb, o + (j + 1), none⟩ = some (.int .i64 x) ∧ w3.cell? ⟨bb, o + j, none⟩ = some (.int .i64 y) := ⟨hx3.keep hSa.1 hnb, hx3.keep hSa.2 hnb⟩
        have hB3 := Ext.new (HU1.out.2.alloc HU1.out.2.size (.cells #[.int .i64 d] 3)) hx3 (fun i hi _ e => by have := (HU1.out.1.blk i e).1; omega) (by simp; omega)
        rw [← HDS.out] at hown3
        have HN := Lib.hid (And.intro hown3 hB3)
        refine wpAnyS_ran (i := 14) (d := some 34) (v := .slice (some ⟨W1.heap.size, 0, none⟩) 1 1) (w' := W1.alloc (.cells #[.int .i64 d] 3)) (by kernel_rfl) rfl rfl (by rfl) (by go_simp; try rfl) (fun _ => hSa) ?_
        try simp only [Act.put, List.setIfInBounds_toArray, List.set_cons_zero, List.set_cons_succ]
        refine wpAnyS_ran (i := 15) (d := some 35) (v := .slice ua un uc) (w' := w3) (by kernel_rfl) rfl rfl (by rfl) (exec_append rfl rfl rfl hr3) (fun _ => hS3) ?_
        try simp only [Act.put, List.setIfInBounds_toArray, List.set_cons_zero, List.set_cons_succ]
        refine wpAnyS_ran (i := 16) (d := some 3) (v := .slice ua un uc) (w' := w3) (by kernel_rfl) rfl rfl (by rfl) (by go_simp; try rfl) (fun _ => hS3) ?_
        try simp only [Act.put, List.setIfInBounds_toArray, List.set_cons_zero, List.set_cons_succ]
        refine wpAnyS_done (by kernel_rfl) ?_ _
        clear hS0 hSa hS3 hr3 hx3 hown3 hB3 HU1 hsz1
        go_wp2_with fail
        go_roundg (l.length - (j + 2))
        case measure => rw [HG.out]; omega
        case rel => exact ⟨j + 2, ⟨ua, un, uc⟩, rfl, rfl, by first | rfl | (simp; omega), by omega, HN⟩
    · obtain rfl : i = l.length := by omega
      have hi1 : ¬ (l.length : Int) < (l.length : Int) := by omega
      have HO : Hid (Own intc 1 3 w.heap.size wr (.slice sa sn sc) (diffsB l) ∧ Below w.heap.size w wr) := Lib.hid ⟨by have h1 := HU.out.1; rw [List.take_length] at h1; exact h1, HU.out.2⟩
      clear hlt HU hdl
      go_wp2_with fail
      refine (rruns_any _ (diffsB l) _ (HO.out.1.slice intc_len) (by rw [diffsB_length]; exact hn) (diffsB_in HIN.out)).mono ?_
      rintro e w5 ⟨v5, rfl, hown5, b5⟩
      have HN5 := Lib.hid (And.intro (hown5.mono HO.out.2.size) (HO.out.2.trans (b5.mono HO.out.2.size)))
      clear hown5 b5
      go_wp2_with fail
      go_ret
      exact ⟨_, rfl, HN5.out.1, HN5.out.2⟩
end Go.Proofs.YtgmdimbiipemhaaGreatDoor
namespace Go.Proofs.YtgmdimbiipemhaaGreatDoor
open Go.RowKit Go.Deep
set_option linter.unusedSimpArgs false
set_option linter.unusedVariables false
theorem numC_len (l : List OpD) (c : Nat) : (numC l c).length = l.length := by simp [numC]
theorem numC_take {l : List OpD} {k : Nat} {x : OpD} (hx : l[k]? = some x) (c : Nat) : numC (l.take (k + 1)) c = numC (l.take k) c ++ [fld x c] := by
  unfold numC
  rw [List.take_add_one, hx, Option.toList_some, List.map_append]
  rfl
def catT (l : List OpD) (c : Nat) : ByteArray := ⟨(catC l c).toArray⟩
theorem catT_size (l : List OpD) (c : Nat) : (catT l c).size = (catC l c).length := by
  show (catC l c).toArray.size = _
  simp
theorem catT_take {l : List OpD} {k : Nat} {x : OpD} (hx : l[k]? = some x) (c : Nat) : catT (l.take k) c ++ txt x c = catT (l.take (k + 1)) c := by
  unfold catT
  rw [catC_take hx]
  apply ByteArray.ext
  simp
theorem op_cell {W : World} {b o n cap : Nat} {l : List OpD} (h : SliceIs OpD.cells 26 W (.slice (some ⟨b, o, none⟩) n cap) l) {k : Nat} {x : OpD} (hx : l[k]? = some x) {j : Nat} {u : Value} (hu : x.cells[j]? = some u) : W.cell? ⟨b, o + k * 26 + j, none⟩ = some u := by
  obtain ⟨_, _, e, _, _, h4⟩ := h
  cases e
  obtain ⟨b2, o2, e2, h5⟩ := h4 (by rintro rfl; simp at hx)
  cases e2
  exact h5 k x hx j u hu
set_option maxRecDepth 20000 in
set_option maxHeartbeats 8000000 in
theorem rraw_any (v : Value) (l : List OpD) (w : World) (h : SliceIs OpD.cells 26 w v l) (hwf : ∀ x ∈ l, x.wf) (hn : l.length ≤ 200) (hall : ∀ x ∈ l, x.right = true) :
    Calls Tryz.prog 110 #[v] w fun e w' => ∃ v', e = .returned v' ∧ Own u8c 1 5 w.heap.size w' v' (encB l) ∧ Below w.heap.size w w' := by
  obtain ⟨a, cap, rfl, hcap, hmax, -⟩ := id h
  unfold maxLen at hmax
  have HH := Lib.hid h
  have HWF := Lib.hid hwf
  have HALL := Lib.hid hall
  clear h hwf hall
  have hlw : IntKind.u64.wrap (l.length : Int) = (l.length : Int) := by rw [u64_wrap]; omega
  go_enter Tryz.func110, Tryz.ntmps110
  go_wp2_with fail
  refine (rput_any l.length _ (by omega)).mono ?_
  rintro e w4 ⟨v4, rfl, hown4, b4⟩
  obtain ⟨⟨pa, pn, pc⟩, e4⟩ := hown4.sl
  dsimp only at e4
  subst e4
  have HO : Hid (R4 w w4 (.slice pa pn pc) (putB l.length ++ numsB l 0)) := Lib.hid (by rw [show numsB l 0 = [] from rfl, List.append_nil]; exact ⟨hown4, b4⟩)
  clear hown4 b4 hlw
  go_wp2_with fail
  go_loopg [4, 3] 21 (fun g kv ov wx => ∃ (k : Nat) (s : Sl), g = 21 - k ∧ kv = .int .i64 k ∧ ov = .slice s.a s.n s.cap ∧ k ≤ 21 ∧ Hid (R4 w wx (.slice s.a s.n s.cap) (putB l.length ++ numsB l k)))
  case atStart => exact ⟨0, ⟨pa, pn, pc⟩, rfl, rfl, rfl, by omega, HO⟩
  case round =>
    clear HO
    obtain ⟨k, ⟨ta, tn, tc⟩, hg, rfl, rfl, hk, HR⟩ := hrel
    dsimp only at HR ⊢
    have HG := Lib.hid hg
    clear hg
    obtain ⟨w9, rfl⟩ : ∃ w9, w9 = wr := ⟨_, rfl⟩
    by_cases hlk : k < 21
    · have hk20 : (k : Int) ≤ 20 := by omega
      obtain ⟨i0, hi, hy0, hy1, hy2⟩ := info_parts info_int
      go_wp2_with fail
      go_loopg [6, 5] l.length (fun g kv nv wx => ∃ (j : Nat) (s : Sl), g = l.length - j ∧ kv = .int .i64 j ∧ nv = .slice s.a s.n s.cap ∧ j ≤ l.length ∧ Hid (Own intc 1 3 w9.heap.size wx (.slice s.a s.n s.cap) (numC (l.take j) k) ∧ Below w9.heap.size w9 wx))
      case atStart => exact ⟨0, ⟨none, 0, 0⟩, rfl, rfl, rfl, Nat.zero_le _, Lib.hid ⟨Own.nil, Below.refl _ _⟩⟩
      case round =>
        obtain ⟨j, ⟨sa, sn, sc⟩, hg, rfl, rfl, hj, HI⟩ := hrel
        dsimp only at HI ⊢
        have HG2 := Lib.hid hg
        clear hg
        by_cases hlt : j < l.length
        · have hk1 : (j : Int) < (l.length : Int) := by omega
          have hj0 : (0 : Int) ≤ (j : Int) := by omega
          obtain ⟨x, hx⟩ : ∃ x, l[j]? = some x := ⟨_, List.getElem?_eq_getElem hlt⟩
          have hsl := HH.out.below (HR.out.bel.trans (HI.out.2.mono HR.out.bel.size))
          obtain ⟨b0, o0, rfl⟩ := hsl.some8 (by rintro rfl; simp at hlt)
          have HLD := Lib.hid (sl_load hsl hx)
          have HX := Lib.hid hx
          clear hsl hx
          go_wp2_with ((with_reducible_and_instances refine wpList_ranG (o := ⟨some 32, _, _, _, _, _⟩) (v := .agg x.cells.toArray) ?_ ?_ ?_); rfl; exact exec_load rfl rfl HLD.out)
          refine (rfield_any x k hlk _).mono ?_
          rintro e w3 ⟨rfl, b3⟩
          have HI2 := Lib.hid (HI.out.1.below1 b3)
          have HB3 : Hid (Below w9.heap.size w9 w3) := Lib.hid (HI.out.2.trans (b3.mono HI.out.2.size))
          have HBD : Hid ((numC (l.take j) k).length + 1 ≤ maxLen ∧ ((numC (l.take j) k).length + 1) * 8 ≤ 140737488355328) := Lib.hid (by rw [numC_len, List.length_take]; unfold maxLen; omega)
          obtain ⟨F, hF⟩ : ∃ F, fld x k = F := ⟨_, rfl⟩
          rw [hF]
          have HF := Lib.hid hF
          clear b3 HLD HI hF
          go_wp2_with (at_builtin; refine wpList_append_struct2 rfl _ _ _ rfl i0 _ 8 Tryz.underlying100 hi hy0 hy1 hy2 rfl (by omega) intc_len intc_one rfl (HI2.out.alloc _) F w3.heap.size 1 rfl (int_new _ F) HBD.out.1 HBD.out.2 (by have := HB3.out.size; simp; omega) ?_)
          intro v' w4 hown4 hx4 hn4
          rw [← HF.out, ← numC_take HX.out] at hown4
          obtain ⟨⟨ua, un, uc⟩, e4⟩ := hown4.sl
          dsimp only at e4
          subst e4
          have HN : Hid (Own intc 1 3 w9.heap.size w4 (.slice ua un uc) (numC (l.take (j + 1)) k) ∧ Below w9.heap.size w9 w4) := Lib.hid ⟨hown4, Ext.new (HB3.out.alloc HB3.out.size _) hx4 (fun i hi _ e => by have := (HI2.out.blk i e).1; omega) (by have := HB3.out.size; simp; omega)⟩
          clear hown4 hx4 hn4 HI2 HB3
          go_wp2_with fail
          go_roundg (l.length - (j + 1))
          case measure => rw [HG2.out]; omega
          case rel => exact ⟨j + 1, ⟨ua, un, uc⟩, rfl, by simp, rfl, by omega, HN⟩
        · obtain rfl : j = l.length := by omega
          have hk1 : ¬ (l.length : Int) < (l.length : Int) := by omega
          have HBL : Hid (SliceIs intc 1 wr (.slice sa sn sc) (numC l k)) := Lib.hid (by have := HI.out.1.slice intc_len; rwa [List.take_length] at this)
          have HRR : Hid (R4 w wr (.slice ta tn tc) (putB l.length ++ numsB l k)) := Lib.hid (HR.out.below HI.out.2 (Nat.le_refl _))
          have HCL := Lib.hid (colB_len HWF.out hn hlk)
          have HLEN : Hid ((putB l.length ++ numsB l k).length + (colB l k).length ≤ 140737488355328) := Lib.hid (by have h1 := numsB_len HWF.out hn k (by omega); have h3 := putB_le10 (n := l.length) (by omega); have h4 := HCL.out.1; rw [List.length_append]; omega)
          clear HI HR hlt hj
          go_wp2_with fail
          refine (rdeltas8_any k hlk _).mono ?_
          rintro e w5 ⟨rfl, rfl⟩
          cases hd : dlt k with
          | false =>
            have HCB : Hid (colB l k = runsB (numC l k)) := Lib.hid (by unfold colB; rw [hd]; rfl)
            clear hd
            go_wp2_with fail
            refine (rruns_any _ (numC l k) _ HBL.out (by rw [numC_len]; omega) HCL.out.2).mono ?_
            rintro e w7 ⟨v7, rfl, hown7, b7⟩
            obtain ⟨⟨ua, un, uc⟩, w8, hr8, h8, -⟩ := R4.app (HRR.out.below b7 (Nat.le_refl _)) (hown7.slice u8c_len) (by have := HLEN.out; rw [HCB.out] at this; exact this)
            rw [← HCB.out, List.append_assoc, ← numsB_succ] at h8
            have HN := Lib.hid h8
            clear h8 hown7 b7 HBL HRR HLEN HCL
            go_wp2_with (at_builtin; refine Lib.wpList_append_run _ rfl _ _ _ _ rfl _ _ rfl rfl _ _ hr8 ?_)
            go_roundg (21 - (k + 1))
            case measure => rw [HG.out]; omega
            case rel => exact ⟨k + 1, ⟨ua, un, uc⟩, rfl, by simp, rfl, by omega, HN⟩
          | true =>
            have HCB : Hid (colB l k = runsB (diffsB (numC l k))) := Lib.hid (by unfold colB; rw [hd]; rfl)
            clear hd
            go_wp2_with fail
            refine (rdeltas_any _ (numC l k) _ HBL.out (by rw [numC_len]; omega) HCL.out.2).mono ?_
            rintro e w7 ⟨v7, rfl, hown7, b7⟩
            obtain ⟨⟨ua, un, uc⟩, w8, hr8, h8, -⟩ := R4.app (HRR.out.below b7 (Nat.le_refl _)) (hown7.slice u8c_len) (by have := HLEN.out; rw [HCB.out] at this; exact this)
            rw [← HCB.out, List.append_assoc, ← numsB_succ] at h8
            have HN := Lib.hid h8
            clear h8 hown7 b7 HBL HRR HLEN HCL
            go_wp2_with (at_builtin; refine Lib.wpList_append_run _ rfl _ _ _ _ rfl _ _ rfl rfl _ _ hr8 ?_)
            go_roundg (21 - (k + 1))
            case measure => rw [HG.out]; omega
            case rel => exact ⟨k + 1, ⟨ua, un, uc⟩, rfl, by simp, rfl, by omega, HN⟩
    · obtain rfl : k = 21 := by omega
      have hk20 : ¬ (21 : Int) ≤ 20 := by omega
      have HO : Hid (R4 w w9 (.slice ta tn tc) (putB l.length ++ numsB l 21)) := Lib.hid HR.out
      clear HR hlk hk HG
      obtain ⟨i0, hi, hy0, hy1, hy2⟩ := info_parts info_bt
      go_wp2_with fail
      go_loopg [9, 7, 8] l.length (fun g kv fv tv wx => ∃ (j : Nat) (s r : Sl), g = l.length - j ∧ kv = .int .i64 j ∧ fv = .slice s.a s.n s.cap ∧ tv = .slice r.a r.n r.cap ∧ j ≤ l.length ∧ Hid (Own btc 1 4 w9.heap.size wx (.slice s.a s.n s.cap) (truC (l.take j) 0) ∧ Own btc 1 4 w9.heap.size wx (.slice r.a r.n r.cap) (truC (l.take j) 1) ∧ Below w9.heap.size w9 wx ∧ ∀ b, (Value.slice s.a s.n s.cap).ownBlock = some b → (Value.slice r.a r.n r.cap).ownBlock = some b → False))
      case atStart => exact ⟨0, ⟨none, 0, 0⟩, ⟨none, 0, 0⟩, rfl, rfl, rfl, rfl, Nat.zero_le _, Lib.hid ⟨Own.nil, Own.nil, Below.refl _ _, fun b h => by cases h⟩⟩
      case round =>
        obtain ⟨j, ⟨sa, sn, sc⟩, ⟨ra, rn, rc⟩, hg, rfl, rfl, rfl, hj, HI⟩ := hrel
        dsimp only at HI ⊢
        have HG2 := Lib.hid hg
        clear hg
        by_cases hlt : j < l.length
        · have hk1 : (j : Int) < (l.length : Int) := by omega
          have hj0 : (0 : Int) ≤ (j : Int) := by omega
          obtain ⟨x, hx⟩ : ∃ x, l[j]? = some x := ⟨_, List.getElem?_eq_getElem hlt⟩
          have hsl := HH.out.below (HO.out.bel.trans (HI.out.2.2.1.mono HO.out.bel.size))
          obtain ⟨b0, o0, rfl⟩ := hsl.some8 (by rintro rfl; simp at hlt)
          have cf : wr.cell? ⟨b0, o0 + j * 26 + 22, none⟩ = some (.bool (tru x 0)) := op_cell hsl hx rfl
          have HX := Lib.hid hx
          have HBD : Hid ((truC (l.take j) 0).length + 1 ≤ maxLen ∧ ((truC (l.take j) 0).length + 1) * 1 ≤ 140737488355328) := Lib.hid (by rw [truC_len, List.length_take]; unfold maxLen; omega)
          have HBE : Hid ((truC (l.take j) 1).length + 1 ≤ maxLen ∧ ((truC (l.take j) 1).length + 1) * 1 ≤ 140737488355328) := Lib.hid (by rw [truC_len, List.length_take]; unfold maxLen; omega)
          clear hsl hx
          go_wp2_with (at_builtin; refine wpList_append_struct2 rfl _ _ _ rfl i0 _ 1 Tryz.underlying75 hi hy0 hy1 hy2 rfl (by omega) btc_len btc_one rfl (HI.out.1.alloc _) (tru x 0) wr.heap.size 1 rfl (bt_new _ (tru x 0)) HBD.out.1 HBD.out.2 (by have := HI.out.2.2.1.size; simp; omega) ?_)
          intro v' w4 hown4 hx4 hn4
          rw [← truC_take HX.out] at hown4
          obtain ⟨⟨ua, un, uc⟩, e4⟩ := hown4.sl
          dsimp only at e4
          subst e4
          have HT4 := Lib.hid ((HI.out.2.1.alloc (.cells #[.bool (tru x 0)] 4)).ext hx4 (fun b hb e => HI.out.2.2.2 b e hb))
          have HB4 : Hid (Below w9.heap.size w9 w4) := Lib.hid (Ext.new (HI.out.2.2.1.alloc HI.out.2.2.1.size _) hx4 (fun i hi _ e => by have := (HI.out.1.blk i e).1; omega) (by have := HI.out.2.2.1.size; simp; omega))
          have HO4 := Lib.hid hown4
          have HAP : Hid (∀ b, (Value.slice ua un uc).ownBlock = some b → (Value.slice ra rn rc).ownBlock = some b → False) := Lib.hid (fun b h1 h2 => by
            rcases hn4 b h1 with h3 | h3
            · exact HI.out.2.2.2 b h3 h2
            · have h4 := (HI.out.2.1.blk b h2).2
              try simp at h3
              omega)
          have hsl4 := HH.out.below (HO.out.bel.trans (HB4.out.mono HO.out.bel.size))
          have ct : w4.cell? ⟨b0, o0 + j * 26 + 25, none⟩ = some (.bool (tru x 1)) := op_cell hsl4 HX.out rfl
          clear hown4 hx4 hn4 HI cf hsl4
          go_wp2_with (at_builtin; refine wpList_append_struct2 rfl _ _ _ rfl i0 _ 1 Tryz.underlying75 hi hy0 hy1 hy2 rfl (by omega) btc_len btc_one rfl (HT4.out.alloc _) (tru x 1) w4.heap.size 1 rfl (bt_new _ (tru x 1)) HBE.out.1 HBE.out.2 (by have := HB4.out.size; simp; omega) ?_)
          intro v' w5 hown5 hx5 hn5
          rw [← truC_take HX.out] at hown5
          obtain ⟨⟨qa, qn, qc⟩, e5⟩ := hown5.sl
          dsimp only at e5
          subst e5
          have HN : Hid (Own btc 1 4 w9.heap.size w5 (.slice ua un uc) (truC (l.take (j + 1)) 0) ∧ Own btc 1 4 w9.heap.size w5 (.slice qa qn qc) (truC (l.take (j + 1)) 1) ∧ Below w9.heap.size w9 w5 ∧ ∀ b, (Value.slice ua un uc).ownBlock = some b → (Value.slice qa qn qc).ownBlock = some b → False) := Lib.hid ⟨(HO4.out.alloc _).ext hx5 (fun b hb e => HAP.out b hb e), hown5, Ext.new (HB4.out.alloc HB4.out.size _) hx5 (fun i hi _ e => by have := (HT4.out.blk i e).1; omega) (by have := HB4.out.size; simp; omega), fun b h1 h2 => by
            rcases hn5 b h2 with h3 | h3
            · exact HAP.out b h1 h3
            · have h4 := (HO4.out.blk b h1).2
              try simp at h3
              omega⟩
          clear hown5 hx5 hn5 HT4 HB4 HO4 HAP ct
          go_wp2_with fail
          go_roundg (l.length - (j + 1))
          case measure => rw [HG2.out]; omega
          case rel => exact ⟨j + 1, ⟨ua, un, uc⟩, ⟨qa, qn, qc⟩, rfl, by simp, rfl, rfl, by omega, HN⟩
        · obtain rfl : j = l.length := by omega
          have hk1 : ¬ (l.length : Int) < (l.length : Int) := by omega
          have HF : Hid (SliceIs btc 1 wr (.slice sa sn sc) (truC l 0) ∧ SliceIs btc 1 wr (.slice ra rn rc) (truC l 1) ∧ Own btc 1 4 w9.heap.size wr (.slice ra rn rc) (truC l 1)) := Lib.hid (by have h1 := HI.out.1.slice btc_len; have h2 := HI.out.2.1.slice btc_len; have h3 := HI.out.2.1; rw [List.take_length] at h1 h2 h3; exact ⟨h1, h2, h3⟩)
          have HRR : Hid (R4 w wr (.slice ta tn tc) (putB l.length ++ numsB l 21)) := Lib.hid (HO.out.below HI.out.2.2.1 (Nat.le_refl _))
          have HLEN : Hid ((putB l.length ++ numsB l 21).length + (boolsB (truC l 0)).length + (boolsB (truC l 1)).length ≤ 140737488355328) := Lib.hid (by have h1 := numsB_len HWF.out hn 21 (by omega); have h2 := boolsB_len (l := truC l 0) (by rw [truC_len]; omega); rw [truC_len] at h2; have h4 := boolsB_len (l := truC l 1) (by rw [truC_len]; omega); rw [truC_len] at h4; have h3 := putB_le10 (n := l.length) (by omega); rw [List.length_append]; omega)
          have HAP : Hid (∀ b, (Value.slice ra rn rc).ownBlock = some b → (Value.slice ta tn tc).ownBlock = some b → False) := Lib.hid (fun b h1 h2 => by have h3 := (HF.out.2.2.blk b h1).1; have h4 := (HO.out.own.blk b h2).2; omega)
          clear HI HO hlt hj
          go_wp2_with fail
          refine (rbools_any _ (truC l 0) _ HF.out.1 (by rw [truC_len]; omega)).mono ?_
          rintro e w7 ⟨v7, rfl, hown7, b7⟩
          obtain ⟨⟨ua, un, uc⟩, w8, hr8, h8, hx8⟩ := R4.app (HRR.out.below b7 (Nat.le_refl _)) (hown7.slice u8c_len) (by have := HLEN.out; omega)
          have H8 := Lib.hid h8
          have HT8 := Lib.hid (((HF.out.2.2.below1 b7).ext hx8 (fun b hb e => HAP.out b hb e)).slice btc_len)
          clear h8 hx8 hown7 b7 HF HRR HAP
          go_wp2_with (at_builtin; refine Lib.wpList_append_run _ rfl _ _ _ _ rfl _ _ rfl rfl _ _ hr8 ?_)
          clear hr8
          refine (rbools_any _ (truC l 1) _ HT8.out (by rw [truC_len]; omega)).mono ?_
          rintro e w10 ⟨v10, rfl, hown10, b10⟩
          obtain ⟨⟨za, zn, zc⟩, w11, hr11, h11, -⟩ := R4.app (H8.out.below b10 (Nat.le_refl _)) (hown10.slice u8c_len) (by have := HLEN.out; rw [List.length_append]; omega)
          have HT0 : Hid (R4 w w11 (.slice za zn zc) (putB l.length ++ numsB l 21 ++ trusB l 2 ++ txtsB l 0)) := Lib.hid (by
            have e : trusB l 2 = boolsB (truC l 0) ++ boolsB (truC l 1) := by rw [trusB_succ, trusB_succ]; rfl
            rw [e, show txtsB l 0 = [] from rfl, List.append_nil, ← List.append_assoc]
            exact h11)
          clear h11 hown10 b10 H8 HT8 HLEN hi hy0 hy1 hy2
          go_wp2_with (at_builtin; refine Lib.wpList_append_run _ rfl _ _ _ _ rfl _ _ rfl rfl _ _ hr11 ?_)
          clear hr11
          go_loopg [10, 3] 3 (fun g kv ov wx => ∃ (k : Nat) (s : Sl), g = 3 - k ∧ kv = .int .i64 k ∧ ov = .slice s.a s.n s.cap ∧ k ≤ 3 ∧ Hid (R4 w wx (.slice s.a s.n s.cap) (putB l.length ++ numsB l 21 ++ trusB l 2 ++ txtsB l k)))
          case atStart => exact ⟨0, ⟨za, zn, zc⟩, rfl, rfl, rfl, by omega, HT0⟩
          case round =>
            clear HT0 HG2
            obtain ⟨k, ⟨ta, tn, tc⟩, hg, rfl, rfl, hk, HR⟩ := hrel
            dsimp only at HR ⊢
            have HG := Lib.hid hg
            clear hg
            obtain ⟨w9, rfl⟩ : ∃ w9, w9 = wr := ⟨_, rfl⟩
            by_cases hlk : k < 3
            · have hk3 : (k : Int) < 3 := by omega
              obtain ⟨i0, hi, hy0, hy1, hy2⟩ := info_parts info_int
              go_wp2_with fail
              go_loopg [13, 11, 12] l.length (fun g kv nv sv wx => ∃ (j : Nat) (s : Sl), g = l.length - j ∧ kv = .int .i64 j ∧ nv = .slice s.a s.n s.cap ∧ sv = .string (catT (l.take j) k) ∧ j ≤ l.length ∧ Hid (Own intc 1 3 w9.heap.size wx (.slice s.a s.n s.cap) (lenC (l.take j) k) ∧ Below w9.heap.size w9 wx))
              case atStart => exact ⟨0, ⟨none, 0, 0⟩, rfl, rfl, rfl, rfl, Nat.zero_le _, Lib.hid ⟨Own.nil, Below.refl _ _⟩⟩
              case round =>
                obtain ⟨j, ⟨sa, sn, sc⟩, hg, rfl, rfl, rfl, hj, HI⟩ := hrel
                dsimp only at HI ⊢
                have HG2 := Lib.hid hg
                clear hg
                by_cases hlt : j < l.length
                · have hk1 : (j : Int) < (l.length : Int) := by omega
                  have hj0 : (0 : Int) ≤ (j : Int) := by omega
                  obtain ⟨x, hx⟩ : ∃ x, l[j]? = some x := ⟨_, List.getElem?_eq_getElem hlt⟩
                  have hsl := HH.out.below (HR.out.bel.trans (HI.out.2.mono HR.out.bel.size))
                  obtain ⟨b0, o0, rfl⟩ := hsl.some8 (by rintro rfl; simp at hlt)
                  have HLD := Lib.hid (sl_load hsl hx)
                  have HX := Lib.hid hx
                  have HTX := Lib.hid (OpD.right_txt (HALL.out x (List.mem_of_getElem? hx)) k)
                  have HCT : Hid ((catT (l.take j) k).size ≤ 12800) := Lib.hid (by rw [catT_size]; have := catC_len (l := l.take j) (fun y hy => HALL.out y (List.mem_of_mem_take hy)) k; rw [List.length_take] at this; omega)
                  have HBD : Hid ((lenC (l.take j) k).length + 1 ≤ maxLen ∧ ((lenC (l.take j) k).length + 1) * 8 ≤ 140737488355328) := Lib.hid (by rw [lenC_len, List.length_take]; unfold maxLen; omega)
                  obtain ⟨T, hT⟩ : ∃ T, txt x k = T := ⟨_, rfl⟩
                  obtain ⟨C, hC⟩ : ∃ C, catT (l.take j) k = C := ⟨_, rfl⟩
                  have HT := Lib.hid hT
                  have HC := Lib.hid hC
                  have hsum : ∀ W, (Op.stringOp .add C T).run Tryz.prog W = .ok (.string (C ++ T)) W := fun W => run_string_add_sum W _ _ (by rw [← hC, ← hT]; have := HTX.out; have := HCT.out; omega)
                  rw [hC]
                  clear hsl hx hC
                  go_wp2_with ((with_reducible_and_instances refine wpList_ranG (o := ⟨some 93, _, _, _, _, _⟩) (v := .agg x.cells.toArray) ?_ ?_ ?_); rfl; exact exec_load rfl rfl HLD.out)
                  refine (rtext_any x k hlk _).mono ?_
                  rintro e w3 ⟨rfl, b3⟩
                  rw [hT]
                  have htl : T.size ≤ 64 := by rw [← hT]; exact HTX.out
                  clear hT
                  have HI2 := Lib.hid (HI.out.1.below1 b3)
                  have HB3 : Hid (Below w9.heap.size w9 w3) := Lib.hid (HI.out.2.trans (b3.mono HI.out.2.size))
                  clear b3 HLD HI
                  go_wp2_with (at_builtin; refine wpList_append_struct2 rfl _ _ _ rfl i0 _ 8 Tryz.underlying100 hi hy0 hy1 hy2 rfl (by omega) intc_len intc_one rfl (HI2.out.alloc _) (T.size : Int) w3.heap.size 1 rfl (int_new _ (T.size : Int)) HBD.out.1 HBD.out.2 (by have := HB3.out.size; simp; omega) ?_)
                  intro v' w4 hown4 hx4 hn4
                  rw [← HT.out, ← lenC_take HX.out] at hown4
                  obtain ⟨⟨ua, un, uc⟩, e4⟩ := hown4.sl
                  dsimp only at e4
                  subst e4
                  have HN4 : Hid (Own intc 1 3 w9.heap.size w4 (.slice ua un uc) (lenC (l.take (j + 1)) k) ∧ Below w9.heap.size w9 w4) := Lib.hid ⟨hown4, Ext.new (HB3.out.alloc HB3.out.size _) hx4 (fun i hi _ e => by have := (HI2.out.blk i e).1; omega) (by have := HB3.out.size; simp; omega)⟩
                  have hsl4 := HH.out.below (HR.out.bel.trans (HN4.out.2.mono HR.out.bel.size))
                  have HLD4 := Lib.hid (sl_load hsl4 HX.out)
                  clear hown4 hx4 hn4 HI2 HB3 hsl4
                  go_wp2_with ((with_reducible_and_instances refine wpList_ranG (o := ⟨some 103, _, _, _, _, _⟩) (v := .agg x.cells.toArray) ?_ ?_ ?_); rfl; exact exec_load rfl rfl HLD4.out)
                  refine (rtext_any x k hlk _).mono ?_
                  rintro e w5 ⟨rfl, b5⟩
                  rw [HT.out]
                  have HN : Hid (Own intc 1 3 w9.heap.size w5 (.slice ua un uc) (lenC (l.take (j + 1)) k) ∧ Below w9.heap.size w9 w5) := Lib.hid ⟨HN4.out.1.below1 b5, HN4.out.2.trans (b5.mono HN4.out.2.size)⟩
                  have HCC : Hid (C ++ T = catT (l.take (j + 1)) k) := Lib.hid (by rw [← HC.out, ← HT.out]; exact catT_take HX.out k)
                  clear b5 HN4 HLD4
                  go_wp2_with fail
                  go_roundg (l.length - (j + 1))
                  case measure => rw [HG2.out]; omega
                  case rel => exact ⟨j + 1, ⟨ua, un, uc⟩, rfl, by simp, rfl, by rw [HCC.out], by omega, HN⟩
                · obtain rfl : j = l.length := by omega
                  have hk1 : ¬ (l.length : Int) < (l.length : Int) := by omega
                  have HBL : Hid (SliceIs intc 1 wr (.slice sa sn sc) (lenC l k)) := Lib.hid (by have h1 := HI.out.1.slice intc_len; rw [List.take_length] at h1; exact h1)
                  have HRR : Hid (R4 w wr (.slice ta tn tc) (putB l.length ++ numsB l 21 ++ trusB l 2 ++ txtsB l k)) := Lib.hid (HR.out.below HI.out.2 (Nat.le_refl _))
                  have HLEN : Hid ((putB l.length ++ numsB l 21 ++ trusB l 2 ++ txtsB l k).length + (runsB (lenC l k)).length + (catC l k).length ≤ 140737488355328) := Lib.hid (by have h1 := numsB_len HWF.out hn 21 (by omega); have h2 := trusB_len (l := l) hn 2; have h3 := putB_le10 (n := l.length) (by omega); have h4 := txtsB_len HALL.out hn k; have h5 := lenB_len HALL.out hn k; have h6 := catC_len HALL.out k; rw [List.length_append, List.length_append, List.length_append]; omega)
                  obtain ⟨C, hC⟩ : ∃ C, catT l k = C := ⟨_, rfl⟩
                  have HC := Lib.hid hC
                  rw [List.take_length, hC]
                  clear HI HR hlt hj hC
                  go_wp2_with fail
                  refine (rruns_any _ (lenC l k) _ HBL.out (by rw [lenC_len]; omega) (lenC_in HALL.out k)).mono ?_
                  rintro e w7 ⟨v7, rfl, hown7, b7⟩
                  obtain ⟨⟨ua, un, uc⟩, w8, hr8, h8, -⟩ := R4.app (HRR.out.below b7 (Nat.le_refl _)) (hown7.slice u8c_len) (by have := HLEN.out; omega)
                  have hCs : C.size = (catC l k).length := by rw [← HC.out, catT_size]
                  obtain ⟨⟨xa, xn, xc⟩, w10, hr10, h10, hx10⟩ := app_string h8.own C h8.bel.size (by have := HLEN.out; rw [List.length_append, hCs]; omega)
                  have hCd : C.data.toList = catC l k := by rw [← HC.out]; rfl
                  rw [hCd, List.append_assoc, List.append_assoc, ← txtsB_succ] at h10
                  have HN : Hid (R4 w w10 (.slice xa xn xc) (putB l.length ++ numsB l 21 ++ trusB l 2 ++ txtsB l (k + 1))) := Lib.hid ⟨h10, Ext.new h8.bel hx10 (fun i hi _ e => by have := (h8.own.blk i e).1; omega) h8.bel.size⟩
                  clear h8 h10 hx10 hown7 b7 HBL HRR HLEN hCs hCd
                  go_wp2_with (at_builtin; first | (refine Lib.wpList_append_run _ rfl _ _ _ _ rfl _ _ rfl rfl _ _ hr8 ?_) | (refine Lib.wpList_append_run _ rfl _ _ _ _ rfl _ _ rfl rfl _ _ hr10 ?_))
                  go_roundg (3 - (k + 1))
                  case measure => rw [HG.out]; omega
                  case rel => exact ⟨k + 1, ⟨xa, xn, xc⟩, rfl, by simp, rfl, by omega, HN⟩
            · obtain rfl : k = 3 := by omega
              have hk3 : ¬ (3 : Int) < 3 := by omega
              go_wp2_with fail
              go_ret
              exact ⟨_, rfl, HR.out.own, HR.out.bel⟩
end Go.Proofs.YtgmdimbiipemhaaGreatDoor
namespace Go.Proofs.YtgmdimbiipemhaaGreatDoor
open Go.RowKit Go.Deep
set_option linter.unusedSimpArgs false
set_option linter.unusedVariables false
set_option maxRecDepth 20000 in
set_option maxHeartbeats 2000000 in
theorem rencode8_any (v : Value) (l : List OpD) (w : World) (h : SliceIs OpD.cells 26 w v l) (hwf : ∀ x ∈ l, x.wf) (hn : l.length ≤ 1000000) : Calls Tryz.prog 61 #[v] w fun e w' => EncPost w l e w' := by
  obtain ⟨a, cap, rfl, hcap, hmax, -⟩ := id h
  unfold maxLen at hmax
  have HH := Lib.hid h
  have HWF := Lib.hid hwf
  clear h hwf
  by_cases hbig : 200 < l.length
  · have hb1 : (200 : Int) < (l.length : Int) := by omega
    go_enter Tryz.func61, Tryz.ntmps61
    go_wp2_with fail
    go_ret2
    exact .inr (.inl ⟨hbig, rfl, Below.refl _ _⟩)
  have hb1 : ¬ (200 : Int) < (l.length : Int) := by omega
  go_enter Tryz.func61, Tryz.ntmps61
  go_wp2_with fail
  go_loopg [4] l.length (fun g kv wx => ∃ k : Nat, g = l.length - k ∧ kv = .int .i64 k ∧ k ≤ l.length ∧ Hid ((∀ x ∈ l.take k, x.right = true) ∧ Below w.heap.size w wx))
  case atStart => exact ⟨0, rfl, rfl, Nat.zero_le _, Lib.hid ⟨fun x hx => by simp at hx, Below.refl _ _⟩⟩
  case round =>
    obtain ⟨k, hg, rfl, hk, HR⟩ := hrel
    have HG := Lib.hid hg
    clear hg
    by_cases hlt : k < l.length
    · have hk1 : (k : Int) < (l.length : Int) := by omega
      have hk0 : (0 : Int) ≤ (k : Int) := by omega
      obtain ⟨x, hx⟩ : ∃ x, l[k]? = some x := ⟨_, List.getElem?_eq_getElem hlt⟩
      have hsl := HH.out.below HR.out.2
      obtain ⟨b0, o0, rfl⟩ := hsl.some8 (by rintro rfl; simp at hlt)
      have HLD := Lib.hid (sl_load hsl hx)
      have HX := Lib.hid hx
      have HFT : Hid x.fits := Lib.hid (HWF.out x (List.mem_of_getElem? hx)).1
      clear hsl hx
      go_wp2_with ((with_reducible_and_instances refine wpList_ranG (o := ⟨some 18, _, _, _, _, _⟩) (v := .agg x.cells.toArray) ?_ ?_ ?_); rfl; exact exec_load rfl rfl HLD.out)
      refine (rright7_any x _ HFT.out).mono ?_
      rintro e w3 ⟨rfl, b3⟩
      have HB3 : Hid (Below w.heap.size w w3) := Lib.hid (HR.out.2.trans (b3.mono HR.out.2.size))
      clear b3 HLD
      cases hr : x.right with
      | false =>
        have HBAD : Hid (∃ x ∈ l, x.right = false) := Lib.hid ⟨x, List.mem_of_getElem? HX.out, hr⟩
        clear hr
        go_wp2_with fail
        go_ret2
        exact .inr (.inr ⟨by omega, HBAD.out, rfl, HB3.out⟩)
      | true =>
        have HN : Hid ((∀ y ∈ l.take (k + 1), y.right = true) ∧ Below w.heap.size w w3) := Lib.hid ⟨fun y hy => by
          rw [List.take_add_one, HX.out, Option.toList_some] at hy
          rcases List.mem_append.1 hy with hy | hy
          · exact HR.out.1 y hy
          · rw [List.mem_singleton.1 hy]; exact hr, HB3.out⟩
        clear hr HR HB3
        go_wp2_with fail
        go_roundg (l.length - (k + 1))
        case measure => rw [HG.out]; omega
        case rel => exact ⟨k + 1, rfl, by simp, by omega, HN⟩
    · obtain rfl : k = l.length := by omega
      have hk1 : ¬ (l.length : Int) < (l.length : Int) := by omega
      have HALL : Hid (∀ x ∈ l, x.right = true) := Lib.hid (by have := HR.out.1; rwa [List.take_length] at this)
      have HB : Hid (Below w.heap.size w wr) := Lib.hid HR.out.2
      clear hlt HR hk
      go_wp2_with fail
      refine (rraw_any _ l _ (HH.out.below HB.out) HWF.out (by omega) HALL.out).mono ?_
      rintro e w5 ⟨v5, rfl, ho5, hb5⟩
      have HZ : Hid (Own u8c 1 5 w.heap.size w5 v5 (encB l) ∧ Below w.heap.size w w5) := Lib.hid ⟨ho5.mono HB.out.size, HB.out.trans (hb5.mono HB.out.size)⟩
      clear ho5 hb5
      obtain ⟨⟨qa, qn, qc⟩, eq⟩ := HZ.out.1.sl
      dsimp only at eq
      subst eq
      go_wp2_with fail
      go_ret2
      exact .inl ⟨by omega, HALL.out, _, rfl, HZ.out.1, HZ.out.2⟩
end Go.Proofs.YtgmdimbiipemhaaGreatDoor
namespace Go.Proofs.YtgmdimbiipemhaaGreatDoor
open Go.RowKit Go.Deep
set_option linter.unusedSimpArgs false
set_option linter.unusedVariables false
set_option maxRecDepth 20000 in
set_option maxHeartbeats 2000000 in
theorem four_any (n : Nat) (w : World) (h : n < 4294967296) : Calls Tryz.prog 116 #[.int .u32 (n : Int)] w fun e w' => BytesPost w (fourB n) e w' := by
  have HF := Lib.hid (fourB_eq n)
  obtain ⟨z0, h0⟩ : ∃ z, UInt8.ofNat (n % 256) = z := ⟨_, rfl⟩
  obtain ⟨z1, h1⟩ : ∃ z, UInt8.ofNat (n / 256 % 256) = z := ⟨_, rfl⟩
  obtain ⟨z2, h2⟩ : ∃ z, UInt8.ofNat (n / 65536 % 256) = z := ⟨_, rfl⟩
  obtain ⟨z3, h3⟩ : ∃ z, UInt8.ofNat (n / 16777216 % 256) = z := ⟨_, rfl⟩
  have e0 : (n : Int) % 256 = (z0.toNat : Int) := by rw [← h0, u8_nat (by omega)]; omega
  have e1 : (n : Int) / 256 % 256 = (z1.toNat : Int) := by rw [← h1, u8_nat (by omega)]; omega
  have e2 : (n : Int) / 65536 % 256 = (z2.toNat : Int) := by rw [← h2, u8_nat (by omega)]; omega
  have e3 : (n : Int) / 16777216 = (z3.toNat : Int) := by rw [← h3, u8_nat (by omega)]; omega
  rw [h0, h1, h2, h3] at HF
  have HO := Lib.hid (own_made (base := w.heap.size) (W := w) [z0, z1, z2, z3] (Nat.le_refl _) (by simp))
  have HB : Hid (Below w.heap.size w (w.alloc (.cells ([z0, z1, z2, z3].flatMap u8c).toArray 5))) := Lib.hid ((Below.refl _ _).alloc (Nat.le_refl _) _)
  clear h0 h1 h2 h3
  go_enter Tryz.func116, Tryz.ntmps116
  go_wp2_with fail
  go_ret
  exact ⟨_, rfl, by rw [HF.out]; exact HO.out, HB.out⟩
set_option maxRecDepth 20000 in
set_option maxHeartbeats 4000000 in
theorem rwrap_any (k : UInt8) (v : Value) (body : List UInt8) (w : World) (h : SliceIs u8c 1 w v body) : Calls Tryz.prog 67 #[.int .u8 (k.toNat : Int), v] w fun e w' => WrapPost w k body e w' := by
  obtain ⟨a, cap, rfl, hcap, hmax, -⟩ := id h
  unfold maxLen at hmax
  by_cases hbig : 65536 < body.length
  · have hb1 : (65536 : Int) < (body.length : Int) := by omega
    go_enter Tryz.func67, Tryz.ntmps67
    go_wp2_with fail
    go_ret2
    exact .inr ⟨hbig, rfl, Below.refl _ _⟩
  have hb1 : ¬ (65536 : Int) < (body.length : Int) := by omega
  have hN : body.length ≤ 65536 := by omega
  have HH := Lib.hid h
  have ho1 := own_made (base := w.heap.size) (W := w) [k] (Nat.le_refl _) (by simp)
  have bb1 : Below w.heap.size w (w.alloc (.cells ([k].flatMap u8c).toArray 5)) := (Below.refl _ _).alloc (Nat.le_refl _) _
  have H1 := Lib.hid (And.intro ho1 bb1)
  clear h hbig ho1 bb1
  go_enter Tryz.func67, Tryz.ntmps67
  go_wp2_with fail
  refine (four_any body.length _ (by omega)).mono ?_
  rintro e w2 ⟨v2, rfl, own2, b2⟩
  have ho2 := H1.out.1.below1 b2
  have bb2 : Below w.heap.size w w2 := H1.out.2.trans (b2.mono H1.out.2.size)
  obtain ⟨⟨ua, un, uc⟩, w3, hr3, own3, b3, z3⟩ := bytes_append ho2 bb2 (own2.slice u8c_len) bb2.size (by simp [fourB])
  have hd3 : [k] ++ fourB body.length = headB k body := rfl
  rw [hd3] at own3
  have b4 : Below w3.heap.size w3 (w3.alloc (.cells #[] 5)) := (Below.refl _ _).alloc (Nat.le_refl _) _
  have HX3 := HH.out.below b3
  obtain ⟨⟨sa, sn, sc⟩, w5, hr5, own5, b5, z5⟩ := bytes_append (own_noB (base := w3.heap.size) (Nat.le_refl _)) b4 ((own3.slice u8c_len).below b4) b4.size (by simp [headB, fourB])
  rw [List.nil_append] at own5
  obtain ⟨⟨ta, tn, tc⟩, w6, hr6, own6, b6, z6⟩ := bytes_append own5 b5 (HX3.below b5) z5 (by simp [headB, fourB]; omega)
  have H3 := Lib.hid (And.intro ((own3.slice u8c_len).below b6) (And.intro (HX3.below b6) (b3.trans (b6.mono z3))))
  have H6 := Lib.hid (own6.slice u8c_len)
  clear own2 ho2 bb2 own3 b4 own5 own6 b3 b5 b6 hd3 b2 HX3 z3 z5 z6
  go_wp2_with (first | (at_builtin; refine Lib.wpList_append_run _ rfl _ _ _ _ rfl _ _ rfl rfl _ _ hr3 ?_) | (at_builtin; refine Lib.wpList_append_run _ rfl _ _ _ _ rfl _ _ rfl rfl _ _ hr5 ?_) | (at_builtin; refine Lib.wpList_append_run _ rfl _ _ _ _ rfl _ _ rfl rfl _ _ hr6 ?_))
  clear hr3 hr5 hr6
  refine (rsum_any _ _ _ H6.out).mono ?_
  rintro e w7 ⟨rfl, rfl⟩
  have HC := Lib.hid (crcB_lt (headB k body ++ body))
  obtain ⟨c, hc⟩ : ∃ c, crcB (headB k body ++ body) = c := ⟨_, rfl⟩
  have HCC := Lib.hid hc
  rw [hc] at HC ⊢
  clear hc
  have b7 : Below w6.heap.size w6 (w6.alloc (.cells ([83, 84].flatMap u8c).toArray 5)) := (Below.refl _ _).alloc (Nat.le_refl _) _
  have ho7 := own_made (base := w6.heap.size) (W := w6) [83, 84] (Nat.le_refl _) (by simp)
  obtain ⟨⟨ka, kn, kc⟩, w8, hr8, own8, b8, z8⟩ := bytes_append ho7 b7 (H3.out.1.below b7) b7.size (by simp [headB, fourB])
  have H8 := Lib.hid (And.intro own8 (And.intro b8 z8))
  clear b7 ho7 own8 b8 z8
  go_wp2_with (at_builtin; refine Lib.wpList_append_run _ rfl _ _ _ _ rfl _ _ rfl rfl _ _ hr8 ?_)
  clear hr8
  refine (four_any c w8 HC.out).mono ?_
  rintro e w9 ⟨v9, rfl, own9, b9⟩
  have b69 : Below w6.heap.size w6 w9 := H8.out.2.1.trans (b9.mono H8.out.2.2)
  obtain ⟨⟨la, ln, lc⟩, w10, hr10, own10, b10, z10⟩ := bytes_append (H8.out.1.below1 b9) b69 (own9.slice u8c_len) b69.size (by simp [headB, fourB])
  obtain ⟨⟨ma, mn, mc⟩, w11, hr11, own11, b11, z11⟩ := bytes_append own10 b10 (H3.out.2.1.below b10) z10 (by simp [headB, fourB]; omega)
  have ew : [83, 84] ++ headB k body ++ fourB c ++ body = wrapB k body := by
    unfold wrapB
    rw [HCC.out]
    simp
  rw [ew] at own11
  have HF := Lib.hid (And.intro (own11.mono H3.out.2.2.size) (H3.out.2.2.trans (b11.mono H3.out.2.2.size)))
  clear own9 own10 own11 b9 b69 b10 b11 z10 z11 ew
  go_wp2_with (first | (at_builtin; refine Lib.wpList_append_run _ rfl _ _ _ _ rfl _ _ rfl rfl _ _ hr10 ?_) | (at_builtin; refine Lib.wpList_append_run _ rfl _ _ _ _ rfl _ _ rfl rfl _ _ hr11 ?_))
  go_ret2
  exact .inl ⟨hN, _, rfl, HF.out.1, HF.out.2⟩
end Go.Proofs.YtgmdimbiipemhaaGreatDoor
namespace Go.Proofs.YtgmdimbiipemhaaGreatDoor
open Go.RowKit Go.Deep
set_option linter.unusedSimpArgs false
set_option linter.unusedVariables false
set_option maxRecDepth 20000 in
set_option maxHeartbeats 4000000 in
theorem rask_any (d0 d1 d2 d3 d4 d5 d6 d7 : Int) (w : World) : Calls Tryz.prog 23 #[.agg #[.int .i64 d0, .int .i64 d1, .int .i64 d2, .int .i64 d3, .int .i64 d4, .int .i64 d5, .int .i64 d6, .int .i64 d7]] w fun e w' => AskPost w [d0, d1, d2, d3, d4, d5, d6, d7] e w' := by
  obtain ⟨W0, hW0⟩ : ∃ W0, w.alloc (.cells #[.int .i64 d0, .int .i64 d1, .int .i64 d2, .int .i64 d3, .int .i64 d4, .int .i64 d5, .int .i64 d6, .int .i64 d7] 32) = W0 := ⟨_, rfl⟩
  have HB0 : Hid (Below w.heap.size w W0 ∧ ∀ (k : Nat) (x : Int), ([d0, d1, d2, d3, d4, d5, d6, d7] : List Int)[k]? = some x → W0.cell? ⟨w.heap.size, k, none⟩ = some (.int .i64 x)) := Lib.hid (by
    rw [← hW0]
    exact ⟨(Below.refl _ _).alloc (Nat.le_refl _) _, fun k x hx => cells_new w [.int .i64 d0, .int .i64 d1, .int .i64 d2, .int .i64 d3, .int .i64 d4, .int .i64 d5, .int .i64 d6, .int .i64 d7] _ k _ (vcell21 d0 d1 d2 d3 d4 d5 d6 d7 hx)⟩)
  have HW := Lib.hid hW0
  clear hW0
  obtain ⟨V, hV⟩ : ∃ V : List Int, [d0, d1, d2, d3, d4, d5, d6, d7] = V := ⟨_, rfl⟩
  have hVl : V.length = 8 := by rw [← hV]; rfl
  have HIX := Lib.hid (fun (k : Nat) (x : Int) (hx : V[k]? = some x) (W : World) => vec_index d0 d1 d2 d3 d4 d5 d6 d7 (hV ▸ hx) W)
  rw [hV] at HB0 ⊢
  clear hV
  go_enter Tryz.func23, Tryz.ntmps23
  go_wp2_with fail
  rw [HW.out]
  go_loopg [4, 5] 8 (fun gg bv iv wr => ∃ (k : Nat) (s : Sl), gg = 8 - k ∧ k ≤ 8 ∧ bv = .slice s.a s.n s.cap ∧ iv = .int .i64 k ∧ Hid (Own u8c 1 5 (W0.heap.size) wr (.slice s.a s.n s.cap) (bodyV V k) ∧ Below W0.heap.size W0 wr ∧ InV (V.take k)))
  case atStart => exact ⟨0, ⟨none, 0, 0⟩, rfl, by omega, rfl, rfl, Lib.hid ⟨Own.nil, Below.refl _ _, fun x hx => by simp at hx⟩⟩
  case round =>
    obtain ⟨k, ⟨sa, sn, sc⟩, hg, hk, rfl, rfl, HK⟩ := hrel
    dsimp only at HK ⊢
    have HG := Lib.hid hg
    clear hg
    by_cases hlt : k < 8
    · obtain ⟨x, hx⟩ : ∃ x, V[k]? = some x := ⟨_, List.getElem?_eq_getElem (by omega)⟩
      have hk1 : (k : Int) < 8 := by omega
      have cx := HK.out.2.1.cell (p := ⟨w.heap.size, k, none⟩) (cell_lt (HB0.out.2 k x hx))
      rw [HB0.out.2 k x hx] at cx
      have HX := Lib.hid hx
      clear hx
      by_cases h0 : x < 0
      · have HBAD : Hid (¬ InV V ∧ Below w.heap.size w wr) := Lib.hid ⟨InV.bad HX.out (.inl h0), HB0.out.1.trans (HK.out.2.1.mono HB0.out.1.size)⟩
        go_wp2_with fail
        go_ret2
        exact .inr ⟨HBAD.out.1, rfl, HBAD.out.2⟩
      by_cases h1 : 1048576 < x
      · have HBAD : Hid (¬ InV V ∧ Below w.heap.size w wr) := Lib.hid ⟨InV.bad HX.out (.inr h1), HB0.out.1.trans (HK.out.2.1.mono HB0.out.1.size)⟩
        go_wp2_with fail
        go_ret2
        exact .inr ⟨HBAD.out.1, rfl, HBAD.out.2⟩
      obtain ⟨n, rfl⟩ : ∃ n : Nat, x = (n : Int) := ⟨x.toNat, by omega⟩
      have hn : n ≤ 1048576 := by omega
      go_wp2_with fail
      refine (rput_any n _ (by omega)).mono ?_
      rintro e w5 ⟨v5, rfl, own5, b5⟩
      have b05 : Below W0.heap.size W0 w5 := HK.out.2.1.trans (b5.mono HK.out.2.1.size)
      obtain ⟨⟨ua, un, uc⟩, w6, hr6, own6, b6, z6⟩ := bytes_append (HK.out.1.below1 b5) b05 (own5.slice u8c_len) b05.size (by have h1 := bodyV_len HK.out.2.2 hk; have h2 := (putB_len n 10 (by omega)).2 (by omega); omega)
      rw [← bodyV_step HX.out] at own6
      have HN := Lib.hid (And.intro own6 (And.intro b6 (InV.take_snoc HX.out HK.out.2.2 hn)))
      clear own5 own6 b5 b6 b05 z6
      go_wp2_with (at_builtin; refine Lib.wpList_append_run _ rfl _ _ _ _ rfl _ _ rfl rfl _ _ hr6 ?_)
      go_roundg (8 - (k + 1))
      case measure => rw [HG.out]; omega
      case rel => exact ⟨k + 1, ⟨ua, un, uc⟩, rfl, by omega, rfl, by go_num, HN⟩
    · have hk1 : ¬ (k : Int) < 8 := by omega
      obtain rfl : k = 8 := by omega
      have hall : V.take 8 = V := List.take_of_length_le (by omega)
      have HI : Hid (InV V) := Lib.hid (hall ▸ HK.out.2.2)
      have HE : Hid (wrapB 65 (bodyV V 8) = askB (natV V)) := Lib.hid (by unfold askB bodyV; rw [hall])
      have HBW := Lib.hid (HB0.out.1.trans (HK.out.2.1.mono HB0.out.1.size))
      have HL := Lib.hid (bodyV_len HK.out.2.2 (by omega))
      clear hall
      go_wp2_with fail
      refine (rwrap_any 65 _ (bodyV V 8) _ (HK.out.1.slice u8c_len)).mono ?_
      rintro e w7 (⟨_, v7, rfl, own7, b7⟩ | ⟨h, _⟩)
      rotate_left
      · exact absurd h (by have := HL.out; omega)
      rw [HE.out] at own7
      have HF := Lib.hid (And.intro (own7.mono HBW.out.size) (HBW.out.trans (b7.mono HBW.out.size)))
      clear own7 b7
      go_wp2_with fail
      go_ret2
      exact .inl ⟨HI.out, _, rfl, HF.out.1, HF.out.2⟩
  
set_option maxRecDepth 20000 in
set_option maxHeartbeats 4000000 in
theorem rgive_any (v : Value) (l : List OpD) (w : World) (h : SliceIs OpD.cells 26 w v l) (hwf : ∀ x ∈ l, x.wf) (hn : l.length ≤ 1000000) : Calls Tryz.prog 24 #[v] w fun e w' => GivePost w l e w' := by
  obtain ⟨a, cap, rfl, hcap, hmax, -⟩ := id h
  unfold maxLen at hmax
  have HH := Lib.hid (And.intro h (And.intro hwf hn))
  clear h hwf hn
  go_enter Tryz.func24, Tryz.ntmps24
  go_wp2_with fail
  refine (rencode8_any _ l _ HH.out.1 HH.out.2.1 HH.out.2.2).mono ?_
  rintro e w2 (⟨hl, hr, v2, rfl, own2, b2⟩ | ⟨hl, rfl, b2⟩ | ⟨hl, hr, rfl, b2⟩)
  · obtain ⟨⟨sa, sn, sc⟩, e2⟩ := own2.sl
    dsimp only at e2
    subst e2
    have H2 := Lib.hid (And.intro (own2.slice u8c_len) b2)
    have HR := Lib.hid (And.intro hl hr)
    clear own2 b2 hr hl
    by_cases h0 : l = []
    · have hl0 : l.length = 0 := by rw [h0]; rfl
      have HBAD : Hid (¬ GiveOk l) := Lib.hid (fun h => h.1 h0)
      clear h0
      go_wp2_with fail
      go_ret2
      exact .inr (.inr ⟨HBAD.out, rfl, H2.out.2⟩)
    have hl0 : ¬ (l.length : Int) = 0 := by have := List.length_pos_iff.2 h0; omega
    have HOK : Hid (GiveOk l) := Lib.hid ⟨h0, HR.out.1, HR.out.2⟩
    clear h0
    go_wp2_with fail
    refine (rwrap_any 71 _ (encB l) _ H2.out.1).mono ?_
    rintro e w7 (⟨hs, v7, rfl, own7, b7⟩ | ⟨hs, rfl, b7⟩)
    · have HF := Lib.hid (And.intro (own7.mono H2.out.2.size) (And.intro (H2.out.2.trans (b7.mono H2.out.2.size)) hs))
      clear own7 b7 hs
      go_wp2_with fail
      go_ret2
      exact .inl ⟨HOK.out, HF.out.2.2, _, rfl, HF.out.1, HF.out.2.1⟩
    · have HF := Lib.hid (And.intro (H2.out.2.trans (b7.mono H2.out.2.size)) hs)
      clear b7 hs
      go_wp2_with fail
      go_ret2
      exact .inr (.inl ⟨HOK.out, HF.out.2, rfl, HF.out.1⟩)
  · have HBAD : Hid (¬ GiveOk l ∧ Below w.heap.size w w2) := Lib.hid ⟨fun h => by have := h.2.1; omega, b2⟩
    clear b2 hl
    go_wp2_with fail
    go_ret2
    exact .inr (.inr ⟨HBAD.out.1, rfl, HBAD.out.2⟩)
  · have HBAD : Hid (¬ GiveOk l ∧ Below w.heap.size w w2) := Lib.hid ⟨(fun h => by obtain ⟨x, hx, hxr⟩ := hr; rw [h.2.2 x hx] at hxr; exact absurd hxr (by decide)), b2⟩
    clear b2 hl hr
    go_wp2_with fail
    go_ret2
    exact .inr (.inr ⟨HBAD.out.1, rfl, HBAD.out.2⟩)
  
set_option maxRecDepth 20000 in
set_option maxHeartbeats 4000000 in
theorem rrounds_any (d0 d1 d2 d3 d4 d5 d6 d7 e0 e1 e2 e3 e4 e5 e6 e7 : Int) (w : World) : Calls Tryz.prog 26 #[.agg #[.int .i64 d0, .int .i64 d1, .int .i64 d2, .int .i64 d3, .int .i64 d4, .int .i64 d5, .int .i64 d6, .int .i64 d7], .agg #[.int .i64 e0, .int .i64 e1, .int .i64 e2, .int .i64 e3, .int .i64 e4, .int .i64 e5, .int .i64 e6, .int .i64 e7]] w fun e w' => e = .returned (.int .i64 (aheadV [d0, d1, d2, d3, d4, d5, d6, d7] [e0, e1, e2, e3, e4, e5, e6, e7] 8 : Int)) ∧ Below w.heap.size w w' := by
  obtain ⟨W0, hW0⟩ : ∃ W0, (w.alloc (.cells #[.int .i64 d0, .int .i64 d1, .int .i64 d2, .int .i64 d3, .int .i64 d4, .int .i64 d5, .int .i64 d6, .int .i64 d7] 32)).alloc (.cells #[.int .i64 e0, .int .i64 e1, .int .i64 e2, .int .i64 e3, .int .i64 e4, .int .i64 e5, .int .i64 e6, .int .i64 e7] 32) = W0 := ⟨_, rfl⟩
  have HB0 : Hid (Below w.heap.size w W0 ∧ (∀ (k : Nat) (x : Int), ([d0, d1, d2, d3, d4, d5, d6, d7] : List Int)[k]? = some x → W0.cell? ⟨w.heap.size, k, none⟩ = some (.int .i64 x)) ∧ (∀ (k : Nat) (x : Int), ([e0, e1, e2, e3, e4, e5, e6, e7] : List Int)[k]? = some x → W0.cell? ⟨w.heap.size + 1, k, none⟩ = some (.int .i64 x))) := Lib.hid (by
    rw [← hW0]
    refine ⟨((Below.refl _ _).alloc (Nat.le_refl _) _).alloc (by simp) _, fun k x hx => cell_alloc (cells_new w [.int .i64 d0, .int .i64 d1, .int .i64 d2, .int .i64 d3, .int .i64 d4, .int .i64 d5, .int .i64 d6, .int .i64 d7] _ k _ (vcell21 d0 d1 d2 d3 d4 d5 d6 d7 hx)) _, fun k x hx => ?_⟩
    have := cells_new (w.alloc (.cells #[.int .i64 d0, .int .i64 d1, .int .i64 d2, .int .i64 d3, .int .i64 d4, .int .i64 d5, .int .i64 d6, .int .i64 d7] 32)) [.int .i64 e0, .int .i64 e1, .int .i64 e2, .int .i64 e3, .int .i64 e4, .int .i64 e5, .int .i64 e6, .int .i64 e7] 32 k _ (vcell21 e0 e1 e2 e3 e4 e5 e6 e7 hx)
    rwa [World.size_alloc] at this)
  have HW := Lib.hid hW0
  clear hW0
  obtain ⟨V, hV⟩ : ∃ V : List Int, [d0, d1, d2, d3, d4, d5, d6, d7] = V := ⟨_, rfl⟩
  obtain ⟨U, hU⟩ : ∃ U : List Int, [e0, e1, e2, e3, e4, e5, e6, e7] = U := ⟨_, rfl⟩
  have hVl : V.length = 8 := by rw [← hV]; rfl
  have hUl : U.length = 8 := by rw [← hU]; rfl
  have HIX := Lib.hid (fun (k : Nat) (x : Int) (hx : U[k]? = some x) (W : World) => vec_index e0 e1 e2 e3 e4 e5 e6 e7 (hU ▸ hx) W)
  rw [hV] at HB0 ⊢
  rw [hU] at HB0 ⊢
  clear hV hU
  go_enter Tryz.func26, Tryz.ntmps26
  go_wp2_with fail
  rw [HW.out]
  go_loopg [5, 6] 8 (fun gg nv iv wr => ∃ k : Nat, gg = 8 - k ∧ k ≤ 8 ∧ nv = .int .i64 (aheadV V U k : Int) ∧ iv = .int .i64 k ∧ Hid (Below W0.heap.size W0 wr))
  case atStart => exact ⟨0, rfl, by omega, rfl, rfl, Lib.hid (Below.refl _ _)⟩
  case round =>
    obtain ⟨k, hg, hk, rfl, rfl, HK⟩ := hrel
    have HG := Lib.hid hg
    clear hg
    have hle := aheadV_le V U k
    have HS := Lib.hid (aheadV_step V U k)
    obtain ⟨q, hq⟩ : ∃ q, aheadV V U k = q := ⟨_, rfl⟩
    by_cases hlt : k < 8
    · obtain ⟨x, hx⟩ : ∃ x, V[k]? = some x := ⟨_, List.getElem?_eq_getElem (by omega)⟩
      obtain ⟨y, hy⟩ : ∃ y, U[k]? = some y := ⟨_, List.getElem?_eq_getElem (by omega)⟩
      have hk1 : (k : Int) < 8 := by omega
      have hix := HIX.out k y hy
      have cx := HK.out.cell (p := ⟨w.heap.size, k, none⟩) (cell_lt (HB0.out.2.1 k x hx))
      rw [HB0.out.2.1 k x hx] at cx
      have cy := HK.out.cell (p := ⟨w.heap.size + 1, k, none⟩) (cell_lt (HB0.out.2.2 k y hy))
      rw [HB0.out.2.2 k y hy] at cy
      have hxg : V.getD k 0 = x := by rw [List.getD_eq_getElem?_getD, hx]; rfl
      have hyg : U.getD k 0 = y := by rw [List.getD_eq_getElem?_getD, hy]; rfl
      rw [hxg, hyg, hq] at HS
      rw [hq] at hle ⊢
      clear hx hy hxg hyg hq
      by_cases h0 : x < y
      · have HS2 : Hid (aheadV V U (k + 1) = q + 1) := Lib.hid (by rw [HS.out, if_pos h0])
        have HD : Hid (Below W0.heap.size W0 wr.drew) := Lib.hid HK.out.drew
        go_upto_region 5 with fail
        go_quiet (fail)
        have HD2 : Hid (Below W0.heap.size W0 (wr.drewN nq)) := Lib.hid (below_drewN HK.out nq)
        go_wp2_with fail
        go_roundg (8 - (k + 1))
        case measure => rw [HG.out]; omega
        case rel => exact ⟨k + 1, rfl, by omega, by rw [HS2.out]; go_num, by go_num, HD2⟩
      · have HS2 : Hid (aheadV V U (k + 1) = q) := Lib.hid (by rw [HS.out, if_neg h0]; rfl)
        go_upto_region 5 with fail
        go_quiet (fail)
        have HD2 : Hid (Below W0.heap.size W0 (wr.drewN nq)) := Lib.hid (below_drewN HK.out nq)
        go_wp2_with fail
        go_roundg (8 - (k + 1))
        case measure => rw [HG.out]; omega
        case rel => exact ⟨k + 1, rfl, by omega, by rw [HS2.out], by go_num, HD2⟩
    · have hk1 : ¬ (k : Int) < 8 := by omega
      obtain rfl : k = 8 := by omega
      clear hq HS hle
      have HBW := Lib.hid (HB0.out.1.trans (HK.out.mono HB0.out.1.size))
      go_wp2_with fail
      go_ret
      exact ⟨rfl, HBW.out⟩
  
end Go.Proofs.YtgmdimbiipemhaaGreatDoor
namespace Go.Proofs.YtgmdimbiipemhaaGreatDoor
open Go.RowKit Go.Deep
set_option linter.unusedSimpArgs false
set_option linter.unusedVariables false
open Classical in
noncomputable def askC (V : List Int) : Int := if InV V then 0 else 211
open Classical in
noncomputable def askL (V : List Int) : List UInt8 := if InV V then askB (natV V) else []
open Classical in
noncomputable def giveC (l : List OpD) : Int := if GiveOk l then (if (encB l).length ≤ 65536 then 0 else 1) else 211
open Classical in
noncomputable def giveL (l : List OpD) : List UInt8 := if GiveOk l ∧ (encB l).length ≤ 65536 then giveB l else []
theorem AskPost.fn {w w' : World} {V : List Int} {e : Ending} (h : AskPost w V e w') : ∃ a n cap, e = .returned (.tuple #[.slice a n cap, .int .i64 (askC V)]) ∧ SliceIs u8c 1 w' (.slice a n cap) (askL V) ∧ Below w.heap.size w w' := by
  rcases h with ⟨h, v, rfl, ho, hb⟩ | ⟨h, rfl, hb⟩
  · obtain ⟨⟨a, n, cap⟩, rfl⟩ := ho.sl
    refine ⟨a, n, cap, by unfold askC; rw [if_pos h], ?_, hb⟩
    unfold askL
    rw [if_pos h]
    exact ho.slice u8c_len
  · refine ⟨none, 0, 0, by unfold askC; rw [if_neg h], ?_, hb⟩
    unfold askL
    rw [if_neg h]
    exact SliceIs.nil_any _ _ (by omega)
theorem GivePost.fn {w w' : World} {l : List OpD} {e : Ending} (h : GivePost w l e w') : ∃ a n cap, e = .returned (.tuple #[.slice a n cap, .int .i64 (giveC l)]) ∧ SliceIs u8c 1 w' (.slice a n cap) (giveL l) ∧ Below w.heap.size w w' := by
  rcases h with ⟨h, h2, v, rfl, ho, hb⟩ | ⟨h, h2, rfl, hb⟩ | ⟨h, rfl, hb⟩
  · obtain ⟨⟨a, n, cap⟩, rfl⟩ := ho.sl
    refine ⟨a, n, cap, by unfold giveC; rw [if_pos h, if_pos h2], ?_, hb⟩
    unfold giveL
    rw [if_pos ⟨h, h2⟩]
    exact ho.slice u8c_len
  · refine ⟨none, 0, 0, by unfold giveC; rw [if_pos h, if_neg (by omega)], ?_, hb⟩
    unfold giveL
    rw [if_neg (fun h => by omega)]
    exact SliceIs.nil_any _ _ (by omega)
  · refine ⟨none, 0, 0, by unfold giveC; rw [if_neg h], ?_, hb⟩
    unfold giveL
    rw [if_neg (fun k => h k.1)]
    exact SliceIs.nil_any _ _ (by omega)
structure GSs (w W : World) (V U : List Int) (lv : Value) (l : List OpD) : Prop where
  bel : Below w.heap.size w W
  ops : SliceIs OpD.cells 26 W lv l
  err : ErrTy W
  box : VBox W w.heap.size V
  box2 : VBox W (w.heap.size + 1) U
theorem GSs.below {w W W' : World} {V U : List Int} {lv : Value} {l : List OpD} (h : GSs w W V U lv l) (hb : Below W.heap.size W W') : GSs w W' V U lv l :=
  ⟨h.bel.trans (hb.mono h.bel.size), h.ops.below hb, h.err.below hb, h.box.below hb, h.box2.below hb⟩
set_option maxRecDepth 100000 in
set_option maxHeartbeats 16000000 in
theorem gsays_any (d0 d1 d2 d3 d4 d5 d6 d7 e0 e1 e2 e3 e4 e5 e6 e7 : Int) (lv : Value) (l : List OpD) (w : World) (h : SliceIs OpD.cells 26 w lv l) (hwf : ∀ x ∈ l, x.wf) (hg : ErrTy w) : Calls Tryz.prog 7 #[.agg #[.int .i64 d0, .int .i64 d1, .int .i64 d2, .int .i64 d3, .int .i64 d4, .int .i64 d5, .int .i64 d6, .int .i64 d7], .agg #[.int .i64 e0, .int .i64 e1, .int .i64 e2, .int .i64 e3, .int .i64 e4, .int .i64 e5, .int .i64 e6, .int .i64 e7], lv] w fun e w' => e = .returned (.bool true) ∧ Below w.heap.size w w' := by
  obtain ⟨la, lc, hlv, hlcap, hmax, -⟩ := id h
  unfold maxLen at hmax
  have b1 : Below w.heap.size w ((w.alloc (.cells #[.int .i64 d0, .int .i64 d1, .int .i64 d2, .int .i64 d3, .int .i64 d4, .int .i64 d5, .int .i64 d6, .int .i64 d7] 32)).alloc (.cells #[.int .i64 e0, .int .i64 e1, .int .i64 e2, .int .i64 e3, .int .i64 e4, .int .i64 e5, .int .i64 e6, .int .i64 e7] 32)) := ((Below.refl _ _).alloc (Nat.le_refl _) _).alloc (by simp) _
  have hbx : VBox ((w.alloc (.cells #[.int .i64 d0, .int .i64 d1, .int .i64 d2, .int .i64 d3, .int .i64 d4, .int .i64 d5, .int .i64 d6, .int .i64 d7] 32)).alloc (.cells #[.int .i64 e0, .int .i64 e1, .int .i64 e2, .int .i64 e3, .int .i64 e4, .int .i64 e5, .int .i64 e6, .int .i64 e7] 32)) w.heap.size [d0, d1, d2, d3, d4, d5, d6, d7] := (Below.heap_alloc _ _ _ (by simp)).trans (heap_new8 w _)
  have hby : VBox ((w.alloc (.cells #[.int .i64 d0, .int .i64 d1, .int .i64 d2, .int .i64 d3, .int .i64 d4, .int .i64 d5, .int .i64 d6, .int .i64 d7] 32)).alloc (.cells #[.int .i64 e0, .int .i64 e1, .int .i64 e2, .int .i64 e3, .int .i64 e4, .int .i64 e5, .int .i64 e6, .int .i64 e7] 32)) (w.heap.size + 1) [e0, e1, e2, e3, e4, e5, e6, e7] := by
    have := heap_new8 (w.alloc (.cells #[.int .i64 d0, .int .i64 d1, .int .i64 d2, .int .i64 d3, .int .i64 d4, .int .i64 d5, .int .i64 d6, .int .i64 d7] 32)) (.cells #[.int .i64 e0, .int .i64 e1, .int .i64 e2, .int .i64 e3, .int .i64 e4, .int .i64 e5, .int .i64 e6, .int .i64 e7] 32)
    rw [World.size_alloc] at this
    exact this
  have H1 : Hid (GSs w ((w.alloc (.cells #[.int .i64 d0, .int .i64 d1, .int .i64 d2, .int .i64 d3, .int .i64 d4, .int .i64 d5, .int .i64 d6, .int .i64 d7] 32)).alloc (.cells #[.int .i64 e0, .int .i64 e1, .int .i64 e2, .int .i64 e3, .int .i64 e4, .int .i64 e5, .int .i64 e6, .int .i64 e7] 32)) [d0, d1, d2, d3, d4, d5, d6, d7] [e0, e1, e2, e3, e4, e5, e6, e7] lv l) := Lib.hid ⟨b1, h.below b1, hg.below b1, hbx, hby⟩
  clear b1 hbx hby
  subst hlv
  by_cases hbig : 210 < l.length
  · have hb1 : (210 : Int) < (l.length : Int) := by omega
    go_enter Tryz.func7, Tryz.ntmps7
    go_wp2_with fail
    refine (alive21_any _ H1.out.err).mono ?_
    rintro e w2 ⟨rfl, hb⟩
    have HB : Hid (Below w.heap.size w w2) := Lib.hid (H1.out.bel.trans (hb.mono H1.out.bel.size))
    clear hb
    go_wp2_with fail
    go_ret
    exact ⟨rfl, HB.out⟩
  have hb1 : ¬ (210 : Int) < (l.length : Int) := by omega
  have HWF := Lib.hid (And.intro hwf (show l.length ≤ 1000000 by omega))
  clear h hg hwf hbig
  go_enter Tryz.func7, Tryz.ntmps7
  go_wp2_with fail
  refine (ask_any d0 d1 d2 d3 d4 d5 d6 d7 _).mono ?_
  intro e w2 hp
  obtain ⟨a2, m2, c2, rfl, s2, b2⟩ := hp.fn
  obtain ⟨AC, hAC⟩ : ∃ AC, askC [d0, d1, d2, d3, d4, d5, d6, d7] = AC := ⟨_, rfl⟩
  have HAC := Lib.hid hAC
  rw [hAC]
  have H2 := Lib.hid (And.intro (H1.out.below b2) s2)
  clear hp s2 b2 hAC
  obtain ⟨c0, c1, c2x, c3, c4, c5, c6, c7⟩ := H2.out.1.box.cells
  go_wp2_with fail
  refine (rask_any d0 d1 d2 d3 d4 d5 d6 d7 _).mono ?_
  intro e w3 hp
  obtain ⟨a3, m3, c3x, rfl, s3, b3⟩ := hp.fn
  rw [HAC.out]
  have H3 := Lib.hid (And.intro (H2.out.1.below b3) (And.intro (H2.out.2.below b3) s3))
  clear hp s3 b3 c0 c1 c2x c3 c4 c5 c6 c7 H2
  go_wp2_with fail
  refine (give_any _ l _ H3.out.1.ops HWF.out.1 HWF.out.2).mono ?_
  intro e w4 hp
  obtain ⟨a4, m4, c4, rfl, s4, b4⟩ := hp.fn
  obtain ⟨GC, hGC⟩ : ∃ GC, giveC l = GC := ⟨_, rfl⟩
  have HGC := Lib.hid hGC
  rw [hGC]
  have H4 := Lib.hid (And.intro (H3.out.1.below b4) (And.intro (H3.out.2.1.below b4) (And.intro (H3.out.2.2.below b4) s4)))
  clear hp s4 b4 H3 hGC
  go_wp2_with fail
  refine (rgive_any _ l _ H4.out.1.ops HWF.out.1 HWF.out.2).mono ?_
  intro e w5 hp
  obtain ⟨a5, m5, c5, rfl, s5, b5⟩ := hp.fn
  rw [HGC.out]
  have H5 := Lib.hid (And.intro (H4.out.1.below b5) (And.intro (H4.out.2.1.below b5) (And.intro (H4.out.2.2.1.below b5) (And.intro (H4.out.2.2.2.below b5) s5))))
  clear hp s5 b5 H4
  go_wp2_with fail
  refine (sameB_any H5.out.2.1 H5.out.2.2.1).mono ?_
  rintro e w6 ⟨rfl, rfl⟩
  simp only [decide_true]
  go_wp2_with fail
  refine (sameB_any H5.out.2.2.2.1 H5.out.2.2.2.2).mono ?_
  rintro e w7 ⟨rfl, rfl⟩
  simp only [decide_true]
  go_upto_region 9 with fail
  refine wp_region_s (fun W : World => VBox W w.heap.size [d0, d1, d2, d3, d4, d5, d6, d7] ∧ VBox W (w.heap.size + 1) [e0, e1, e2, e3, e4, e5, e6, e7]) (fun _ => false) (by kernel_rfl) ?_
  have H7 : Hid (GSs w w7.drew [d0, d1, d2, d3, d4, d5, d6, d7] [e0, e1, e2, e3, e4, e5, e6, e7] _ l) := Lib.hid (H5.out.1.below (Below.refl _ _).drew)
  clear H5
  generalize w7.drew = W7 at H7 ⊢
  refine wpAnyS_call (i := 0) (d := some 47) (f := 18) (args := #[]) (w' := W7) (by kernel_rfl) rfl rfl (by rfl) (by go_simp; try rfl) ?_
  refine (alive21_any W7 H7.out.err).mono ?_
  rintro e w8 ⟨rfl, b8⟩
  refine ⟨_, rfl, fun _ => ⟨H7.out.box.below b8, H7.out.box2.below b8⟩, ?_⟩
  try simp only [Act.put, List.setIfInBounds_toArray, List.set_cons_zero, List.set_cons_succ]
  have H8 := Lib.hid (H7.out.below b8)
  have hS0 : (fun W : World => VBox W w.heap.size [d0, d1, d2, d3, d4, d5, d6, d7] ∧ VBox W (w.heap.size + 1) [e0, e1, e2, e3, e4, e5, e6, e7]) w8 := ⟨H8.out.box, H8.out.box2⟩
  clear b8
  refine wpAnyS_take (i := 1) (d := some 48) (v := .bool true) rfl rfl rfl (by kernel_rfl) (by kernel_rfl) (by kernel_rfl) (by kernel_rfl) (fun _ _ _ h => h) (.inl ⟨by rfl, fun W hW => by go_simp; try rfl⟩) hS0 ?_
  try simp only [Act.put, List.setIfInBounds_toArray, List.set_cons_zero, List.set_cons_succ]
  refine wpAnyS_take (i := 2) (d := some 49) (v := .bool true) rfl rfl rfl (by kernel_rfl) (by kernel_rfl) (by kernel_rfl) (by kernel_rfl) (fun _ _ _ h => h) (.inl ⟨by rfl, fun W hW => by go_simp; try rfl⟩) hS0 ?_
  try simp only [Act.put, List.setIfInBounds_toArray, List.set_cons_zero, List.set_cons_succ]
  refine wpAnyS_take (i := 3) (d := some 50) (v := .bool true) rfl rfl rfl (by kernel_rfl) (by kernel_rfl) (by kernel_rfl) (by kernel_rfl) (fun _ _ _ h => h) (.inl ⟨by rfl, fun W hW => by go_simp; try rfl⟩) hS0 ?_
  try simp only [Act.put, List.setIfInBounds_toArray, List.set_cons_zero, List.set_cons_succ]
  refine wpAnyS_take (i := 4) (d := some 51) (v := .bool true) rfl rfl rfl (by kernel_rfl) (by kernel_rfl) (by kernel_rfl) (by kernel_rfl) (fun _ _ _ h => h) (.inl ⟨by rfl, fun W hW => by go_simp; try rfl⟩) hS0 ?_
  try simp only [Act.put, List.setIfInBounds_toArray, List.set_cons_zero, List.set_cons_succ]
  refine wpAnyS_take (i := 5) (d := some 52) rfl rfl rfl (by kernel_rfl) (by kernel_rfl) (by kernel_rfl) (by kernel_rfl) (fun _ _ _ h => h) (.inl ⟨by rfl, fun W hW => by go_simp; try rfl⟩) hS0 ?_
  try simp only [Act.put, List.setIfInBounds_toArray, List.set_cons_zero, List.set_cons_succ]
  refine wpAnyS_take (i := 6) (d := some 53) rfl rfl rfl (by kernel_rfl) (by kernel_rfl) (by kernel_rfl) (by kernel_rfl) (fun _ _ _ h => h) (.inl ⟨by rfl, fun W hW => by go_simp; try rfl⟩) hS0 ?_
  try simp only [Act.put, List.setIfInBounds_toArray, List.set_cons_zero, List.set_cons_succ]
  refine wpAnyS_take (i := 7) (d := some 54) (v := .bool true) rfl rfl rfl (by kernel_rfl) (by kernel_rfl) (by kernel_rfl) (by kernel_rfl) (fun _ _ _ h => h) (.inl ⟨by rfl, fun W hW => by go_simp; try rfl⟩) hS0 ?_
  try simp only [Act.put, List.setIfInBounds_toArray, List.set_cons_zero, List.set_cons_succ]
  refine wpAnyS_take (i := 8) (d := some 55) (v := .bool true) rfl rfl rfl (by kernel_rfl) (by kernel_rfl) (by kernel_rfl) (by kernel_rfl) (fun _ _ _ h => h) (.inl ⟨by rfl, fun W hW => by go_simp; try rfl⟩) hS0 ?_
  try simp only [Act.put, List.setIfInBounds_toArray, List.set_cons_zero, List.set_cons_succ]
  refine wpAnyS_take (i := 9) (d := some 56) (v := .bool true) rfl rfl rfl (by kernel_rfl) (by kernel_rfl) (by kernel_rfl) (by kernel_rfl) (fun _ _ _ h => h) (.inl ⟨by rfl, fun W hW => by go_simp; try rfl⟩) hS0 ?_
  try simp only [Act.put, List.setIfInBounds_toArray, List.set_cons_zero, List.set_cons_succ]
  refine wpAnyS_take (i := 10) (d := some 57) (v := .bool true) rfl rfl rfl (by kernel_rfl) (by kernel_rfl) (by kernel_rfl) (by kernel_rfl) (fun _ _ _ h => h) (.inl ⟨by rfl, fun W hW => by go_simp; try rfl⟩) hS0 ?_
  try simp only [Act.put, List.setIfInBounds_toArray, List.set_cons_zero, List.set_cons_succ]
  refine wpAnyS_take (i := 11) (d := some 58) (v := .bool true) rfl rfl rfl (by kernel_rfl) (by kernel_rfl) (by kernel_rfl) (by kernel_rfl) (fun _ _ _ h => h) (.inl ⟨by rfl, fun W hW => by go_simp; try rfl⟩) hS0 ?_
  try simp only [Act.put, List.setIfInBounds_toArray, List.set_cons_zero, List.set_cons_succ]
  refine wpAnyS_take (i := 12) (d := some 59) (v := .bool true) rfl rfl rfl (by kernel_rfl) (by kernel_rfl) (by kernel_rfl) (by kernel_rfl) (fun _ _ _ h => h) (.inl ⟨by rfl, fun W hW => by go_simp; try rfl⟩) hS0 ?_
  try simp only [Act.put, List.setIfInBounds_toArray, List.set_cons_zero, List.set_cons_succ]
  refine wpAnyS_take (i := 13) (d := some 60) rfl rfl rfl (by kernel_rfl) (by kernel_rfl) (by kernel_rfl) (by kernel_rfl) (fun _ _ _ h => h) (.inl ⟨by rfl, fun W hW => by go_simp; try rfl⟩) hS0 ?_
  try simp only [Act.put, List.setIfInBounds_toArray, List.set_cons_zero, List.set_cons_succ]
  refine wpAnyS_take (i := 14) (d := some 61) rfl rfl rfl (by kernel_rfl) (by kernel_rfl) (by kernel_rfl) (by kernel_rfl) (fun _ _ _ h => h) (.inl ⟨by rfl, fun W hW => by go_simp; try rfl⟩) hS0 ?_
  try simp only [Act.put, List.setIfInBounds_toArray, List.set_cons_zero, List.set_cons_succ]
  refine wpAnyS_take (i := 15) (d := some 62) (v := .bool true) rfl rfl rfl (by kernel_rfl) (by kernel_rfl) (by kernel_rfl) (by kernel_rfl) (fun _ _ _ h => h) (.inl ⟨by rfl, fun W hW => by go_simp; try rfl⟩) hS0 ?_
  try simp only [Act.put, List.setIfInBounds_toArray, List.set_cons_zero, List.set_cons_succ]
  refine wpAnyS_take (i := 16) (d := some 63) (v := .bool true) rfl rfl rfl (by kernel_rfl) (by kernel_rfl) (by kernel_rfl) (by kernel_rfl) (fun _ _ _ h => h) (.inl ⟨by rfl, fun W hW => by go_simp; try rfl⟩) hS0 ?_
  try simp only [Act.put, List.setIfInBounds_toArray, List.set_cons_zero, List.set_cons_succ]
  refine wpAnyS_take (i := 17) (d := some 64) (v := .bool true) rfl rfl rfl (by kernel_rfl) (by kernel_rfl) (by kernel_rfl) (by kernel_rfl) (fun _ _ _ h => h) (.inl ⟨by rfl, fun W hW => by go_simp; try rfl⟩) hS0 ?_
  try simp only [Act.put, List.setIfInBounds_toArray, List.set_cons_zero, List.set_cons_succ]
  refine wpAnyS_take (i := 18) (d := some 65) (v := .agg #[.int .i64 d0, .int .i64 d1, .int .i64 d2, .int .i64 d3, .int .i64 d4, .int .i64 d5, .int .i64 d6, .int .i64 d7]) rfl rfl rfl (by kernel_rfl) (by kernel_rfl) (by kernel_rfl) (by kernel_rfl) (fun _ _ _ h => h) (.inl ⟨by rfl, fun W hW => by obtain ⟨z0, z1, z2, z3, z4, z5, z6, z7⟩ := hW.1.cells; go_simp; try rfl⟩) hS0 ?_
  try simp only [Act.put, List.setIfInBounds_toArray, List.set_cons_zero, List.set_cons_succ]
  refine wpAnyS_take (i := 19) (d := some 66) (v := .agg #[.int .i64 e0, .int .i64 e1, .int .i64 e2, .int .i64 e3, .int .i64 e4, .int .i64 e5, .int .i64 e6, .int .i64 e7]) rfl rfl rfl (by kernel_rfl) (by kernel_rfl) (by kernel_rfl) (by kernel_rfl) (fun _ _ _ h => h) (.inl ⟨by rfl, fun W hW => by obtain ⟨z0, z1, z2, z3, z4, z5, z6, z7⟩ := hW.2.cells; go_simp; try rfl⟩) hS0 ?_
  try simp only [Act.put, List.setIfInBounds_toArray, List.set_cons_zero, List.set_cons_succ]
  refine wpAnyS_take (i := 21) (d := some 68) (v := .agg #[.int .i64 d0, .int .i64 d1, .int .i64 d2, .int .i64 d3, .int .i64 d4, .int .i64 d5, .int .i64 d6, .int .i64 d7]) rfl rfl rfl (by kernel_rfl) (by kernel_rfl) (by kernel_rfl) (by kernel_rfl) (fun _ _ _ h => h) (.inl ⟨by rfl, fun W hW => by obtain ⟨z0, z1, z2, z3, z4, z5, z6, z7⟩ := hW.1.cells; go_simp; try rfl⟩) hS0 ?_
  try simp only [Act.put, List.setIfInBounds_toArray, List.set_cons_zero, List.set_cons_succ]
  refine wpAnyS_take (i := 22) (d := some 69) (v := .agg #[.int .i64 e0, .int .i64 e1, .int .i64 e2, .int .i64 e3, .int .i64 e4, .int .i64 e5, .int .i64 e6, .int .i64 e7]) rfl rfl rfl (by kernel_rfl) (by kernel_rfl) (by kernel_rfl) (by kernel_rfl) (fun _ _ _ h => h) (.inl ⟨by rfl, fun W hW => by obtain ⟨z0, z1, z2, z3, z4, z5, z6, z7⟩ := hW.2.cells; go_simp; try rfl⟩) hS0 ?_
  try simp only [Act.put, List.setIfInBounds_toArray, List.set_cons_zero, List.set_cons_succ]
  refine wpAnyS_call (i := 20) (d := some 67) (f := 25) (args := #[.agg #[.int .i64 d0, .int .i64 d1, .int .i64 d2, .int .i64 d3, .int .i64 d4, .int .i64 d5, .int .i64 d6, .int .i64 d7], .agg #[.int .i64 e0, .int .i64 e1, .int .i64 e2, .int .i64 e3, .int .i64 e4, .int .i64 e5, .int .i64 e6, .int .i64 e7]]) (w' := w8) (by kernel_rfl) rfl rfl (by rfl) (by go_simp; try rfl) ?_
  refine (rounds_any d0 d1 d2 d3 d4 d5 d6 d7 e0 e1 e2 e3 e4 e5 e6 e7 w8).mono ?_
  rintro e w9 ⟨rfl, b9⟩
  refine ⟨_, rfl, fun _ => ⟨H8.out.box.below b9, H8.out.box2.below b9⟩, ?_⟩
  try simp only [Act.put, List.setIfInBounds_toArray, List.set_cons_zero, List.set_cons_succ]
  obtain ⟨q, hq⟩ : ∃ q, aheadV [d0, d1, d2, d3, d4, d5, d6, d7] [e0, e1, e2, e3, e4, e5, e6, e7] 8 = q := ⟨_, rfl⟩
  have HQ := Lib.hid hq
  rw [hq]
  clear hq
  have H9 := Lib.hid (H8.out.below b9)
  clear b9
  refine wpAnyS_call (i := 23) (d := some 70) (f := 26) (args := #[.agg #[.int .i64 d0, .int .i64 d1, .int .i64 d2, .int .i64 d3, .int .i64 d4, .int .i64 d5, .int .i64 d6, .int .i64 d7], .agg #[.int .i64 e0, .int .i64 e1, .int .i64 e2, .int .i64 e3, .int .i64 e4, .int .i64 e5, .int .i64 e6, .int .i64 e7]]) (w' := w9) (by kernel_rfl) rfl rfl (by rfl) (by go_simp; try rfl) ?_
  refine (rrounds_any d0 d1 d2 d3 d4 d5 d6 d7 e0 e1 e2 e3 e4 e5 e6 e7 w9).mono ?_
  rintro e w10 ⟨rfl, b10⟩
  rw [HQ.out]
  refine ⟨_, rfl, fun _ => ⟨H9.out.box.below b10, H9.out.box2.below b10⟩, ?_⟩
  try simp only [Act.put, List.setIfInBounds_toArray, List.set_cons_zero, List.set_cons_succ]
  have H10 := Lib.hid (H9.out.below b10)
  have hS9 : (fun W : World => VBox W w.heap.size [d0, d1, d2, d3, d4, d5, d6, d7] ∧ VBox W (w.heap.size + 1) [e0, e1, e2, e3, e4, e5, e6, e7]) w10 := ⟨H10.out.box, H10.out.box2⟩
  clear b10
  refine wpAnyS_take (i := 24) (d := some 71) (v := .bool true) rfl rfl rfl (by kernel_rfl) (by kernel_rfl) (by kernel_rfl) (by kernel_rfl) (fun _ _ _ h => h) (.inl ⟨by rfl, fun W hW => by go_simp; try rfl⟩) hS9 ?_
  try simp only [Act.put, List.setIfInBounds_toArray, List.set_cons_zero, List.set_cons_succ]
  refine wpAnyS_take (i := 25) (d := some 72) (v := .bool true) rfl rfl rfl (by kernel_rfl) (by kernel_rfl) (by kernel_rfl) (by kernel_rfl) (fun _ _ _ h => h) (.inl ⟨by rfl, fun W hW => by go_simp; try rfl⟩) hS9 ?_
  try simp only [Act.put, List.setIfInBounds_toArray, List.set_cons_zero, List.set_cons_succ]
  refine wpAnyS_take (i := 26) (d := some 6) (v := .bool true) rfl rfl rfl (by kernel_rfl) (by kernel_rfl) (by kernel_rfl) (by kernel_rfl) (fun _ _ _ h => h) (.inl ⟨by rfl, fun W hW => by go_simp; try rfl⟩) hS9 ?_
  try simp only [Act.put, List.setIfInBounds_toArray, List.set_cons_zero, List.set_cons_succ]
  refine wpAnyS_done (by kernel_rfl) ?_ _
  go_wp2_with fail
  go_ret
  exact ⟨rfl, H10.out.bel⟩
end Go.Proofs.YtgmdimbiipemhaaGreatDoor
namespace Go.Proofs.YtgmdimbiipemhaaGreatDoor
open Go Go.ChangeShapes Go.WideShapes Go.ChangeAt Go.RowKit
set_option linter.unusedSimpArgs false
set_option linter.unusedVariables false
set_option maxRecDepth 100000 in
theorem gossipSays_lifted (os : Os) (started : os.Started) (H : Type) (enc : TypeId × Value → H) :
    ReturnsInHanded {} Tryz.checked os 7 .any (fun w args => (Rows.gossipSaysSpec.pre enc Tryz.prog Tryz.f7 [] false w args ∧ laidMetH Tryz.prog laidL w) ∧ sizedMet enc Tryz.prog Tryz.f7 (OpenSpec.ofChange Rows.gossipSaysSpec) false w args)
      (Rows.gossipSaysSpec.post enc Tryz.prog Tryz.f7 false true false false) := by
  refine returnsInHanded_of_change_and (C := Tryz.checked) (X := fun w _ => laidMetH Tryz.prog laidL w) (fun _ _ _ hh h => h.of_heap hh) Tryz.own started (by kernel_rfl) Tryz.func7
    (ChangeSpec.witness_shaped (enc := enc) (C := Tryz.checked) (os := os) (X := fun w _ => laidMetH Tryz.prog laidL w) false (worldL os) #[.agg #[.int .i64 0, .int .i64 0, .int .i64 0, .int .i64 0, .int .i64 0, .int .i64 0, .int .i64 0, .int .i64 0], .agg #[.int .i64 0, .int .i64 0, .int .i64 0, .int .i64 0, .int .i64 0, .int .i64 0, .int .i64 0, .int .i64 0], .slice none 0 0] 8 (worldL_os os) (World.shaped_of_ZipB (by kernel_rfl) (by kernel_rfl)) (by kernel_rfl) (by kernel_rfl) (by kernel_rfl) (worldL_met os _)) ?_
  intro W base args ds gs before hval0 hW _ _ hL _
  have hval : ∀ (j : Nat) t v, Tryz.f7.params[j]? = some t → args[j]? = some v → Value.okWide Tryz.prog W .any base t v := hval0
  have hW' := hW
  obtain ⟨p, q, hA0, hV, rfl, hfz, hnd⟩ := hW
  have hA : DataW.TrodAll enc Tryz.prog W 0 (fun _ => true) true Tryz.f7.params.toList args.toList ds p := hA0
  rw [Tryz.params7] at hA hval
  obtain ⟨v0, vs0, d0, ds0, p0, q0, hargs, rfl, rfl, h0, r0⟩ := trodAll_cons hA
  obtain ⟨v1, vs1, d1, ds1, p1, q1, rfl, rfl, rfl, h1, r1⟩ := trodAll_cons r0
  obtain ⟨v2, vs2, d2, ds2, p2, q2, rfl, rfl, rfl, h2, r2⟩ := trodAll_cons r1
  obtain ⟨rfl, rfl, rfl⟩ := trodAll_nil r2
  obtain rfl : args = #[v0, v1, v2] := by cases args; simp_all
  obtain ⟨rfl, rfl⟩ := trodVars_none hV
  have k0 := h0
  have lt0 : ∀ x ∈ p0, x.block < W.heap.size := by obtain ⟨m, hm⟩ := k0; exact DataW.trod_lt m _ _ _ hm
  have k1 := h1
  have lt1 : ∀ x ∈ p1, x.block < W.heap.size := by obtain ⟨m, hm⟩ := k1; exact DataW.trod_lt m _ _ _ hm
  have k2 := h2
  have lt2 : ∀ x ∈ p2, x.block < W.heap.size := by obtain ⟨m, hm⟩ := k2; exact DataW.trod_lt m _ _ _ hm
  obtain ⟨z0, z1, z2, z3, z4, z5, z6, z7, rfl⟩ := open_vec8 (hval 0 32 v0 rfl rfl) h0
  obtain ⟨y0, y1, y2, y3, y4, y5, y6, y7, rfl⟩ := open_vec8 (hval 1 32 v1 rfl rfl) h1
  obtain ⟨l, hv1, hw1⟩ := open_opsR (hval 2 24 v2 rfl rfl) h2
  clear hA0 hval0
  refine (gsays_any z0 z1 z2 z3 z4 z5 z6 z7 y0 y1 y2 y3 y4 y5 y6 y7 v2 l W hv1 hw1 (errTy_of_laid hL)).mono fun e W' ⟨he, bel⟩ => ?_
  subst he
  exact ⟨_, rfl, _, _, _, [], _, [], hW', trodAll_mk1 (shut_bool Tryz.underlying4 _), (trodAll_cons_mk (Below.trod Tryz.laidOut (by kernel_rfl) (of_decide_eq_true (by kernel_rfl)) k0 bel lt0) (trodAll_cons_mk (Below.trod Tryz.laidOut (by kernel_rfl) (of_decide_eq_true (by kernel_rfl)) k1 bel lt1) (trodAll_cons_mk (Below.trod Tryz.laidOut (by kernel_rfl) (of_decide_eq_true (by kernel_rfl)) k2 bel lt2) trodAll_mk0))), rfl, bel.frame _, fun h => by cases h⟩
theorem gossipSays_holds : Rows.GossipSaysSaid :=
  OpenClaim.holds_of_wide 7 Tryz.f7 rfl rfl rfl rfl rfl rfl rfl ⟨rfl, rfl, rfl, rfl, rfl⟩ rfl rfl rfl rfl rfl (by kernel_rfl) Tryz.func7 (by kernel_rfl)
    (of_decide_eq_true (by kernel_rfl)) (by unfold Func.isWrapper; first | (rw [if_pos (by decide +kernel)]; kernel_rfl) | (rw [if_neg (by decide +kernel)]; exact ⟨rfl, rfl⟩))
    (fun os started H enc _ => gossipSays_lifted os started H enc)
theorem gossipSays_card : Rows.GossipSaysCardSaid :=
  Claim7.holds_tied_plain_at .later [] [.data, .handle, .pinned] true Rows.gossipSaysCard.stood.harness true
    gossipSays_holds (fun _ h => by cases h) (by kernel_rfl) (fun _ h => by cases h) gossipSays_row_tie rfl ⟨rfl, rfl⟩ (by kernel_rfl) rfl
    (fun f fn hf hfn => by
      obtain rfl : f = 7 := Option.some.inj ((show Tryz.prog.funcNamed "stemma/stemmalaw21.GossipSays" = some 7 by kernel_rfl).symm.trans hf) |>.symm
      obtain rfl : fn = Tryz.f7 := (Option.some.inj (Tryz.func7.symm.trans hfn)).symm
      exact ⟨by kernel_rfl, fun j t ht => by
        rw [Tryz.params7] at ht
        have hm : t ∈ [32, 32, 24] := by simpa using Array.mem_of_getElem? ht
        have hall : ([32, 32, 24].all fun u => !Tryz.prog.wantsStandIn u) = true := by kernel_rfl
        exact (show Tryz.prog.wantsStandIn t = false by simpa using List.all_eq_true.1 hall t hm)⟩)
    (by kernel_rfl)
#print axioms gossipSays_card
end Go.Proofs.YtgmdimbiipemhaaGreatDoor
