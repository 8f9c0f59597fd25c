/- The document's Deltas: a contract. A contract of stemmaref03.Same. A contract of stemmaref07.Same. stemmaref08.field, text, deltas: contracts. stemmaref08.raw: a contract. stemmaref08.Encode: a contract. stemmalaw08.BatchEncodes: walked. BatchEncodes: the row, and its tied card. -/
import Derived.Test.YtdlnokbeadkdfaaGreatDoorDiffP08
import Derived.Test.YtdlnokbeadkdfaaGreatDoorHeldT
import Derived.Deep.LoopGhost
import Derived.Deep.QuietTactic
import Derived.Deep.CutBlock
import Derived.Deep.DeepCutAuto
import Derived.IntWalk
import Derived.Lib.AppendZeros
import Derived.Test.YtdlnokbeadkdfaaGreatDoorCnv08
import Derived.Test.YtdlnokbeadkdfaaGreatDoorEqOp08
import Derived.Test.YtdlnokbeadkdfaaGreatDoorEncG08
import Derived.Test.YtdlnokbeadkdfaaGreatDoorEncP08
import Derived.Test.YtdlnokbeadkdfaaGreatDoorBox08
import Derived.Test.YtdlnokbeadkdfaaGreatDoorRRuns08
import Derived.Test.YtdlnokbeadkdfaaGreatDoorRBools08
import Derived.Laws.Concat
import Derived.Test.YtdlnokbeadkdfaaGreatDoorRRG08
import Derived.Test.YtdlnokbeadkdfaaGreatDoorDecG08
import Derived.Test.YtdlnokbeadkdfaaGreatDoorTie
import Derived.Test.YtdlnokbeadkdfaaGreatDoorCards
import Derived.SevenTiedAt
namespace Go.Proofs.YtdlnokbeadkdfaaGreatDoor
open Go.RowKit Go.Deep
set_option linter.unusedSimpArgs false
set_option linter.unusedVariables false

set_option maxRecDepth 20000 in
set_option maxHeartbeats 1000000 in
theorem rdeltas_any (v : Value) (l : List Int) (w : World) (h : SliceIs intc 1 w v l) (hn : l.length ≤ 1000000000000) (hin : ∀ x ∈ l, -9223372036854775808 ≤ x ∧ x ≤ 9223372036854775807) : Calls Tryz.prog 54 #[v] w fun e w' => BytesPost w (runsB (diffsB l)) e w' := by
  obtain ⟨a, cap, rfl, hcap, hmax, -⟩ := id h
  unfold maxLen at hmax
  have HH := Lib.hid h
  have HIN := Lib.hid hin
  obtain ⟨i0, hi, hz0, hz1, hz2⟩ := info_parts info_int
  clear h hin
  go_enter Tryz.func54, Tryz.ntmps54
  go_wp2_with fail
  go_loopg [3, 4] l.length (fun g ov iv wr => ∃ (i : Nat) (s : Sl), g = l.length - i ∧ ov = .slice s.a s.n s.cap ∧ iv = .int .i64 i ∧ i ≤ l.length ∧ Hid (Own intc 1 3 w.heap.size wr (.slice s.a s.n s.cap) (diffsB (l.take i)) ∧ Below w.heap.size w wr))
  case atStart => exact ⟨0, ⟨none, 0, 0⟩, rfl, rfl, rfl, Nat.zero_le _, Lib.hid ⟨Own.nil, Below.refl _ _⟩⟩
  case round =>
    obtain ⟨i, ⟨sa, sn, sc⟩, hg, rfl, rfl, hil, HU⟩ := hrel
    dsimp only at HU ⊢
    have HG := Lib.hid hg
    clear hg
    have hsz := HU.out.2.size
    have hdl : (diffsB (l.take i)).length = i := by rw [diffsB_length, List.length_take]; omega
    by_cases hlt : i < l.length
    · have hi1 : (i : Int) < (l.length : Int) := by omega
      obtain ⟨x, hx⟩ : ∃ x, l[i]? = some x := ⟨_, List.getElem?_eq_getElem (by omega)⟩
      obtain ⟨bb, o, rfl, c0⟩ := (HH.out.below HU.out.2).at1 hx rfl
      cases i with
      | zero =>
        have HD : Hid (diffsB [] ++ [x] = diffsB (l.take 1)) := Lib.hid (by rw [List.take_add_one, hx]; simp [diffsB, diffsF])
        have c00 : wr.cell? ⟨bb, o, none⟩ = some (.int .i64 x) := c0
        clear hx
        go_wp2_with (at_builtin; refine wpList_append_struct rfl _ _ _ rfl i0 _ 8 Tryz.underlying53 hi hz0 hz1 hz2 rfl (by omega) intc_len intc_one rfl (HU.out.1.alloc _) x wr.heap.size 1 rfl (int_new _ x) (by unfold maxLen; omega) (by omega) (by simp; omega) ?_)
        intro v' w3 hown3 hx3
        have hB3 := Ext.new (HU.out.2.alloc HU.out.2.size (.cells #[.int .i64 x] 3)) hx3 (fun i hi _ e => by have := (HU.out.1.blk i e).1; omega) (by simp; omega)
        rw [HD.out] at hown3
        obtain ⟨⟨ua, un, uc⟩, e3⟩ := hown3.sl
        dsimp only at e3
        subst e3
        have HN := Lib.hid (And.intro hown3 hB3)
        clear hown3 hx3 hB3
        go_wp2_with fail
        go_roundg (l.length - 1)
        case measure => rw [HG.out]; omega
        case rel => exact ⟨1, ⟨ua, un, uc⟩, rfl, rfl, by simp, by omega, HN⟩
      | succ j =>
        obtain ⟨y, hy⟩ : ∃ y, l[j]? = some y := ⟨_, List.getElem?_eq_getElem (by omega)⟩
        obtain ⟨bb2, o2, e2, c1⟩ := (HH.out.below HU.out.2).at1 hy rfl
        cases e2
        have hbb : bb < w.heap.size := by
          obtain ⟨b3, o3, e3, c3⟩ := HH.out.at1 hy rfl
          cases e3
          exact cell_lt c3
        have hds := diffsB_take hx hy
        obtain ⟨d, hd⟩ : ∃ d, d = wrapI (x - y) := ⟨_, rfl⟩
        rw [← hd] at hds
        have hin1 := HIN.out x (List.mem_of_getElem? hx)
        have hin2 := HIN.out y (List.mem_of_getElem? hy)
        obtain ⟨xu, hxu⟩ : ∃ xu, IntKind.u64.wrap x = xu := ⟨_, rfl⟩
        obtain ⟨yu, hyu⟩ : ∃ yu, IntKind.u64.wrap y = yu := ⟨_, rfl⟩
        obtain ⟨du, hdu⟩ : ∃ du, IntKind.u64.wrap (xu - yu) = du := ⟨_, rfl⟩
        have hdd : IntKind.i64.wrap du = d := by rw [← hdu, ← hxu, ← hyu, hd, i64_wrap, u64_wrap, u64_wrap, u64_wrap]; unfold wrapI; omega
        have hj1 : IntKind.i64.wrap (((j + 1 : Nat) : Int) - 1) = (j : Int) := by rw [IntWalk.i64_in _ (by omega)]; omega
        have hj0 : IntKind.i64.wrap (j : Int) = (j : Int) := IntWalk.i64_in _ (by omega)
        have hj2 : (j : Int) < (l.length : Int) := by omega
        have HDS := Lib.hid hds
        clear hd hds hx hy hin1 hin2
        go_upto_region 7 with fail
        have hS0 : (fun W : World => W.cell? ⟨bb, o + (j + 1), none⟩ = some (.int .i64 x) ∧ W.cell? ⟨bb, o + j, none⟩ = some (.int .i64 y)) wr.drew := ⟨c0, c1⟩
        refine wp_region_s (fun W : World => W.cell? ⟨bb, o + (j + 1), none⟩ = some (.int .i64 x) ∧ W.cell? ⟨bb, o + j, none⟩ = some (.int .i64 y)) (fun _ => false) (by kernel_rfl) ?_
        have HU1 : Hid (Own intc 1 3 w.heap.size wr.drew (.slice sa sn sc) (diffsB (l.take (j + 1))) ∧ Below w.heap.size w wr.drew) := Lib.hid ⟨HU.out.1.drew, HU.out.2.drew⟩
        clear HU c0 c1 hsz
        generalize wr.drew = W1 at hS0 HU1 ⊢
        refine wpAnyS_take (i := 0) (d := some 20) rfl rfl rfl (by kernel_rfl) (by kernel_rfl) (by kernel_rfl) (by kernel_rfl) (fun _ _ _ h => h) (.inl ⟨by rfl, fun W hW => by go_simp; try rfl⟩) hS0 ?_
        try simp only [Act.put, List.setIfInBounds_toArray, List.set_cons_zero, List.set_cons_succ]
        refine wpAnyS_take (i := 1) (d := some 21) rfl rfl rfl (by kernel_rfl) (by kernel_rfl) (by kernel_rfl) (by kernel_rfl) (fun _ _ _ h => h) (.inl ⟨by rfl, fun W hW => by go_simp; try rfl⟩) hS0 ?_
        try simp only [Act.put, List.setIfInBounds_toArray, List.set_cons_zero, List.set_cons_succ]
        refine wpAnyS_take (i := 2) (d := some 22) rfl rfl rfl (by kernel_rfl) (by kernel_rfl) (by kernel_rfl) (by kernel_rfl) (fun _ _ _ h => h) (.inl ⟨by rfl, fun W hW => by go_simp; try rfl⟩) hS0 ?_
        try simp only [Act.put, List.setIfInBounds_toArray, List.set_cons_zero, List.set_cons_succ]
        refine wpAnyS_take (i := 3) (d := some 23) rfl rfl rfl (by kernel_rfl) (by kernel_rfl) (by kernel_rfl) (by kernel_rfl) (fun _ _ _ h => h) (.inl ⟨by rfl, fun W hW => by go_simp; try rfl⟩) hS0 ?_
        try simp only [Act.put, List.setIfInBounds_toArray, List.set_cons_zero, List.set_cons_succ]
        refine wpAnyS_take (i := 4) (d := some 24) (v := .int .i64 x) rfl rfl rfl (by kernel_rfl) (by kernel_rfl) (by kernel_rfl) (by kernel_rfl) (fun _ _ _ h => h) (.inl ⟨by rfl, fun W hW => by obtain ⟨q0, q1⟩ := hW; go_simp; try rfl⟩) hS0 ?_
        try simp only [Act.put, List.setIfInBounds_toArray, List.set_cons_zero, List.set_cons_succ]
        refine wpAnyS_take (i := 5) (d := some 25) (v := .int .u64 xu) rfl rfl rfl (by kernel_rfl) (by kernel_rfl) (by kernel_rfl) (by kernel_rfl) (fun _ _ _ h => h) (.inl ⟨by rfl, fun W hW => by go_simp; try rfl⟩) hS0 ?_
        try simp only [Act.put, List.setIfInBounds_toArray, List.set_cons_zero, List.set_cons_succ]
        refine wpAnyS_take (i := 6) (d := some 26) rfl rfl rfl (by kernel_rfl) (by kernel_rfl) (by kernel_rfl) (by kernel_rfl) (fun _ _ _ h => h) (.inl ⟨by rfl, fun W hW => by go_simp; try rfl⟩) hS0 ?_
        try simp only [Act.put, List.setIfInBounds_toArray, List.set_cons_zero, List.set_cons_succ]
        refine wpAnyS_take (i := 7) (d := some 27) rfl rfl rfl (by kernel_rfl) (by kernel_rfl) (by kernel_rfl) (by kernel_rfl) (fun _ _ _ h => h) (.inl ⟨by rfl, fun W hW => by go_simp; try rfl⟩) hS0 ?_
        try simp only [Act.put, List.setIfInBounds_toArray, List.set_cons_zero, List.set_cons_succ]
        refine wpAnyS_take (i := 8) (d := some 28) (v := .int .i64 j) rfl rfl rfl (by kernel_rfl) (by kernel_rfl) (by kernel_rfl) (by kernel_rfl) (fun _ _ _ h => h) (.inl ⟨by rfl, fun W hW => by go_simp; try rfl⟩) hS0 ?_
        try simp only [Act.put, List.setIfInBounds_toArray, List.set_cons_zero, List.set_cons_succ]
        refine wpAnyS_take (i := 9) (d := some 29) rfl rfl rfl (by kernel_rfl) (by kernel_rfl) (by kernel_rfl) (by kernel_rfl) (fun _ _ _ h => h) (.inl ⟨by rfl, fun W hW => by go_simp; try rfl⟩) hS0 ?_
        try simp only [Act.put, List.setIfInBounds_toArray, List.set_cons_zero, List.set_cons_succ]
        refine wpAnyS_take (i := 10) (d := some 30) (v := .int .i64 y) rfl rfl rfl (by kernel_rfl) (by kernel_rfl) (by kernel_rfl) (by kernel_rfl) (fun _ _ _ h => h) (.inl ⟨by rfl, fun W hW => by obtain ⟨q0, q1⟩ := hW; go_simp; try rfl⟩) hS0 ?_
        try simp only [Act.put, List.setIfInBounds_toArray, List.set_cons_zero, List.set_cons_succ]
        refine wpAnyS_take (i := 11) (d := some 31) (v := .int .u64 yu) rfl rfl rfl (by kernel_rfl) (by kernel_rfl) (by kernel_rfl) (by kernel_rfl) (fun _ _ _ h => h) (.inl ⟨by rfl, fun W hW => by go_simp; try rfl⟩) hS0 ?_
        try simp only [Act.put, List.setIfInBounds_toArray, List.set_cons_zero, List.set_cons_succ]
        refine wpAnyS_take (i := 12) (d := some 32) (v := .int .u64 du) rfl rfl rfl (by kernel_rfl) (by kernel_rfl) (by kernel_rfl) (by kernel_rfl) (fun _ _ _ h => h) (.inl ⟨by rfl, fun W hW => by go_simp; try rfl⟩) hS0 ?_
        try simp only [Act.put, List.setIfInBounds_toArray, List.set_cons_zero, List.set_cons_succ]
        refine wpAnyS_take (i := 13) (d := some 33) (v := .int .i64 d) rfl rfl rfl (by kernel_rfl) (by kernel_rfl) (by kernel_rfl) (by kernel_rfl) (fun _ _ _ h => h) (.inl ⟨by rfl, fun W hW => by go_simp; try rfl⟩) hS0 ?_
        try simp only [Act.put, List.setIfInBounds_toArray, List.set_cons_zero, List.set_cons_succ]
        have hsz1 := HU1.out.2.size
        obtain ⟨v', w3, hr3, hown3, hx3, -⟩ := append_struct_run (P := Tryz.prog) 53 53 i0 _ 8 Tryz.underlying53 hi hz0 hz1 hz2 rfl (by omega) intc_len intc_one (HU1.out.1.alloc (.cells #[.int .i64 d] 3)) d W1.heap.size 1 (int_new W1 d) (by unfold maxLen; omega) (by omega) (by simp; omega)
        obtain ⟨⟨ua, un, uc⟩, e3⟩ := hown3.sl
        dsimp only at e3
        subst e3
        have hSa : (W1.alloc (.cells #[.int .i64 d] 3)).cell? ⟨bb, o + (j + 1), none⟩ = some (.int .i64 x) ∧ (W1.alloc (.cells #[.int .i64 d] 3)).cell? ⟨bb, o + j, none⟩ = some (.int .i64 y) := ⟨cell_alloc hS0.1 _, cell_alloc hS0.2 _⟩
        have hnb : ¬ (Value.slice sa sn sc).ownBlock = some bb := fun e => by have := (HU1.out.1.blk bb e).1; omega
        have hS3 : w3.cell? ⟨bb, o + (j + 1), none⟩ = some (.int .i64 x) ∧ w3.cell? ⟨bb, o + j, none⟩ = some (.int .i64 y) := ⟨hx3.keep hSa.1 hnb, hx3.keep hSa.2 hnb⟩
        have hB3 := Ext.new (HU1.out.2.alloc HU1.out.2.size (.cells #[.int .i64 d] 3)) hx3 (fun i hi _ e => by have := (HU1.out.1.blk i e).1; omega) (by simp; omega)
        rw [← HDS.out] at hown3
        have HN := Lib.hid (And.intro hown3 hB3)
        refine wpAnyS_ran (i := 14) (d := some 34) (v := .slice (some ⟨W1.heap.size, 0, none⟩) 1 1) (w' := W1.alloc (.cells #[.int .i64 d] 3)) (by kernel_rfl) rfl rfl (by rfl) (by go_simp; try rfl) (fun _ => hSa) ?_
        try simp only [Act.put, List.setIfInBounds_toArray, List.set_cons_zero, List.set_cons_succ]
        refine wpAnyS_ran (i := 15) (d := some 35) (v := .slice ua un uc) (w' := w3) (by kernel_rfl) rfl rfl (by rfl) (exec_append rfl rfl rfl hr3) (fun _ => hS3) ?_
        try simp only [Act.put, List.setIfInBounds_toArray, List.set_cons_zero, List.set_cons_succ]
        refine wpAnyS_ran (i := 16) (d := some 3) (v := .slice ua un uc) (w' := w3) (by kernel_rfl) rfl rfl (by rfl) (by go_simp; try rfl) (fun _ => hS3) ?_
        try simp only [Act.put, List.setIfInBounds_toArray, List.set_cons_zero, List.set_cons_succ]
        refine wpAnyS_done (by kernel_rfl) ?_ _
        clear hS0 hSa hS3 hr3 hx3 hown3 hB3 HU1 hsz1
        go_wp2_with fail
        go_roundg (l.length - (j + 2))
        case measure => rw [HG.out]; omega
        case rel => exact ⟨j + 2, ⟨ua, un, uc⟩, rfl, rfl, by first | rfl | (simp; omega), by omega, HN⟩
    · obtain rfl : i = l.length := by omega
      have hi1 : ¬ (l.length : Int) < (l.length : Int) := by omega
      have HO : Hid (Own intc 1 3 w.heap.size wr (.slice sa sn sc) (diffsB l) ∧ Below w.heap.size w wr) := Lib.hid ⟨by have h1 := HU.out.1; rw [List.take_length] at h1; exact h1, HU.out.2⟩
      clear hlt HU hdl
      go_wp2_with fail
      refine (rruns_any _ (diffsB l) _ (HO.out.1.slice intc_len) (by rw [diffsB_length]; exact hn) (diffsB_in HIN.out)).mono ?_
      rintro e w5 ⟨v5, rfl, hown5, b5⟩
      have HN5 := Lib.hid (And.intro (hown5.mono HO.out.2.size) (HO.out.2.trans (b5.mono HO.out.2.size)))
      clear hown5 b5
      go_wp2_with fail
      go_ret
      exact ⟨_, rfl, HN5.out.1, HN5.out.2⟩

end Go.Proofs.YtdlnokbeadkdfaaGreatDoor

namespace Go.Proofs.YtdlnokbeadkdfaaGreatDoor
open Go.RowKit Go.Deep
set_option linter.unusedSimpArgs false
set_option linter.unusedVariables false

set_option maxRecDepth 20000 in
set_option maxHeartbeats 1000000 in
theorem sameB_any {w : World} {v1 v2 : Value} {l1 l2 : List UInt8} (h1 : SliceIs u8c 1 w v1 l1) (h2 : SliceIs u8c 1 w v2 l2) :
    Calls Tryz.prog 9 #[v1, v2] w fun e w' => e = .returned (.bool (decide (l1 = l2))) ∧ w' = w := by
  have c1 := conv_bytes h1
  have c2 := conv_bytes h2
  obtain ⟨a1, k1, rfl, _⟩ := id h1
  obtain ⟨a2, k2, rfl, _⟩ := id h2
  clear h1 h2
  by_cases he : l1 = l2
  · subst he
    go_enter Tryz.func9, Tryz.ntmps9
    go_wp2
    go_ret
    exact ⟨by simp, rfl⟩
  · have hn : (⟨l1.toArray⟩ : ByteArray) ≠ ⟨l2.toArray⟩ := fun e => he (by cases e; rfl)
    obtain ⟨n1, n2⟩ := str_ne he
    have hd : decide (l1 = l2) = false := decide_eq_false he
    go_enter Tryz.func9, Tryz.ntmps9
    go_wp2
    go_ret
    exact ⟨by first | (rw [hd]; rfl) | simp [he, n1, n2], rfl⟩


end Go.Proofs.YtdlnokbeadkdfaaGreatDoor

namespace Go.Proofs.YtdlnokbeadkdfaaGreatDoor
open Go.RowKit Go.Deep
set_option linter.unusedSimpArgs false
set_option linter.unusedVariables false

theorem op_neq {P : Program} {o : Oper} {ρ : Operand → Value} {T T' : TypeId} {x y : Operand} {A B : Array Value} {v : Value} {W : World} (ho : o.op = .binOp .neq T x y T') (hx : ρ x = .agg A) (hy : ρ y = .agg B)
    (hg : P.eqGuardType P.depth T = false) (h : (binOp .neq T (.agg A) (.agg B)).run P W = .ok v W) : (execOp ρ o).run P W = .ok (.value v) W := by
  unfold execOp
  simp only [ho, hx, hy, eqGuard, Sem.run_bind, Sem.run_pure, Result.andThen_ok]
  simp [hg, h, Result.andThen]
theorem take_same {α : Type} {a b : List α} {k : Nat} {x : α} (h : a.take k = b.take k) (ha : a[k]? = some x) (hb : b[k]? = some x) : a.take (k + 1) = b.take (k + 1) := by
  rw [List.take_add_one, List.take_add_one, h, ha, hb]
set_option maxRecDepth 20000 in
set_option maxHeartbeats 1000000 in
theorem same7_any (va vb : Value) (la lb : List OpD) (w : World) (ha : SliceIs OpD.cells 26 w va la) (hb : SliceIs OpD.cells 26 w vb lb) :
    Calls Tryz.prog 10 #[va, vb] w fun e w' => e = .returned (.bool (decide (la = lb))) ∧ Below w.heap.size w w' := by
  obtain ⟨aa, ca, rfl, hca, hma, -⟩ := id ha
  obtain ⟨ab, cb, rfl, hcb, hmb, -⟩ := id hb
  unfold maxLen at hma hmb
  by_cases hl : la.length = lb.length
  · obtain ⟨n, hna⟩ : ∃ n, la.length = n := ⟨_, rfl⟩
    have hnb : lb.length = n := by rw [← hl]; exact hna
    rw [hna] at ha hca ⊢
    rw [hnb] at hb hcb ⊢
    have HA := Lib.hid ha
    have HB := Lib.hid hb
    have HL := Lib.hid (And.intro hna hnb)
    clear ha hb hl hna hnb
    go_enter Tryz.func10, Tryz.ntmps10
    go_wp2_with fail
    go_loopg [5] n (fun g kv wx => ∃ k : Nat, g = n - k ∧ kv = .int .i64 k ∧ k ≤ n ∧ Hid (la.take k = lb.take k ∧ Below w.heap.size w wx))
    case atStart => exact ⟨0, rfl, rfl, Nat.zero_le _, Lib.hid ⟨rfl, Below.refl _ _⟩⟩
    case round =>
      obtain ⟨k, hg, rfl, hk, HR⟩ := hrel
      have HG := Lib.hid hg
      clear hg
      by_cases hlt : k < n
      · have hk1 : (k : Int) < (n : Int) := by omega
        have hk0 : (0 : Int) ≤ (k : Int) := by omega
        obtain ⟨x, hx⟩ : ∃ x, la[k]? = some x := ⟨_, List.getElem?_eq_getElem (by rw [HL.out.1]; exact hlt)⟩
        obtain ⟨y, hy⟩ : ∃ y, lb[k]? = some y := ⟨_, List.getElem?_eq_getElem (by rw [HL.out.2]; exact hlt)⟩
        have hsa := HA.out.below HR.out.2
        have hsb := HB.out.below HR.out.2
        obtain ⟨b1, o1, rfl⟩ := hsa.some8 (by intro e; have h := HL.out.1; rw [e] at h; simp at h; omega)
        obtain ⟨b2, o2, rfl⟩ := hsb.some8 (by intro e; have h := HL.out.2; rw [e] at h; simp at h; omega)
        have hSW : (fun W : World => SliceIs OpD.cells 26 W (.slice (some ⟨b1, o1, none⟩) n ca) la ∧ SliceIs OpD.cells 26 W (.slice (some ⟨b2, o2, none⟩) n cb) lb) wr.drew := ⟨hsa.below (Below.refl _ _).drew, hsb.below (Below.refl _ _).drew⟩
        have hq := run_neq_op x y
        unfold OpD.val at hq
        have HX := Lib.hid (And.intro hx (And.intro hy hq))
        clear hsa hsb hx hy hq
        go_upto_region 6 with fail
        refine wp_region_s (fun W : World => SliceIs OpD.cells 26 W (.slice (some ⟨b1, o1, none⟩) n ca) la ∧ SliceIs OpD.cells 26 W (.slice (some ⟨b2, o2, none⟩) n cb) lb) (fun _ => false) (by kernel_rfl) ?_
        have HR1 : Hid (Below w.heap.size w wr.drew) := Lib.hid HR.out.2.drew
        generalize wr.drew = W1 at hSW HR1 ⊢
        refine wpAnyS_take (i := 0) (d := some 17) rfl rfl rfl (by kernel_rfl) (by kernel_rfl) (by kernel_rfl) (by kernel_rfl) (fun _ _ _ h => h) (.inl ⟨by rfl, fun W hW => by go_simp; try rfl⟩) hSW ?_
        try simp only [Act.put, List.setIfInBounds_toArray, List.set_cons_zero, List.set_cons_succ]
        refine wpAnyS_take (i := 1) (d := some 18) (v := .int .i64 k) rfl rfl rfl (by kernel_rfl) (by kernel_rfl) (by kernel_rfl) (by kernel_rfl) (fun _ _ _ h => h) (.inl ⟨by rfl, fun W hW => by go_simp; try rfl⟩) hSW ?_
        try simp only [Act.put, List.setIfInBounds_toArray, List.set_cons_zero, List.set_cons_succ]
        refine wpAnyS_take (i := 2) (d := some 19) (v := .pointer (some ⟨b1, o1 + k * 26, none⟩)) rfl rfl rfl (by kernel_rfl) (by kernel_rfl) (by kernel_rfl) (by kernel_rfl) (fun _ _ _ h => h) (.inl ⟨by rfl, fun W hW => by go_simp; try rfl⟩) hSW ?_
        try simp only [Act.put, List.setIfInBounds_toArray, List.set_cons_zero, List.set_cons_succ]
        refine wpAnyS_take (i := 3) (d := some 20) (v := .agg x.cells.toArray) rfl rfl rfl (by kernel_rfl) (by kernel_rfl) (by kernel_rfl) (by kernel_rfl) (fun _ _ _ h => h) (.inl ⟨by rfl, fun W hW => by exact exec_load rfl rfl (sl_load hW.1 HX.out.1)⟩) hSW ?_
        try simp only [Act.put, List.setIfInBounds_toArray, List.set_cons_zero, List.set_cons_succ]
        refine wpAnyS_take (i := 4) (d := some 21) rfl rfl rfl (by kernel_rfl) (by kernel_rfl) (by kernel_rfl) (by kernel_rfl) (fun _ _ _ h => h) (.inl ⟨by rfl, fun W hW => by go_simp; try rfl⟩) hSW ?_
        try simp only [Act.put, List.setIfInBounds_toArray, List.set_cons_zero, List.set_cons_succ]
        refine wpAnyS_take (i := 5) (d := some 22) (v := .int .i64 k) rfl rfl rfl (by kernel_rfl) (by kernel_rfl) (by kernel_rfl) (by kernel_rfl) (fun _ _ _ h => h) (.inl ⟨by rfl, fun W hW => by go_simp; try rfl⟩) hSW ?_
        try simp only [Act.put, List.setIfInBounds_toArray, List.set_cons_zero, List.set_cons_succ]
        refine wpAnyS_take (i := 6) (d := some 23) (v := .pointer (some ⟨b2, o2 + k * 26, none⟩)) rfl rfl rfl (by kernel_rfl) (by kernel_rfl) (by kernel_rfl) (by kernel_rfl) (fun _ _ _ h => h) (.inl ⟨by rfl, fun W hW => by go_simp; try rfl⟩) hSW ?_
        try simp only [Act.put, List.setIfInBounds_toArray, List.set_cons_zero, List.set_cons_succ]
        refine wpAnyS_take (i := 7) (d := some 24) (v := .agg y.cells.toArray) rfl rfl rfl (by kernel_rfl) (by kernel_rfl) (by kernel_rfl) (by kernel_rfl) (fun _ _ _ h => h) (.inl ⟨by rfl, fun W hW => by exact exec_load rfl rfl (sl_load hW.2 HX.out.2.1)⟩) hSW ?_
        try simp only [Act.put, List.setIfInBounds_toArray, List.set_cons_zero, List.set_cons_succ]
        refine wpAnyS_take (i := 8) (d := some 25) (v := .bool (!decide (x = y))) rfl rfl rfl (by kernel_rfl) (by kernel_rfl) (by kernel_rfl) (by kernel_rfl) (fun _ _ _ h => h) (.inl ⟨by rfl, fun W hW => by exact op_neq rfl rfl rfl guard_op (HX.out.2.2 W)⟩) hSW ?_
        try simp only [Act.put, List.setIfInBounds_toArray, List.set_cons_zero, List.set_cons_succ]
        refine wpAnyS_done (by kernel_rfl) ?_ _
        clear hSW
        by_cases he : x = y
        · subst he
          have HN : Hid (la.take (k + 1) = lb.take (k + 1) ∧ Below w.heap.size w W1) := Lib.hid ⟨take_same HR.out.1 HX.out.1 HX.out.2.1, HR1.out⟩
          clear HR HR1
          simp only [decide_true, Bool.not_true]
          go_wp2_with fail
          go_roundg (n - (k + 1))
          case measure => rw [HG.out]; omega
          case rel => exact ⟨k + 1, rfl, by simp, by omega, HN⟩
        · have hne : decide (la = lb) = false := decide_eq_false (by
            rintro rfl
            have h1 := HX.out.1.symm.trans HX.out.2.1
            exact he (Option.some.inj h1))
          have HNE := Lib.hid hne
          clear hne
          simp only [decide_eq_false he, Bool.not_false]
          go_wp2_with fail
          go_ret
          exact ⟨by rw [HNE.out]; rfl, HR1.out⟩
      · obtain rfl : k = n := by omega
        have hk1 : ¬ (k : Int) < (k : Int) := by omega
        have he : la = lb := by
          have h := HR.out.1
          rwa [List.take_of_length_le (by rw [HL.out.1]; exact Nat.le_refl _), List.take_of_length_le (by rw [HL.out.2]; exact Nat.le_refl _)] at h
        have hne : decide (la = lb) = true := decide_eq_true he
        have HNE := Lib.hid hne
        clear hne he
        go_wp2_with fail
        go_ret
        exact ⟨by rw [HNE.out]; rfl, HR.out.2⟩
  · have hl1 : ¬ (la.length : Int) = (lb.length : Int) := by omega
    have hne : decide (la = lb) = false := decide_eq_false (fun e => hl (by rw [e]))
    have HNE := Lib.hid hne
    clear hne ha hb
    go_enter Tryz.func10, Tryz.ntmps10
    go_wp2_with fail
    go_ret
    exact ⟨by rw [HNE.out]; rfl, Below.refl _ _⟩

end Go.Proofs.YtdlnokbeadkdfaaGreatDoor

namespace Go.Proofs.YtdlnokbeadkdfaaGreatDoor
open Go.RowKit Go.Deep
set_option linter.unusedSimpArgs false
set_option linter.unusedVariables false

set_option maxRecDepth 20000 in
theorem rfield_any (o : OpD) (c : Nat) (hc : c < 21) (w : World) : Calls Tryz.prog 53 #[o.val, .int .i64 c] w fun e w' => e = .returned (.int .i64 (fld o c)) ∧ Below w.heap.size w w' := by
  unfold OpD.val
  obtain ⟨W1, hW1⟩ : ∃ W1, w.alloc (.cells o.cells.toArray 33) = W1 := ⟨_, rfl⟩
  have hb1 : Below w.heap.size w W1 := by rw [← hW1]; exact (Below.refl _ _).alloc (Nat.le_refl _) _
  have ho1 : OB w.heap.size o W1 := by rw [← hW1]; exact OB.new w o
  rcases (by omega : c = 0 ∨ c = 1 ∨ c = 2 ∨ c = 3 ∨ c = 4 ∨ c = 5 ∨ c = 6 ∨ c = 7 ∨ c = 8 ∨ c = 9 ∨ c = 10 ∨ c = 11 ∨ c = 12 ∨ c = 13 ∨ c = 14 ∨ c = 15 ∨ c = 16 ∨ c = 17 ∨ c = 18 ∨ c = 19 ∨ c = 20) with rfl | rfl | rfl | rfl | rfl | rfl | rfl | rfl | rfl | rfl | rfl | rfl | rfl | rfl | rfl | rfl | rfl | rfl | rfl | rfl | rfl
  · have cj := OB.cell ho1 (j := 0) rfl
    have HV := Lib.hid hb1
    clear ho1 hb1
    simp only [show (((0 : Nat) : Int)) = 0 from rfl]
    go_enter Tryz.func53, Tryz.ntmps53
    go_wp2_with fail
    go_ret
    exact ⟨rfl, HV.out⟩
  · have cj := OB.cell ho1 (j := 1) rfl
    have HV := Lib.hid hb1
    clear ho1 hb1
    simp only [show (((1 : Nat) : Int)) = 1 from rfl]
    go_enter Tryz.func53, Tryz.ntmps53
    go_wp2_with fail
    go_ret
    exact ⟨rfl, HV.out⟩
  · have cj := OB.cell ho1 (j := 2) rfl
    have HV := Lib.hid hb1
    clear ho1 hb1
    simp only [show (((2 : Nat) : Int)) = 2 from rfl]
    go_enter Tryz.func53, Tryz.ntmps53
    go_wp2_with fail
    go_ret
    exact ⟨rfl, HV.out⟩
  · have cj := OB.cell ho1 (j := 3) rfl
    have HV := Lib.hid hb1
    clear ho1 hb1
    simp only [show (((3 : Nat) : Int)) = 3 from rfl]
    go_enter Tryz.func53, Tryz.ntmps53
    go_wp2_with fail
    go_ret
    exact ⟨rfl, HV.out⟩
  · have cj := OB.cell ho1 (j := 4) rfl
    have HV := Lib.hid hb1
    clear ho1 hb1
    simp only [show (((4 : Nat) : Int)) = 4 from rfl]
    go_enter Tryz.func53, Tryz.ntmps53
    go_wp2_with fail
    go_ret
    exact ⟨rfl, HV.out⟩
  · have cj := OB.cell ho1 (j := 5) rfl
    have HV := Lib.hid hb1
    clear ho1 hb1
    simp only [show (((5 : Nat) : Int)) = 5 from rfl]
    go_enter Tryz.func53, Tryz.ntmps53
    go_wp2_with fail
    go_ret
    exact ⟨rfl, HV.out⟩
  · have cj := OB.cell ho1 (j := 6) rfl
    have HV := Lib.hid hb1
    clear ho1 hb1
    simp only [show (((6 : Nat) : Int)) = 6 from rfl]
    go_enter Tryz.func53, Tryz.ntmps53
    go_wp2_with fail
    go_ret
    exact ⟨rfl, HV.out⟩
  · have cj := OB.cell ho1 (j := 7) rfl
    have HV := Lib.hid hb1
    clear ho1 hb1
    simp only [show (((7 : Nat) : Int)) = 7 from rfl]
    go_enter Tryz.func53, Tryz.ntmps53
    go_wp2_with fail
    go_ret
    exact ⟨rfl, HV.out⟩
  · have cj := OB.cell ho1 (j := 8) rfl
    have HV := Lib.hid hb1
    clear ho1 hb1
    simp only [show (((8 : Nat) : Int)) = 8 from rfl]
    go_enter Tryz.func53, Tryz.ntmps53
    go_wp2_with fail
    go_ret
    exact ⟨rfl, HV.out⟩
  · have cj := OB.cell ho1 (j := 9) rfl
    have HV := Lib.hid hb1
    clear ho1 hb1
    simp only [show (((9 : Nat) : Int)) = 9 from rfl]
    go_enter Tryz.func53, Tryz.ntmps53
    go_wp2_with fail
    go_ret
    exact ⟨rfl, HV.out⟩
  · have cj := OB.cell ho1 (j := 10) rfl
    have HV := Lib.hid hb1
    clear ho1 hb1
    simp only [show (((10 : Nat) : Int)) = 10 from rfl]
    go_enter Tryz.func53, Tryz.ntmps53
    go_wp2_with fail
    go_ret
    exact ⟨rfl, HV.out⟩
  · have cj := OB.cell ho1 (j := 11) rfl
    have HV := Lib.hid hb1
    clear ho1 hb1
    simp only [show (((11 : Nat) : Int)) = 11 from rfl]
    go_enter Tryz.func53, Tryz.ntmps53
    go_wp2_with fail
    go_ret
    exact ⟨rfl, HV.out⟩
  · have cj := OB.cell ho1 (j := 12) rfl
    have HV := Lib.hid hb1
    clear ho1 hb1
    simp only [show (((12 : Nat) : Int)) = 12 from rfl]
    go_enter Tryz.func53, Tryz.ntmps53
    go_wp2_with fail
    go_ret
    exact ⟨rfl, HV.out⟩
  · have cj := OB.cell ho1 (j := 13) rfl
    have HV := Lib.hid hb1
    clear ho1 hb1
    simp only [show (((13 : Nat) : Int)) = 13 from rfl]
    go_enter Tryz.func53, Tryz.ntmps53
    go_wp2_with fail
    go_ret
    exact ⟨rfl, HV.out⟩
  · have cj := OB.cell ho1 (j := 14) rfl
    have HV := Lib.hid hb1
    clear ho1 hb1
    simp only [show (((14 : Nat) : Int)) = 14 from rfl]
    go_enter Tryz.func53, Tryz.ntmps53
    go_wp2_with fail
    go_ret
    exact ⟨rfl, HV.out⟩
  · have cj := OB.cell ho1 (j := 15) rfl
    have HV := Lib.hid hb1
    clear ho1 hb1
    simp only [show (((15 : Nat) : Int)) = 15 from rfl]
    go_enter Tryz.func53, Tryz.ntmps53
    go_wp2_with fail
    go_ret
    exact ⟨rfl, HV.out⟩
  · have cj := OB.cell ho1 (j := 16) rfl
    have HV := Lib.hid hb1
    clear ho1 hb1
    simp only [show (((16 : Nat) : Int)) = 16 from rfl]
    go_enter Tryz.func53, Tryz.ntmps53
    go_wp2_with fail
    go_ret
    exact ⟨rfl, HV.out⟩
  · have cj := OB.cell ho1 (j := 20) rfl
    have HV := Lib.hid hb1
    clear ho1 hb1
    simp only [show (((17 : Nat) : Int)) = 17 from rfl]
    go_enter Tryz.func53, Tryz.ntmps53
    go_wp2_with fail
    go_ret
    exact ⟨rfl, HV.out⟩
  · have cj := OB.cell ho1 (j := 21) rfl
    have HV := Lib.hid hb1
    clear ho1 hb1
    simp only [show (((18 : Nat) : Int)) = 18 from rfl]
    go_enter Tryz.func53, Tryz.ntmps53
    go_wp2_with fail
    go_ret
    exact ⟨rfl, HV.out⟩
  · have cj := OB.cell ho1 (j := 23) rfl
    have HV := Lib.hid hb1
    clear ho1 hb1
    simp only [show (((19 : Nat) : Int)) = 19 from rfl]
    go_enter Tryz.func53, Tryz.ntmps53
    go_wp2_with fail
    go_ret
    exact ⟨rfl, HV.out⟩
  · have cj := OB.cell ho1 (j := 24) rfl
    have HV := Lib.hid hb1
    clear ho1 hb1
    simp only [show (((20 : Nat) : Int)) = 20 from rfl]
    go_enter Tryz.func53, Tryz.ntmps53
    go_wp2_with fail
    go_ret
    exact ⟨rfl, HV.out⟩
set_option maxRecDepth 20000 in
theorem rtext_any (o : OpD) (c : Nat) (hc : c < 3) (w : World) : Calls Tryz.prog 57 #[o.val, .int .i64 c] w fun e w' => e = .returned (.string (txt o c)) ∧ Below w.heap.size w w' := by
  unfold OpD.val
  obtain ⟨W1, hW1⟩ : ∃ W1, w.alloc (.cells o.cells.toArray 33) = W1 := ⟨_, rfl⟩
  have hb1 : Below w.heap.size w W1 := by rw [← hW1]; exact (Below.refl _ _).alloc (Nat.le_refl _) _
  have ho1 : OB w.heap.size o W1 := by rw [← hW1]; exact OB.new w o
  rcases (by omega : c = 0 ∨ c = 1 ∨ c = 2) with rfl | rfl | rfl
  · have cj := OB.cell ho1 (j := 17) rfl
    have HV := Lib.hid hb1
    clear ho1 hb1
    simp only [show (((0 : Nat) : Int)) = 0 from rfl]
    go_enter Tryz.func57, Tryz.ntmps57
    go_wp2_with fail
    go_ret
    exact ⟨rfl, HV.out⟩
  · have cj := OB.cell ho1 (j := 18) rfl
    have HV := Lib.hid hb1
    clear ho1 hb1
    simp only [show (((1 : Nat) : Int)) = 1 from rfl]
    go_enter Tryz.func57, Tryz.ntmps57
    go_wp2_with fail
    go_ret
    exact ⟨rfl, HV.out⟩
  · have cj := OB.cell ho1 (j := 19) rfl
    have HV := Lib.hid hb1
    clear ho1 hb1
    simp only [show (((2 : Nat) : Int)) = 2 from rfl]
    go_enter Tryz.func57, Tryz.ntmps57
    go_wp2_with fail
    go_ret
    exact ⟨rfl, HV.out⟩
set_option maxRecDepth 20000 in
theorem rdeltas8_any (c : Nat) (hc : c < 21) (w : World) : Calls Tryz.prog 29 #[.int .i64 c] w fun e w' => e = .returned (.bool (dlt c)) ∧ w' = w := by
  rcases (by omega : c = 0 ∨ c = 1 ∨ c = 2 ∨ c = 3 ∨ c = 4 ∨ c = 5 ∨ c = 6 ∨ c = 7 ∨ c = 8 ∨ c = 9 ∨ c = 10 ∨ c = 11 ∨ c = 12 ∨ c = 13 ∨ c = 14 ∨ c = 15 ∨ c = 16 ∨ c = 17 ∨ c = 18 ∨ c = 19 ∨ c = 20) with rfl | rfl | rfl | rfl | rfl | rfl | rfl | rfl | rfl | rfl | rfl | rfl | rfl | rfl | rfl | rfl | rfl | rfl | rfl | rfl | rfl
  · simp only [show (((0 : Nat) : Int)) = 0 from rfl]
    go_enter Tryz.func29, Tryz.ntmps29
    go_wp2_with fail
    go_ret
    exact ⟨rfl, rfl⟩
  · simp only [show (((1 : Nat) : Int)) = 1 from rfl]
    go_enter Tryz.func29, Tryz.ntmps29
    go_wp2_with fail
    go_ret
    exact ⟨rfl, rfl⟩
  · simp only [show (((2 : Nat) : Int)) = 2 from rfl]
    go_enter Tryz.func29, Tryz.ntmps29
    go_wp2_with fail
    go_ret
    exact ⟨rfl, rfl⟩
  · simp only [show (((3 : Nat) : Int)) = 3 from rfl]
    go_enter Tryz.func29, Tryz.ntmps29
    go_wp2_with fail
    go_ret
    exact ⟨rfl, rfl⟩
  · simp only [show (((4 : Nat) : Int)) = 4 from rfl]
    go_enter Tryz.func29, Tryz.ntmps29
    go_wp2_with fail
    go_ret
    exact ⟨rfl, rfl⟩
  · simp only [show (((5 : Nat) : Int)) = 5 from rfl]
    go_enter Tryz.func29, Tryz.ntmps29
    go_wp2_with fail
    go_ret
    exact ⟨rfl, rfl⟩
  · simp only [show (((6 : Nat) : Int)) = 6 from rfl]
    go_enter Tryz.func29, Tryz.ntmps29
    go_wp2_with fail
    go_ret
    exact ⟨rfl, rfl⟩
  · simp only [show (((7 : Nat) : Int)) = 7 from rfl]
    go_enter Tryz.func29, Tryz.ntmps29
    go_wp2_with fail
    go_ret
    exact ⟨rfl, rfl⟩
  · simp only [show (((8 : Nat) : Int)) = 8 from rfl]
    go_enter Tryz.func29, Tryz.ntmps29
    go_wp2_with fail
    go_ret
    exact ⟨rfl, rfl⟩
  · simp only [show (((9 : Nat) : Int)) = 9 from rfl]
    go_enter Tryz.func29, Tryz.ntmps29
    go_wp2_with fail
    go_ret
    exact ⟨rfl, rfl⟩
  · simp only [show (((10 : Nat) : Int)) = 10 from rfl]
    go_enter Tryz.func29, Tryz.ntmps29
    go_wp2_with fail
    go_ret
    exact ⟨rfl, rfl⟩
  · simp only [show (((11 : Nat) : Int)) = 11 from rfl]
    go_enter Tryz.func29, Tryz.ntmps29
    go_wp2_with fail
    go_ret
    exact ⟨rfl, rfl⟩
  · simp only [show (((12 : Nat) : Int)) = 12 from rfl]
    go_enter Tryz.func29, Tryz.ntmps29
    go_wp2_with fail
    go_ret
    exact ⟨rfl, rfl⟩
  · simp only [show (((13 : Nat) : Int)) = 13 from rfl]
    go_enter Tryz.func29, Tryz.ntmps29
    go_wp2_with fail
    go_ret
    exact ⟨rfl, rfl⟩
  · simp only [show (((14 : Nat) : Int)) = 14 from rfl]
    go_enter Tryz.func29, Tryz.ntmps29
    go_wp2_with fail
    go_ret
    exact ⟨rfl, rfl⟩
  · simp only [show (((15 : Nat) : Int)) = 15 from rfl]
    go_enter Tryz.func29, Tryz.ntmps29
    go_wp2_with fail
    go_ret
    exact ⟨rfl, rfl⟩
  · simp only [show (((16 : Nat) : Int)) = 16 from rfl]
    go_enter Tryz.func29, Tryz.ntmps29
    go_wp2_with fail
    go_ret
    exact ⟨rfl, rfl⟩
  · simp only [show (((17 : Nat) : Int)) = 17 from rfl]
    go_enter Tryz.func29, Tryz.ntmps29
    go_wp2_with fail
    go_ret
    exact ⟨rfl, rfl⟩
  · simp only [show (((18 : Nat) : Int)) = 18 from rfl]
    go_enter Tryz.func29, Tryz.ntmps29
    go_wp2_with fail
    go_ret
    exact ⟨rfl, rfl⟩
  · simp only [show (((19 : Nat) : Int)) = 19 from rfl]
    go_enter Tryz.func29, Tryz.ntmps29
    go_wp2_with fail
    go_ret
    exact ⟨rfl, rfl⟩
  · simp only [show (((20 : Nat) : Int)) = 20 from rfl]
    go_enter Tryz.func29, Tryz.ntmps29
    go_wp2_with fail
    go_ret
    exact ⟨rfl, rfl⟩

end Go.Proofs.YtdlnokbeadkdfaaGreatDoor

namespace Go.Proofs.YtdlnokbeadkdfaaGreatDoor
open Go.RowKit Go.Deep
set_option linter.unusedSimpArgs false
set_option linter.unusedVariables false

theorem numC_len (l : List OpD) (c : Nat) : (numC l c).length = l.length := by simp [numC]
theorem numC_take {l : List OpD} {k : Nat} {x : OpD} (hx : l[k]? = some x) (c : Nat) : numC (l.take (k + 1)) c = numC (l.take k) c ++ [fld x c] := by
  unfold numC
  rw [List.take_add_one, hx, Option.toList_some, List.map_append]
  rfl
/-- A column's text. -/
def catT (l : List OpD) (c : Nat) : ByteArray := ⟨(catC l c).toArray⟩
theorem catT_size (l : List OpD) (c : Nat) : (catT l c).size = (catC l c).length := by
  show (catC l c).toArray.size = _
  simp
theorem catT_take {l : List OpD} {k : Nat} {x : OpD} (hx : l[k]? = some x) (c : Nat) : catT (l.take k) c ++ txt x c = catT (l.take (k + 1)) c := by
  unfold catT
  rw [catC_take hx]
  apply ByteArray.ext
  simp
theorem op_cell {W : World} {b o n cap : Nat} {l : List OpD} (h : SliceIs OpD.cells 26 W (.slice (some ⟨b, o, none⟩) n cap) l) {k : Nat} {x : OpD} (hx : l[k]? = some x) {j : Nat} {u : Value} (hu : x.cells[j]? = some u) : W.cell? ⟨b, o + k * 26 + j, none⟩ = some u := by
  obtain ⟨_, _, e, _, _, h4⟩ := h
  cases e
  obtain ⟨b2, o2, e2, h5⟩ := h4 (by rintro rfl; simp at hx)
  cases e2
  exact h5 k x hx j u hu
set_option maxRecDepth 20000 in
set_option maxHeartbeats 8000000 in
theorem rraw_any (v : Value) (l : List OpD) (w : World) (h : SliceIs OpD.cells 26 w v l) (hwf : ∀ x ∈ l, x.wf) (hn : l.length ≤ 200) (hall : ∀ x ∈ l, x.right = true) :
    Calls Tryz.prog 24 #[v] w fun e w' => ∃ v', e = .returned v' ∧ Own u8c 1 5 w.heap.size w' v' (encB l) ∧ Below w.heap.size w w' := by
  obtain ⟨a, cap, rfl, hcap, hmax, -⟩ := id h
  unfold maxLen at hmax
  have HH := Lib.hid h
  have HWF := Lib.hid hwf
  have HALL := Lib.hid hall
  clear h hwf hall
  have hlw : IntKind.u64.wrap (l.length : Int) = (l.length : Int) := by rw [u64_wrap]; omega
  go_enter Tryz.func24, Tryz.ntmps24
  go_wp2_with fail
  refine (rput_any l.length _ (by omega)).mono ?_
  rintro e w4 ⟨v4, rfl, hown4, b4⟩
  obtain ⟨⟨pa, pn, pc⟩, e4⟩ := hown4.sl
  dsimp only at e4
  subst e4
  have HO : Hid (R4 w w4 (.slice pa pn pc) (putB l.length ++ numsB l 0)) := Lib.hid (by rw [show numsB l 0 = [] from rfl, List.append_nil]; exact ⟨hown4, b4⟩)
  clear hown4 b4 hlw
  go_wp2_with fail
  go_loopg [4, 3] 21 (fun g kv ov wx => ∃ (k : Nat) (s : Sl), g = 21 - k ∧ kv = .int .i64 k ∧ ov = .slice s.a s.n s.cap ∧ k ≤ 21 ∧ Hid (R4 w wx (.slice s.a s.n s.cap) (putB l.length ++ numsB l k)))
  case atStart => exact ⟨0, ⟨pa, pn, pc⟩, rfl, rfl, rfl, by omega, HO⟩
  case round =>
    clear HO
    obtain ⟨k, ⟨ta, tn, tc⟩, hg, rfl, rfl, hk, HR⟩ := hrel
    dsimp only at HR ⊢
    have HG := Lib.hid hg
    clear hg
    obtain ⟨w9, rfl⟩ : ∃ w9, w9 = wr := ⟨_, rfl⟩
    by_cases hlk : k < 21
    · have hk20 : (k : Int) ≤ 20 := by omega
      obtain ⟨i0, hi, hy0, hy1, hy2⟩ := info_parts info_int
      go_wp2_with fail
      go_loopg [6, 5] l.length (fun g kv nv wx => ∃ (j : Nat) (s : Sl), g = l.length - j ∧ kv = .int .i64 j ∧ nv = .slice s.a s.n s.cap ∧ j ≤ l.length ∧ Hid (Own intc 1 3 w9.heap.size wx (.slice s.a s.n s.cap) (numC (l.take j) k) ∧ Below w9.heap.size w9 wx))
      case atStart => exact ⟨0, ⟨none, 0, 0⟩, rfl, rfl, rfl, Nat.zero_le _, Lib.hid ⟨Own.nil, Below.refl _ _⟩⟩
      case round =>
        obtain ⟨j, ⟨sa, sn, sc⟩, hg, rfl, rfl, hj, HI⟩ := hrel
        dsimp only at HI ⊢
        have HG2 := Lib.hid hg
        clear hg
        by_cases hlt : j < l.length
        · have hk1 : (j : Int) < (l.length : Int) := by omega
          have hj0 : (0 : Int) ≤ (j : Int) := by omega
          obtain ⟨x, hx⟩ : ∃ x, l[j]? = some x := ⟨_, List.getElem?_eq_getElem hlt⟩
          have hsl := HH.out.below (HR.out.bel.trans (HI.out.2.mono HR.out.bel.size))
          obtain ⟨b0, o0, rfl⟩ := hsl.some8 (by rintro rfl; simp at hlt)
          have HLD := Lib.hid (sl_load hsl hx)
          have HX := Lib.hid hx
          clear hsl hx
          go_wp2_with ((with_reducible_and_instances refine wpList_ranG (o := ⟨some 32, _, _, _, _, _⟩) (v := .agg x.cells.toArray) ?_ ?_ ?_); rfl; exact exec_load rfl rfl HLD.out)
          refine (rfield_any x k hlk _).mono ?_
          rintro e w3 ⟨rfl, b3⟩
          have HI2 := Lib.hid (HI.out.1.below1 b3)
          have HB3 : Hid (Below w9.heap.size w9 w3) := Lib.hid (HI.out.2.trans (b3.mono HI.out.2.size))
          have HBD : Hid ((numC (l.take j) k).length + 1 ≤ maxLen ∧ ((numC (l.take j) k).length + 1) * 8 ≤ 140737488355328) := Lib.hid (by rw [numC_len, List.length_take]; unfold maxLen; omega)
          obtain ⟨F, hF⟩ : ∃ F, fld x k = F := ⟨_, rfl⟩
          rw [hF]
          have HF := Lib.hid hF
          clear b3 HLD HI hF
          go_wp2_with (at_builtin; refine wpList_append_struct2 rfl _ _ _ rfl i0 _ 8 Tryz.underlying53 hi hy0 hy1 hy2 rfl (by omega) intc_len intc_one rfl (HI2.out.alloc _) F w3.heap.size 1 rfl (int_new _ F) HBD.out.1 HBD.out.2 (by have := HB3.out.size; simp; omega) ?_)
          intro v' w4 hown4 hx4 hn4
          rw [← HF.out, ← numC_take HX.out] at hown4
          obtain ⟨⟨ua, un, uc⟩, e4⟩ := hown4.sl
          dsimp only at e4
          subst e4
          have HN : Hid (Own intc 1 3 w9.heap.size w4 (.slice ua un uc) (numC (l.take (j + 1)) k) ∧ Below w9.heap.size w9 w4) := Lib.hid ⟨hown4, Ext.new (HB3.out.alloc HB3.out.size _) hx4 (fun i hi _ e => by have := (HI2.out.blk i e).1; omega) (by have := HB3.out.size; simp; omega)⟩
          clear hown4 hx4 hn4 HI2 HB3
          go_wp2_with fail
          go_roundg (l.length - (j + 1))
          case measure => rw [HG2.out]; omega
          case rel => exact ⟨j + 1, ⟨ua, un, uc⟩, rfl, by simp, rfl, by omega, HN⟩
        · obtain rfl : j = l.length := by omega
          have hk1 : ¬ (l.length : Int) < (l.length : Int) := by omega
          have HBL : Hid (SliceIs intc 1 wr (.slice sa sn sc) (numC l k)) := Lib.hid (by have := HI.out.1.slice intc_len; rwa [List.take_length] at this)
          have HRR : Hid (R4 w wr (.slice ta tn tc) (putB l.length ++ numsB l k)) := Lib.hid (HR.out.below HI.out.2 (Nat.le_refl _))
          have HCL := Lib.hid (colB_len HWF.out hn hlk)
          have HLEN : Hid ((putB l.length ++ numsB l k).length + (colB l k).length ≤ 140737488355328) := Lib.hid (by have h1 := numsB_len HWF.out hn k (by omega); have h3 := putB_le10 (n := l.length) (by omega); have h4 := HCL.out.1; rw [List.length_append]; omega)
          clear HI HR hlt hj
          go_wp2_with fail
          refine (rdeltas8_any k hlk _).mono ?_
          rintro e w5 ⟨rfl, rfl⟩
          cases hd : dlt k with
          | false =>
            have HCB : Hid (colB l k = runsB (numC l k)) := Lib.hid (by unfold colB; rw [hd]; rfl)
            clear hd
            go_wp2_with fail
            refine (rruns_any _ (numC l k) _ HBL.out (by rw [numC_len]; omega) HCL.out.2).mono ?_
            rintro e w7 ⟨v7, rfl, hown7, b7⟩
            obtain ⟨⟨ua, un, uc⟩, w8, hr8, h8, -⟩ := R4.app (HRR.out.below b7 (Nat.le_refl _)) (hown7.slice u8c_len) (by have := HLEN.out; rw [HCB.out] at this; exact this)
            rw [← HCB.out, List.append_assoc, ← numsB_succ] at h8
            have HN := Lib.hid h8
            clear h8 hown7 b7 HBL HRR HLEN HCL
            go_wp2_with (at_builtin; refine Lib.wpList_append_run _ rfl _ _ _ _ rfl _ _ rfl rfl _ _ hr8 ?_)
            go_roundg (21 - (k + 1))
            case measure => rw [HG.out]; omega
            case rel => exact ⟨k + 1, ⟨ua, un, uc⟩, rfl, by simp, rfl, by omega, HN⟩
          | true =>
            have HCB : Hid (colB l k = runsB (diffsB (numC l k))) := Lib.hid (by unfold colB; rw [hd]; rfl)
            clear hd
            go_wp2_with fail
            refine (rdeltas_any _ (numC l k) _ HBL.out (by rw [numC_len]; omega) HCL.out.2).mono ?_
            rintro e w7 ⟨v7, rfl, hown7, b7⟩
            obtain ⟨⟨ua, un, uc⟩, w8, hr8, h8, -⟩ := R4.app (HRR.out.below b7 (Nat.le_refl _)) (hown7.slice u8c_len) (by have := HLEN.out; rw [HCB.out] at this; exact this)
            rw [← HCB.out, List.append_assoc, ← numsB_succ] at h8
            have HN := Lib.hid h8
            clear h8 hown7 b7 HBL HRR HLEN HCL
            go_wp2_with (at_builtin; refine Lib.wpList_append_run _ rfl _ _ _ _ rfl _ _ rfl rfl _ _ hr8 ?_)
            go_roundg (21 - (k + 1))
            case measure => rw [HG.out]; omega
            case rel => exact ⟨k + 1, ⟨ua, un, uc⟩, rfl, by simp, rfl, by omega, HN⟩
    · obtain rfl : k = 21 := by omega
      have hk20 : ¬ (21 : Int) ≤ 20 := by omega
      have HO : Hid (R4 w w9 (.slice ta tn tc) (putB l.length ++ numsB l 21)) := Lib.hid HR.out
      clear HR hlk hk HG
      obtain ⟨i0, hi, hy0, hy1, hy2⟩ := info_parts info_bt
      go_wp2_with fail
      go_loopg [9, 7, 8] l.length (fun g kv fv tv wx => ∃ (j : Nat) (s r : Sl), g = l.length - j ∧ kv = .int .i64 j ∧ fv = .slice s.a s.n s.cap ∧ tv = .slice r.a r.n r.cap ∧ j ≤ l.length ∧ Hid (Own btc 1 4 w9.heap.size wx (.slice s.a s.n s.cap) (truC (l.take j) 0) ∧ Own btc 1 4 w9.heap.size wx (.slice r.a r.n r.cap) (truC (l.take j) 1) ∧ Below w9.heap.size w9 wx ∧ ∀ b, (Value.slice s.a s.n s.cap).ownBlock = some b → (Value.slice r.a r.n r.cap).ownBlock = some b → False))
      case atStart => exact ⟨0, ⟨none, 0, 0⟩, ⟨none, 0, 0⟩, rfl, rfl, rfl, rfl, Nat.zero_le _, Lib.hid ⟨Own.nil, Own.nil, Below.refl _ _, fun b h => by cases h⟩⟩
      case round =>
        obtain ⟨j, ⟨sa, sn, sc⟩, ⟨ra, rn, rc⟩, hg, rfl, rfl, rfl, hj, HI⟩ := hrel
        dsimp only at HI ⊢
        have HG2 := Lib.hid hg
        clear hg
        by_cases hlt : j < l.length
        · have hk1 : (j : Int) < (l.length : Int) := by omega
          have hj0 : (0 : Int) ≤ (j : Int) := by omega
          obtain ⟨x, hx⟩ : ∃ x, l[j]? = some x := ⟨_, List.getElem?_eq_getElem hlt⟩
          have hsl := HH.out.below (HO.out.bel.trans (HI.out.2.2.1.mono HO.out.bel.size))
          obtain ⟨b0, o0, rfl⟩ := hsl.some8 (by rintro rfl; simp at hlt)
          have cf : wr.cell? ⟨b0, o0 + j * 26 + 22, none⟩ = some (.bool (tru x 0)) := op_cell hsl hx rfl
          have HX := Lib.hid hx
          have HBD : Hid ((truC (l.take j) 0).length + 1 ≤ maxLen ∧ ((truC (l.take j) 0).length + 1) * 1 ≤ 140737488355328) := Lib.hid (by rw [truC_len, List.length_take]; unfold maxLen; omega)
          have HBE : Hid ((truC (l.take j) 1).length + 1 ≤ maxLen ∧ ((truC (l.take j) 1).length + 1) * 1 ≤ 140737488355328) := Lib.hid (by rw [truC_len, List.length_take]; unfold maxLen; omega)
          clear hsl hx
          go_wp2_with (at_builtin; refine wpList_append_struct2 rfl _ _ _ rfl i0 _ 1 Tryz.underlying47 hi hy0 hy1 hy2 rfl (by omega) btc_len btc_one rfl (HI.out.1.alloc _) (tru x 0) wr.heap.size 1 rfl (bt_new _ (tru x 0)) HBD.out.1 HBD.out.2 (by have := HI.out.2.2.1.size; simp; omega) ?_)
          intro v' w4 hown4 hx4 hn4
          rw [← truC_take HX.out] at hown4
          obtain ⟨⟨ua, un, uc⟩, e4⟩ := hown4.sl
          dsimp only at e4
          subst e4
          have HT4 := Lib.hid ((HI.out.2.1.alloc (.cells #[.bool (tru x 0)] 4)).ext hx4 (fun b hb e => HI.out.2.2.2 b e hb))
          have HB4 : Hid (Below w9.heap.size w9 w4) := Lib.hid (Ext.new (HI.out.2.2.1.alloc HI.out.2.2.1.size _) hx4 (fun i hi _ e => by have := (HI.out.1.blk i e).1; omega) (by have := HI.out.2.2.1.size; simp; omega))
          have HO4 := Lib.hid hown4
          have HAP : Hid (∀ b, (Value.slice ua un uc).ownBlock = some b → (Value.slice ra rn rc).ownBlock = some b → False) := Lib.hid (fun b h1 h2 => by
            rcases hn4 b h1 with h3 | h3
            · exact HI.out.2.2.2 b h3 h2
            · have h4 := (HI.out.2.1.blk b h2).2
              try simp at h3
              omega)
          have hsl4 := HH.out.below (HO.out.bel.trans (HB4.out.mono HO.out.bel.size))
          have ct : w4.cell? ⟨b0, o0 + j * 26 + 25, none⟩ = some (.bool (tru x 1)) := op_cell hsl4 HX.out rfl
          clear hown4 hx4 hn4 HI cf hsl4
          go_wp2_with (at_builtin; refine wpList_append_struct2 rfl _ _ _ rfl i0 _ 1 Tryz.underlying47 hi hy0 hy1 hy2 rfl (by omega) btc_len btc_one rfl (HT4.out.alloc _) (tru x 1) w4.heap.size 1 rfl (bt_new _ (tru x 1)) HBE.out.1 HBE.out.2 (by have := HB4.out.size; simp; omega) ?_)
          intro v' w5 hown5 hx5 hn5
          rw [← truC_take HX.out] at hown5
          obtain ⟨⟨qa, qn, qc⟩, e5⟩ := hown5.sl
          dsimp only at e5
          subst e5
          have HN : Hid (Own btc 1 4 w9.heap.size w5 (.slice ua un uc) (truC (l.take (j + 1)) 0) ∧ Own btc 1 4 w9.heap.size w5 (.slice qa qn qc) (truC (l.take (j + 1)) 1) ∧ Below w9.heap.size w9 w5 ∧ ∀ b, (Value.slice ua un uc).ownBlock = some b → (Value.slice qa qn qc).ownBlock = some b → False) := Lib.hid ⟨(HO4.out.alloc _).ext hx5 (fun b hb e => HAP.out b hb e), hown5, Ext.new (HB4.out.alloc HB4.out.size _) hx5 (fun i hi _ e => by have := (HT4.out.blk i e).1; omega) (by have := HB4.out.size; simp; omega), fun b h1 h2 => by
            rcases hn5 b h2 with h3 | h3
            · exact HAP.out b h1 h3
            · have h4 := (HO4.out.blk b h1).2
              try simp at h3
              omega⟩
          clear hown5 hx5 hn5 HT4 HB4 HO4 HAP ct
          go_wp2_with fail
          go_roundg (l.length - (j + 1))
          case measure => rw [HG2.out]; omega
          case rel => exact ⟨j + 1, ⟨ua, un, uc⟩, ⟨qa, qn, qc⟩, rfl, by simp, rfl, rfl, by omega, HN⟩
        · obtain rfl : j = l.length := by omega
          have hk1 : ¬ (l.length : Int) < (l.length : Int) := by omega
          have HF : Hid (SliceIs btc 1 wr (.slice sa sn sc) (truC l 0) ∧ SliceIs btc 1 wr (.slice ra rn rc) (truC l 1) ∧ Own btc 1 4 w9.heap.size wr (.slice ra rn rc) (truC l 1)) := Lib.hid (by have h1 := HI.out.1.slice btc_len; have h2 := HI.out.2.1.slice btc_len; have h3 := HI.out.2.1; rw [List.take_length] at h1 h2 h3; exact ⟨h1, h2, h3⟩)
          have HRR : Hid (R4 w wr (.slice ta tn tc) (putB l.length ++ numsB l 21)) := Lib.hid (HO.out.below HI.out.2.2.1 (Nat.le_refl _))
          have HLEN : Hid ((putB l.length ++ numsB l 21).length + (boolsB (truC l 0)).length + (boolsB (truC l 1)).length ≤ 140737488355328) := Lib.hid (by have h1 := numsB_len HWF.out hn 21 (by omega); have h2 := boolsB_len (l := truC l 0) (by rw [truC_len]; omega); rw [truC_len] at h2; have h4 := boolsB_len (l := truC l 1) (by rw [truC_len]; omega); rw [truC_len] at h4; have h3 := putB_le10 (n := l.length) (by omega); rw [List.length_append]; omega)
          have HAP : Hid (∀ b, (Value.slice ra rn rc).ownBlock = some b → (Value.slice ta tn tc).ownBlock = some b → False) := Lib.hid (fun b h1 h2 => by have h3 := (HF.out.2.2.blk b h1).1; have h4 := (HO.out.own.blk b h2).2; omega)
          clear HI HO hlt hj
          go_wp2_with fail
          refine (rbools_any _ (truC l 0) _ HF.out.1 (by rw [truC_len]; omega)).mono ?_
          rintro e w7 ⟨v7, rfl, hown7, b7⟩
          obtain ⟨⟨ua, un, uc⟩, w8, hr8, h8, hx8⟩ := R4.app (HRR.out.below b7 (Nat.le_refl _)) (hown7.slice u8c_len) (by have := HLEN.out; omega)
          have H8 := Lib.hid h8
          have HT8 := Lib.hid (((HF.out.2.2.below1 b7).ext hx8 (fun b hb e => HAP.out b hb e)).slice btc_len)
          clear h8 hx8 hown7 b7 HF HRR HAP
          go_wp2_with (at_builtin; refine Lib.wpList_append_run _ rfl _ _ _ _ rfl _ _ rfl rfl _ _ hr8 ?_)
          clear hr8
          refine (rbools_any _ (truC l 1) _ HT8.out (by rw [truC_len]; omega)).mono ?_
          rintro e w10 ⟨v10, rfl, hown10, b10⟩
          obtain ⟨⟨za, zn, zc⟩, w11, hr11, h11, -⟩ := R4.app (H8.out.below b10 (Nat.le_refl _)) (hown10.slice u8c_len) (by have := HLEN.out; rw [List.length_append]; omega)
          have HT0 : Hid (R4 w w11 (.slice za zn zc) (putB l.length ++ numsB l 21 ++ trusB l 2 ++ txtsB l 0)) := Lib.hid (by
            have e : trusB l 2 = boolsB (truC l 0) ++ boolsB (truC l 1) := by rw [trusB_succ, trusB_succ]; rfl
            rw [e, show txtsB l 0 = [] from rfl, List.append_nil, ← List.append_assoc]
            exact h11)
          clear h11 hown10 b10 H8 HT8 HLEN hi hy0 hy1 hy2
          go_wp2_with (at_builtin; refine Lib.wpList_append_run _ rfl _ _ _ _ rfl _ _ rfl rfl _ _ hr11 ?_)
          clear hr11
          go_loopg [10, 3] 3 (fun g kv ov wx => ∃ (k : Nat) (s : Sl), g = 3 - k ∧ kv = .int .i64 k ∧ ov = .slice s.a s.n s.cap ∧ k ≤ 3 ∧ Hid (R4 w wx (.slice s.a s.n s.cap) (putB l.length ++ numsB l 21 ++ trusB l 2 ++ txtsB l k)))
          case atStart => exact ⟨0, ⟨za, zn, zc⟩, rfl, rfl, rfl, by omega, HT0⟩
          case round =>
            clear HT0 HG2
            obtain ⟨k, ⟨ta, tn, tc⟩, hg, rfl, rfl, hk, HR⟩ := hrel
            dsimp only at HR ⊢
            have HG := Lib.hid hg
            clear hg
            obtain ⟨w9, rfl⟩ : ∃ w9, w9 = wr := ⟨_, rfl⟩
            by_cases hlk : k < 3
            · have hk3 : (k : Int) < 3 := by omega
              obtain ⟨i0, hi, hy0, hy1, hy2⟩ := info_parts info_int
              go_wp2_with fail
              go_loopg [13, 11, 12] l.length (fun g kv nv sv wx => ∃ (j : Nat) (s : Sl), g = l.length - j ∧ kv = .int .i64 j ∧ nv = .slice s.a s.n s.cap ∧ sv = .string (catT (l.take j) k) ∧ j ≤ l.length ∧ Hid (Own intc 1 3 w9.heap.size wx (.slice s.a s.n s.cap) (lenC (l.take j) k) ∧ Below w9.heap.size w9 wx))
              case atStart => exact ⟨0, ⟨none, 0, 0⟩, rfl, rfl, rfl, rfl, Nat.zero_le _, Lib.hid ⟨Own.nil, Below.refl _ _⟩⟩
              case round =>
                obtain ⟨j, ⟨sa, sn, sc⟩, hg, rfl, rfl, rfl, hj, HI⟩ := hrel
                dsimp only at HI ⊢
                have HG2 := Lib.hid hg
                clear hg
                by_cases hlt : j < l.length
                · have hk1 : (j : Int) < (l.length : Int) := by omega
                  have hj0 : (0 : Int) ≤ (j : Int) := by omega
                  obtain ⟨x, hx⟩ : ∃ x, l[j]? = some x := ⟨_, List.getElem?_eq_getElem hlt⟩
                  have hsl := HH.out.below (HR.out.bel.trans (HI.out.2.mono HR.out.bel.size))
                  obtain ⟨b0, o0, rfl⟩ := hsl.some8 (by rintro rfl; simp at hlt)
                  have HLD := Lib.hid (sl_load hsl hx)
                  have HX := Lib.hid hx
                  have HTX := Lib.hid (OpD.right_txt (HALL.out x (List.mem_of_getElem? hx)) k)
                  have HCT : Hid ((catT (l.take j) k).size ≤ 12800) := Lib.hid (by rw [catT_size]; have := catC_len (l := l.take j) (fun y hy => HALL.out y (List.mem_of_mem_take hy)) k; rw [List.length_take] at this; omega)
                  have HBD : Hid ((lenC (l.take j) k).length + 1 ≤ maxLen ∧ ((lenC (l.take j) k).length + 1) * 8 ≤ 140737488355328) := Lib.hid (by rw [lenC_len, List.length_take]; unfold maxLen; omega)
                  obtain ⟨T, hT⟩ : ∃ T, txt x k = T := ⟨_, rfl⟩
                  obtain ⟨C, hC⟩ : ∃ C, catT (l.take j) k = C := ⟨_, rfl⟩
                  have HT := Lib.hid hT
                  have HC := Lib.hid hC
                  have hsum : ∀ W, (Op.stringOp .add C T).run Tryz.prog W = .ok (.string (C ++ T)) W := fun W => run_string_add_sum W _ _ (by rw [← hC, ← hT]; have := HTX.out; have := HCT.out; omega)
                  rw [hC]
                  clear hsl hx hC
                  go_wp2_with ((with_reducible_and_instances refine wpList_ranG (o := ⟨some 93, _, _, _, _, _⟩) (v := .agg x.cells.toArray) ?_ ?_ ?_); rfl; exact exec_load rfl rfl HLD.out)
                  refine (rtext_any x k hlk _).mono ?_
                  rintro e w3 ⟨rfl, b3⟩
                  rw [hT]
                  have htl : T.size ≤ 64 := by rw [← hT]; exact HTX.out
                  clear hT
                  have HI2 := Lib.hid (HI.out.1.below1 b3)
                  have HB3 : Hid (Below w9.heap.size w9 w3) := Lib.hid (HI.out.2.trans (b3.mono HI.out.2.size))
                  clear b3 HLD HI
                  go_wp2_with (at_builtin; refine wpList_append_struct2 rfl _ _ _ rfl i0 _ 8 Tryz.underlying53 hi hy0 hy1 hy2 rfl (by omega) intc_len intc_one rfl (HI2.out.alloc _) (T.size : Int) w3.heap.size 1 rfl (int_new _ (T.size : Int)) HBD.out.1 HBD.out.2 (by have := HB3.out.size; simp; omega) ?_)
                  intro v' w4 hown4 hx4 hn4
                  rw [← HT.out, ← lenC_take HX.out] at hown4
                  obtain ⟨⟨ua, un, uc⟩, e4⟩ := hown4.sl
                  dsimp only at e4
                  subst e4
                  have HN4 : Hid (Own intc 1 3 w9.heap.size w4 (.slice ua un uc) (lenC (l.take (j + 1)) k) ∧ Below w9.heap.size w9 w4) := Lib.hid ⟨hown4, Ext.new (HB3.out.alloc HB3.out.size _) hx4 (fun i hi _ e => by have := (HI2.out.blk i e).1; omega) (by have := HB3.out.size; simp; omega)⟩
                  have hsl4 := HH.out.below (HR.out.bel.trans (HN4.out.2.mono HR.out.bel.size))
                  have HLD4 := Lib.hid (sl_load hsl4 HX.out)
                  clear hown4 hx4 hn4 HI2 HB3 hsl4
                  go_wp2_with ((with_reducible_and_instances refine wpList_ranG (o := ⟨some 103, _, _, _, _, _⟩) (v := .agg x.cells.toArray) ?_ ?_ ?_); rfl; exact exec_load rfl rfl HLD4.out)
                  refine (rtext_any x k hlk _).mono ?_
                  rintro e w5 ⟨rfl, b5⟩
                  rw [HT.out]
                  have HN : Hid (Own intc 1 3 w9.heap.size w5 (.slice ua un uc) (lenC (l.take (j + 1)) k) ∧ Below w9.heap.size w9 w5) := Lib.hid ⟨HN4.out.1.below1 b5, HN4.out.2.trans (b5.mono HN4.out.2.size)⟩
                  have HCC : Hid (C ++ T = catT (l.take (j + 1)) k) := Lib.hid (by rw [← HC.out, ← HT.out]; exact catT_take HX.out k)
                  clear b5 HN4 HLD4
                  go_wp2_with fail
                  go_roundg (l.length - (j + 1))
                  case measure => rw [HG2.out]; omega
                  case rel => exact ⟨j + 1, ⟨ua, un, uc⟩, rfl, by simp, rfl, by rw [HCC.out], by omega, HN⟩
                · obtain rfl : j = l.length := by omega
                  have hk1 : ¬ (l.length : Int) < (l.length : Int) := by omega
                  have HBL : Hid (SliceIs intc 1 wr (.slice sa sn sc) (lenC l k)) := Lib.hid (by have h1 := HI.out.1.slice intc_len; rw [List.take_length] at h1; exact h1)
                  have HRR : Hid (R4 w wr (.slice ta tn tc) (putB l.length ++ numsB l 21 ++ trusB l 2 ++ txtsB l k)) := Lib.hid (HR.out.below HI.out.2 (Nat.le_refl _))
                  have HLEN : Hid ((putB l.length ++ numsB l 21 ++ trusB l 2 ++ txtsB l k).length + (runsB (lenC l k)).length + (catC l k).length ≤ 140737488355328) := Lib.hid (by have h1 := numsB_len HWF.out hn 21 (by omega); have h2 := trusB_len (l := l) hn 2; have h3 := putB_le10 (n := l.length) (by omega); have h4 := txtsB_len HALL.out hn k; have h5 := lenB_len HALL.out hn k; have h6 := catC_len HALL.out k; rw [List.length_append, List.length_append, List.length_append]; omega)
                  obtain ⟨C, hC⟩ : ∃ C, catT l k = C := ⟨_, rfl⟩
                  have HC := Lib.hid hC
                  rw [List.take_length, hC]
                  clear HI HR hlt hj hC
                  go_wp2_with fail
                  refine (rruns_any _ (lenC l k) _ HBL.out (by rw [lenC_len]; omega) (lenC_in HALL.out k)).mono ?_
                  rintro e w7 ⟨v7, rfl, hown7, b7⟩
                  obtain ⟨⟨ua, un, uc⟩, w8, hr8, h8, -⟩ := R4.app (HRR.out.below b7 (Nat.le_refl _)) (hown7.slice u8c_len) (by have := HLEN.out; omega)
                  have hCs : C.size = (catC l k).length := by rw [← HC.out, catT_size]
                  obtain ⟨⟨xa, xn, xc⟩, w10, hr10, h10, hx10⟩ := app_string h8.own C h8.bel.size (by have := HLEN.out; rw [List.length_append, hCs]; omega)
                  have hCd : C.data.toList = catC l k := by rw [← HC.out]; rfl
                  rw [hCd, List.append_assoc, List.append_assoc, ← txtsB_succ] at h10
                  have HN : Hid (R4 w w10 (.slice xa xn xc) (putB l.length ++ numsB l 21 ++ trusB l 2 ++ txtsB l (k + 1))) := Lib.hid ⟨h10, Ext.new h8.bel hx10 (fun i hi _ e => by have := (h8.own.blk i e).1; omega) h8.bel.size⟩
                  clear h8 h10 hx10 hown7 b7 HBL HRR HLEN hCs hCd
                  go_wp2_with (at_builtin; first | (refine Lib.wpList_append_run _ rfl _ _ _ _ rfl _ _ rfl rfl _ _ hr8 ?_) | (refine Lib.wpList_append_run _ rfl _ _ _ _ rfl _ _ rfl rfl _ _ hr10 ?_))
                  go_roundg (3 - (k + 1))
                  case measure => rw [HG.out]; omega
                  case rel => exact ⟨k + 1, ⟨xa, xn, xc⟩, rfl, by simp, rfl, by omega, HN⟩
            · obtain rfl : k = 3 := by omega
              have hk3 : ¬ (3 : Int) < 3 := by omega
              go_wp2_with fail
              go_ret
              exact ⟨_, rfl, HR.out.own, HR.out.bel⟩

end Go.Proofs.YtdlnokbeadkdfaaGreatDoor

namespace Go.Proofs.YtdlnokbeadkdfaaGreatDoor
open Go.RowKit Go.Deep
set_option linter.unusedSimpArgs false
set_option linter.unusedVariables false

set_option maxRecDepth 20000 in
set_option maxHeartbeats 2000000 in
theorem rencode8_any (v : Value) (l : List OpD) (w : World) (h : SliceIs OpD.cells 26 w v l) (hwf : ∀ x ∈ l, x.wf) (hn : l.length ≤ 1000000) : Calls Tryz.prog 8 #[v] w fun e w' => EncPost w l e w' := by
  obtain ⟨a, cap, rfl, hcap, hmax, -⟩ := id h
  unfold maxLen at hmax
  have HH := Lib.hid h
  have HWF := Lib.hid hwf
  clear h hwf
  by_cases hbig : 200 < l.length
  · have hb1 : (200 : Int) < (l.length : Int) := by omega
    go_enter Tryz.func8, Tryz.ntmps8
    go_wp2_with fail
    go_ret2
    exact .inr (.inl ⟨hbig, rfl, Below.refl _ _⟩)
  have hb1 : ¬ (200 : Int) < (l.length : Int) := by omega
  go_enter Tryz.func8, Tryz.ntmps8
  go_wp2_with fail
  go_loopg [4] l.length (fun g kv wx => ∃ k : Nat, g = l.length - k ∧ kv = .int .i64 k ∧ k ≤ l.length ∧ Hid ((∀ x ∈ l.take k, x.right = true) ∧ Below w.heap.size w wx))
  case atStart => exact ⟨0, rfl, rfl, Nat.zero_le _, Lib.hid ⟨fun x hx => by simp at hx, Below.refl _ _⟩⟩
  case round =>
    obtain ⟨k, hg, rfl, hk, HR⟩ := hrel
    have HG := Lib.hid hg
    clear hg
    by_cases hlt : k < l.length
    · have hk1 : (k : Int) < (l.length : Int) := by omega
      have hk0 : (0 : Int) ≤ (k : Int) := by omega
      obtain ⟨x, hx⟩ : ∃ x, l[k]? = some x := ⟨_, List.getElem?_eq_getElem hlt⟩
      have hsl := HH.out.below HR.out.2
      obtain ⟨b0, o0, rfl⟩ := hsl.some8 (by rintro rfl; simp at hlt)
      have HLD := Lib.hid (sl_load hsl hx)
      have HX := Lib.hid hx
      have HFT : Hid x.fits := Lib.hid (HWF.out x (List.mem_of_getElem? hx)).1
      clear hsl hx
      go_wp2_with ((with_reducible_and_instances refine wpList_ranG (o := ⟨some 18, _, _, _, _, _⟩) (v := .agg x.cells.toArray) ?_ ?_ ?_); rfl; exact exec_load rfl rfl HLD.out)
      refine (rright7_any x _ HFT.out).mono ?_
      rintro e w3 ⟨rfl, b3⟩
      have HB3 : Hid (Below w.heap.size w w3) := Lib.hid (HR.out.2.trans (b3.mono HR.out.2.size))
      clear b3 HLD
      cases hr : x.right with
      | false =>
        have HBAD : Hid (∃ x ∈ l, x.right = false) := Lib.hid ⟨x, List.mem_of_getElem? HX.out, hr⟩
        clear hr
        go_wp2_with fail
        go_ret2
        exact .inr (.inr ⟨by omega, HBAD.out, rfl, HB3.out⟩)
      | true =>
        have HN : Hid ((∀ y ∈ l.take (k + 1), y.right = true) ∧ Below w.heap.size w w3) := Lib.hid ⟨fun y hy => by
          rw [List.take_add_one, HX.out, Option.toList_some] at hy
          rcases List.mem_append.1 hy with hy | hy
          · exact HR.out.1 y hy
          · rw [List.mem_singleton.1 hy]; exact hr, HB3.out⟩
        clear hr HR HB3
        go_wp2_with fail
        go_roundg (l.length - (k + 1))
        case measure => rw [HG.out]; omega
        case rel => exact ⟨k + 1, rfl, by simp, by omega, HN⟩
    · obtain rfl : k = l.length := by omega
      have hk1 : ¬ (l.length : Int) < (l.length : Int) := by omega
      have HALL : Hid (∀ x ∈ l, x.right = true) := Lib.hid (by have := HR.out.1; rwa [List.take_length] at this)
      have HB : Hid (Below w.heap.size w wr) := Lib.hid HR.out.2
      clear hlt HR hk
      go_wp2_with fail
      refine (rraw_any _ l _ (HH.out.below HB.out) HWF.out (by omega) HALL.out).mono ?_
      rintro e w5 ⟨v5, rfl, ho5, hb5⟩
      have HZ : Hid (Own u8c 1 5 w.heap.size w5 v5 (encB l) ∧ Below w.heap.size w w5) := Lib.hid ⟨ho5.mono HB.out.size, HB.out.trans (hb5.mono HB.out.size)⟩
      clear ho5 hb5
      obtain ⟨⟨qa, qn, qc⟩, eq⟩ := HZ.out.1.sl
      dsimp only at eq
      subst eq
      go_wp2_with fail
      go_ret2
      exact .inl ⟨by omega, HALL.out, _, rfl, HZ.out.1, HZ.out.2⟩

end Go.Proofs.YtdlnokbeadkdfaaGreatDoor

namespace Go.Proofs.YtdlnokbeadkdfaaGreatDoor
open Go.RowKit Go.Deep
set_option linter.unusedSimpArgs false
set_option linter.unusedVariables false

open Classical in
noncomputable def codeB (l : List OpD) : Int := if 200 < l.length then 1 else if ∀ x ∈ l, x.right = true then 0 else 71
open Classical in
noncomputable def outB (l : List OpD) : List UInt8 := if l.length ≤ 200 ∧ ∀ x ∈ l, x.right = true then encB l else []
/-- What Encode answers, as a function. -/
theorem encPost_fun {w w' : World} {l : List OpD} {e : Ending} (h : EncPost w l e w') : ∃ a cap, e = .returned (.tuple #[.slice a (outB l).length cap, .int .i64 (codeB l)]) ∧ SliceIs u8c 1 w' (.slice a (outB l).length cap) (outB l) ∧ Below w.heap.size w w' := by
  rcases h with ⟨h1, h2, v, h3, h4, h5⟩ | ⟨h1, h2, h3⟩ | ⟨h1, ⟨x, hx, hr⟩, h2, h3⟩
  · have hc : codeB l = 0 := by unfold codeB; rw [if_neg (by omega), if_pos h2]
    have ho : outB l = encB l := by unfold outB; rw [if_pos ⟨h1, h2⟩]
    rw [hc, ho]
    have hs := h4.slice u8c_len
    obtain ⟨a, cap, rfl, _⟩ := id hs
    exact ⟨a, cap, h3, hs, h5⟩
  · have hc : codeB l = 1 := by unfold codeB; rw [if_pos h1]
    have ho : outB l = [] := by unfold outB; rw [if_neg (fun h => by have := h.1; omega)]
    rw [hc, ho]
    exact ⟨none, 0, h2, SliceIs.nil_any _ _ (by omega), h3⟩
  · have hno : ¬ ∀ y ∈ l, y.right = true := fun h => by have := h x hx; rw [hr] at this; cases this
    have hc : codeB l = 71 := by unfold codeB; rw [if_neg (by omega), if_neg hno]
    have ho : outB l = [] := by unfold outB; rw [if_neg (fun h => hno h.2)]
    rw [hc, ho]
    exact ⟨none, 0, h2, SliceIs.nil_any _ _ (by omega), h3⟩
theorem ops_append {base : Nat} {w0 w : World} {v vx : Value} {out ys : List OpD} (ho : Own OpD.cells 26 33 base w v out) (hb : Below base w0 w) (hx : SliceIs OpD.cells 26 w vx ys) (hbase : base ≤ w.heap.size) (hl : out.length + ys.length ≤ 100000) :
    ∃ (s : Sl) (w' : World), (Builtin.append_ #[22, 22] 22 #[v, vx]).run Tryz.prog w = .ok (.slice s.a s.n s.cap) w' ∧ Own OpD.cells 26 33 base w' (.slice s.a s.n s.cap) (out ++ ys) ∧ Below base w0 w' ∧ base ≤ w'.heap.size := by
  obtain ⟨i0, hi, hz0, hz1, hz2⟩ := info_parts info_op
  obtain ⟨v', w', hr, ho2, hx2⟩ := append_structs (P := Tryz.prog) 22 22 i0 _ 232 Tryz.underlying22 hi hz0 hz1 hz2 rfl (by omega) OpD.len OpD.one ho hx (by unfold maxLen; omega) (by omega) hbase
  obtain ⟨s, rfl⟩ := ho2.sl
  exact ⟨s, w', hr, ho2, Ext.new hb hx2 (fun i hi _ e => by have := (ho.blk i e).1; omega) hbase, Nat.le_trans hbase hx2.size⟩
theorem Own.noOps {base : Nat} {W : World} (hb : base ≤ W.heap.size) : Own OpD.cells 26 33 base (W.alloc (.cells #[] 33)) (.slice (some ⟨W.heap.size, 0, none⟩) 0 0) [] :=
  ⟨rfl, .inr ⟨W.heap.size, 0, #[], rfl, hb, heap_new8 W _, Nat.le_refl _, Nat.zero_le _, rfl, rfl⟩⟩
theorem SliceIs.one_op (W : World) (x : OpD) : SliceIs OpD.cells 26 (W.alloc (.cells x.cells.toArray 33)) (.slice (some ⟨W.heap.size, 0, none⟩) 1 1) [x] :=
  ⟨_, _, rfl, Nat.le_refl _, by unfold maxLen; omega, fun _ => ⟨_, _, rfl, fun i y hi j u hj => by
    have h0 := (List.getElem?_eq_some_iff.1 hi).1
    have h1 : i = 0 := by simp at h0; omega
    subst h1
    cases hi
    rw [Nat.zero_mul, Nat.zero_add]
    exact cells_new W _ _ j u hj⟩⟩
def op77 : OpD := { zOp with ch := 77 }
set_option maxRecDepth 20000 in
set_option maxHeartbeats 2000000 in
theorem encs_any (v : Value) (l : List OpD) (w : World) (h : SliceIs OpD.cells 26 w v l) (hwf : ∀ x ∈ l, x.wf) (hg : ErrTy w) :
    Calls Tryz.prog 3 #[v] w fun e w' => e = .returned (.bool true) ∧ Below w.heap.size w w' := by
  obtain ⟨a, cap, rfl, hcap, hmax, -⟩ := id h
  unfold maxLen at hmax
  have HH := Lib.hid (And.intro h (And.intro hg hwf))
  clear h hg hwf
  by_cases hbig : 210 < l.length
  · have hb1 : (210 : Int) < (l.length : Int) := by omega
    go_enter Tryz.func3, Tryz.ntmps3
    go_wp2_with fail
    refine (alive_any _ HH.out.2.1).mono ?_
    rintro e w2 ⟨rfl, hb⟩
    have HB := Lib.hid hb
    clear hb
    go_wp2_with fail
    go_ret
    exact ⟨rfl, HB.out⟩
  have hb1 : ¬ (210 : Int) < (l.length : Int) := by omega
  have hbA : Below w.heap.size w (w.alloc (.cells #[] 33)) := (Below.refl _ _).alloc (Nat.le_refl _) _
  obtain ⟨⟨sa, sn, sc⟩, w6, hr6, ho6, hb6, hz6⟩ := ops_append (Own.noOps (Nat.le_refl _)) hbA (HH.out.1.below hbA) (by simp) (by simp; omega)
  have hbB := hb6.alloc hz6 (.cells op77.cells.toArray 33)
  obtain ⟨⟨ta, tn, tc⟩, w8, hr8, ho8, hb8, hz8⟩ := ops_append (ho6.below1 ((Below.refl _ _).alloc (Nat.le_refl _) _)) hbB (SliceIs.one_op w6 op77) (by simp; omega) (by simp; omega)
  rw [List.nil_append] at ho8
  obtain ⟨ta2, tc2, et, hct, -, -⟩ := id (ho8.slice OpD.len)
  rcases ho8.eq_slice with ⟨_, e⟩ | ⟨g, gc, e8, hg1, hg2⟩
  · simp at e
  obtain ⟨rfl, rfl, rfl⟩ : ta = some ⟨g, 0, none⟩ ∧ tn = (l ++ [op77]).length ∧ tc = tc2 := by
    injection e8 with e1 e2 e3
    injection et with e4 e5 e6
    exact ⟨e1, e2, e6⟩
  clear e8 et
  rw [List.length_append, List.length_singleton] at hct
  have H8 := Lib.hid (And.intro (ho8.slice OpD.len) (And.intro hb8 hz8))
  have hc8 : (l.length : Int) ≤ (tc : Int) := by omega
  have hc9 : (l.length : Int) + 1 ≤ (tc : Int) := by omega
  have HO : Hid (SliceIs OpD.cells 26 w8 (.slice (some ⟨g, 0, none⟩) l.length tc) l) := Lib.hid (by
    have h1 := H8.out.1.take1 (k := l.length) (by simp)
    rwa [List.take_left] at h1)
  clear hbA ho6 hb6 hz6 hbB ho8 hb8 hz8 hg1 hg2
  go_enter Tryz.func3, Tryz.ntmps3
  go_wp2_with (first | (at_builtin; refine Lib.wpList_append_run _ rfl _ _ _ _ rfl _ _ rfl rfl _ _ hr6 ?_) | (at_builtin; refine Lib.wpList_append_run _ rfl _ _ _ _ rfl _ _ rfl rfl _ _ hr8 ?_))
  clear hr6 hr8
  refine (encode_any _ l _ HO.out HH.out.2.2 (by omega)).mono ?_
  intro e w9 hp
  obtain ⟨pa, pc, rfl, hs9, hb9⟩ := encPost_fun hp
  have H9 := Lib.hid (And.intro hs9 (H8.out.2.1.trans (hb9.mono H8.out.2.1.size)))
  have HO9 := Lib.hid (And.intro (HO.out.below hb9) (H8.out.1.below hb9))
  clear hp hs9 hb9 HO H8
  go_wp2_with fail
  refine (rencode8_any _ l _ (HH.out.1.below H9.out.2) HH.out.2.2 (by omega)).mono ?_
  intro e w10 hp
  obtain ⟨qa, qc, rfl, hs10, hb10⟩ := encPost_fun hp
  have H10 := Lib.hid (And.intro hs10 (And.intro (H9.out.1.below hb10) (H9.out.2.trans (hb10.mono H9.out.2.size))))
  have HO10 := Lib.hid (And.intro (HO9.out.1.below hb10) (HO9.out.2.below hb10))
  clear hp hs10 hb10 HO9 H9
  obtain ⟨n, hn⟩ : ∃ n, codeB l = n := ⟨_, rfl⟩
  obtain ⟨m, hm⟩ : ∃ m, (outB l).length = m := ⟨_, rfl⟩
  rw [hm] at H10
  rw [hn, hm]
  clear hn hm
  go_wp2_with fail
  refine (sameB_any H10.out.2.1 H10.out.1).mono ?_
  rintro e w11 ⟨rfl, rfl⟩
  simp only [decide_true]
  go_wp2_with fail
  refine (same7_any _ _ l l _ HO10.out.1 (HH.out.1.below H10.out.2.2)).mono ?_
  rintro e w12 ⟨rfl, hb12⟩
  simp only [decide_true]
  have H12 := Lib.hid (H10.out.2.2.trans (hb12.mono H10.out.2.2.size))
  have HO12 := Lib.hid (HO10.out.2.below hb12)
  clear hb12 HO10 H10
  go_wp2_with fail
  refine (alive_any _ (HH.out.2.1.below H12.out)).mono ?_
  rintro e w13 ⟨rfl, hb⟩
  have c77 : w13.cell? ⟨g, 0 + l.length * 26 + 14, none⟩ = some (.int .i64 77) := op_cell (HO12.out.below hb) (k := l.length) (x := op77) (by simp) rfl
  rw [Nat.zero_add] at c77
  have HZ := Lib.hid (H12.out.trans (hb.mono H12.out.size))
  clear hb HO12 H12
  have hl0 : (0 : Int) ≤ (l.length : Int) := by omega
  go_wp2_with fail
  go_ret
  exact ⟨rfl, HZ.out⟩

end Go.Proofs.YtdlnokbeadkdfaaGreatDoor

namespace Go.Proofs.YtdlnokbeadkdfaaGreatDoor
open Go Go.ChangeShapes Go.WideShapes Go.ChangeAt Go.RowKit
set_option linter.unusedSimpArgs false
set_option linter.unusedVariables false

set_option maxRecDepth 100000 in
theorem batchEncodes_lifted (os : Os) (started : os.Started) (H : Type) (enc : TypeId × Value → H) :
    ReturnsInHanded {} Tryz.checked os 3 .any (fun w args => (Rows.batchEncodesSpec.pre enc Tryz.prog Tryz.f3 [] false w args ∧ laidMetH Tryz.prog laidL w) ∧ sizedMet enc Tryz.prog Tryz.f3 (OpenSpec.ofChange Rows.batchEncodesSpec) false w args)
      (Rows.batchEncodesSpec.post enc Tryz.prog Tryz.f3 false true false false) := by
  refine returnsInHanded_of_change_and (C := Tryz.checked) (X := fun w _ => laidMetH Tryz.prog laidL w) (fun _ _ _ hh h => h.of_heap hh) Tryz.own started (by kernel_rfl) Tryz.func3
    (ChangeSpec.witness_shaped (enc := enc) (C := Tryz.checked) (os := os) (X := fun w _ => laidMetH Tryz.prog laidL w) false (worldL os) #[.slice none 0 0] 8 (worldL_os os) (World.shaped_of_ZipB (by kernel_rfl) (by kernel_rfl)) (by kernel_rfl) (by kernel_rfl) (by kernel_rfl) (worldL_met os _)) ?_
  intro W base args ds gs before hval0 hW _ _ hL _
  have hval : ∀ (j : Nat) t v, Tryz.f3.params[j]? = some t → args[j]? = some v → Value.okWide Tryz.prog W .any base t v := hval0
  have hW' := hW
  obtain ⟨p, q, hA0, hV, rfl, hfz, hnd⟩ := hW
  have hA : DataW.TrodAll enc Tryz.prog W 0 (fun _ => true) true Tryz.f3.params.toList args.toList ds p := hA0
  rw [Tryz.params3] at hA hval
  obtain ⟨v0, vs0, d0, ds0, p0, q0, hargs, rfl, rfl, h0, r0⟩ := trodAll_cons hA
  obtain ⟨rfl, rfl, rfl⟩ := trodAll_nil r0
  obtain rfl : args = #[v0] := by cases args; simp_all
  obtain ⟨rfl, rfl⟩ := trodVars_none hV
  have k0 := h0
  have lt0 : ∀ x ∈ p0, x.block < W.heap.size := by obtain ⟨m, hm⟩ := k0; exact DataW.trod_lt m _ _ _ hm
  obtain ⟨l, hv0, hw0⟩ := open_opsR (hval 0 22 v0 rfl rfl) h0
  clear hA0 hval0
  refine (encs_any v0 l W hv0 hw0 (errTy_of_laid hL)).mono fun e W' ⟨he, bel⟩ => ?_
  subst he
  exact ⟨_, rfl, _, _, _, [], _, [], hW', trodAll_mk1 (shut_bool Tryz.underlying4 _), (trodAll_cons_mk (Below.trod Tryz.laidOut (by kernel_rfl) (of_decide_eq_true (by kernel_rfl)) k0 bel lt0) trodAll_mk0), rfl, bel.frame _, fun h => by cases h⟩

theorem batchEncodes_holds : Rows.BatchEncodesSaid :=
  OpenClaim.holds_of_wide 3 Tryz.f3 rfl rfl rfl rfl rfl rfl rfl ⟨rfl, rfl, rfl, rfl, rfl⟩ rfl rfl rfl rfl rfl (by kernel_rfl) Tryz.func3 (by kernel_rfl)
    (of_decide_eq_true (by kernel_rfl)) (by unfold Func.isWrapper; first | (rw [if_pos (by decide +kernel)]; kernel_rfl) | (rw [if_neg (by decide +kernel)]; exact ⟨rfl, rfl⟩))
    (fun os started H enc _ => batchEncodes_lifted os started H enc)

theorem batchEncodes_card : Rows.BatchEncodesCardSaid :=
  Claim7.holds_tied_plain_at .later [] [.data, .handle, .pinned] true Rows.batchEncodesCard.stood.harness true
    batchEncodes_holds (fun _ h => by cases h) (by kernel_rfl) (fun _ h => by cases h) batchEncodes_row_tie rfl ⟨rfl, rfl⟩ (by kernel_rfl) rfl
    (fun f fn hf hfn => by
      obtain rfl : f = 3 := Option.some.inj ((show Tryz.prog.funcNamed "stemma/stemmalaw08.BatchEncodes" = some 3 by kernel_rfl).symm.trans hf) |>.symm
      obtain rfl : fn = Tryz.f3 := (Option.some.inj (Tryz.func3.symm.trans hfn)).symm
      exact ⟨by kernel_rfl, fun j t ht => by
        rw [Tryz.params3] at ht
        have hm : t ∈ [22] := by simpa using Array.mem_of_getElem? ht
        have hall : ([22].all fun u => !Tryz.prog.wantsStandIn u) = true := by kernel_rfl
        exact (show Tryz.prog.wantsStandIn t = false by simpa using List.all_eq_true.1 hall t hm)⟩)
    (by kernel_rfl)
#print axioms batchEncodes_card

end Go.Proofs.YtdlnokbeadkdfaaGreatDoor
