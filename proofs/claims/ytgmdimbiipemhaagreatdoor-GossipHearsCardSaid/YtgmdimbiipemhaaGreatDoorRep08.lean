/- slices.Repeat of one element: contracts. -/
import Derived.Test.YtgmdimbiipemhaaGreatDoorAppB08
import Derived.Test.YtgmdimbiipemhaaGreatDoorBits08
import Derived.Test.YtgmdimbiipemhaaGreatDoorHeldT
import Derived.Test.YtgmdimbiipemhaaGreatDoorLaid
import Derived.Laws.CopyOwn
import Derived.Laws.OwnMore
import Derived.Deep.LoopGhost
import Derived.IntWalk
import Derived.Deep.QuietTactic
import Derived.Deep.CutBlock
import Derived.Deep.DeepCutAuto
namespace Go.Proofs.YtgmdimbiipemhaaGreatDoor
open Go.RowKit Go.Deep Go.Shelf
set_option linter.unusedSimpArgs false
set_option linter.unusedVariables false

theorem heap_new8 (w : World) (o : Obj) : (w.alloc o).heap[w.heap.size]? = some o := by
  show (w.heap.push o)[w.heap.size]? = _
  simp
/-- copy, as one operation. -/
theorem exec_copy {P : Program} {o : Oper} {a : Act} {w w' : World} {s x : Operand} {t tn : TypeId} {v vx v' : Value} (hop : o.op = .call { callee := .builtin .copy, args := #[s, x], argTypes := #[t, tn] }) (hs : a.eval s = v) (hx : a.eval x = vx)
    (hr : (Builtin.copy_ #[t, tn] o.type #[v, vx]).run P w = .ok v' w') : (execOp a.eval o).run P w = .ok (.value v') w' := by
  unfold execOp
  simp only [hop, resolve, invoke, builtin, Sem.run_bind, Sem.run_pure, Result.andThen_ok, List.map_toArray, List.map_cons, List.map_nil, hs, hx, hr]
/-- So many are there already. -/
def repC (u z : Value) (k j : Nat) : List Value := List.replicate j u ++ List.replicate (k - j) z
theorem repC_len {u z : Value} {k j : Nat} (h : j ≤ k) : (repC u z k j).length = k := by simp [repC]; omega
theorem repC_step {u z : Value} {k j m : Nat} (hj : j + m ≤ k) : (repC u z k j).take j ++ List.replicate m u ++ (repC u z k j).drop (j + m) = repC u z k (j + m) := by
  unfold repC
  rw [List.take_left' (by simp), List.drop_append, List.drop_eq_nil_of_le (by simp), List.nil_append, List.length_replicate, List.drop_replicate, show k - j - (j + m - j) = k - (j + m) by omega, List.replicate_append_replicate]
theorem repC_all {u z : Value} {k : Nat} : repC u z k k = List.replicate k u := by simp [repC]
theorem repC_cell {u z : Value} {k j i : Nat} {W : World} {g : Nat} {E : TypeId} (hg : W.heap[g]? = some (.cells (repC u z k j).toArray E (0, 0))) (hi : i < j) : W.cell? ⟨g, i, none⟩ = some u := by
  unfold World.cell?
  rw [hg]
  simp [repC, List.getElem?_append_left (show i < (List.replicate j u).length by simpa using hi), hi]
theorem made_rep (z : Value) (h : z.cells = #[z]) (k : Nat) : madeCells z.cells (k * 1) = (repC z z k 0).toArray := by
  unfold repC
  rw [h]
  apply Array.ext_getElem?
  intro i
  simp [madeCells]
  try grind
theorem Own.of_row {α : Type} {ea : α → List Value} {e : TypeId} {base g : Nat} {w : World} {l : List α} {cs : List Value} (h1 : ∀ x, ∃ u, ea x = [u]) (hg : w.heap[g]? = some (.cells cs.toArray e (0, 0))) (hb : base ≤ g) (hcs : cs = l.flatMap ea) (hl : l.length ≤ maxLen) :
    Own ea 1 e base w (.slice (some ⟨g, 0, none⟩) l.length l.length) l := by
  have hlen : ∀ l : List α, (l.flatMap ea).length = l.length := by
    intro l
    induction l with
    | nil => rfl
    | cons x l ih => obtain ⟨u, hu⟩ := h1 x; rw [List.flatMap_cons, List.length_append, ih, hu]; simp; omega
  subst hcs
  refine ⟨by rw [hlen, Nat.mul_one], .inr ⟨g, l.length, _, rfl, hb, hg, Nat.le_refl _, hl, by simp [hlen], ?_⟩⟩
  rw [List.take_of_length_le (by simp [hlen])]
theorem own_rep {α : Type} {ea : α → List Value} {e : TypeId} {g k : Nat} {w : World} {x : α} {u z : Value} (h1 : ∀ x, ∃ u, ea x = [u]) (hx : ea x = [u]) (hg : w.heap[g]? = some (.cells (repC u z k k).toArray e (0, 0))) (hk : k ≤ 65536) :
    Own ea 1 e g w (.slice (some ⟨g, 0, none⟩) k k) (List.replicate k x) := by
  have h := Own.of_row (ea := ea) (l := List.replicate k x) (cs := repC u z k k) (base := g) h1 hg (Nat.le_refl _) (by
    rw [repC_all]
    clear hg hk
    induction k with
    | zero => rfl
    | succ k ih => rw [List.replicate_succ, List.replicate_succ, List.flatMap_cons, hx, ← ih]; rfl) (by rw [List.length_replicate]; unfold maxLen; omega)
  rw [List.length_replicate] at h
  exact h

set_option maxRecDepth 20000 in
set_option maxHeartbeats 1000000 in
theorem repint_any (x : Int) (b c k : Nat) (w : World) (hb : w.cell? ⟨b, 0, none⟩ = some (.int .i64 x)) (hk : k ≤ 65536) (hc : 1 ≤ c) : Calls Tryz.prog 181 #[.slice (some ⟨b, 0, none⟩) 1 c, .int .i64 k] w fun e w' => ∃ v, e = .returned v ∧ Own intc 1 3 w.heap.size w' v (List.replicate k x) ∧ Below w.heap.size w w' := by
  have hmul := Any.bits_Mul Tryz.mulF 1 k (by omega) (by omega) w
  have hmul2 : Calls Tryz.prog 204 #[.int .u64 1, .int .u64 k] w fun e w' => e = .returned (.tuple #[.int .u64 0, .int .u64 k]) ∧ w' = w := by
    have e1 : 1 * k / 18446744073709551616 = 0 := by omega
    have e2 : 1 * k % 18446744073709551616 = k := by omega
    rw [e1, e2] at hmul
    exact hmul
  have HM := Lib.hid hmul2
  clear hmul hmul2
  obtain ⟨i0, hi, hy0, hy1, hy2⟩ := info_parts info_int
  have hmk := run_makeSlice (P := Tryz.prog) w 100 3 i0 (Value.int .i64 0) Tryz.underlying100 hi hy0 .i64 .i64 (k : Int) (k : Int) (by omega) (by omega) (by rw [hy1]; omega) (by rw [hy2]; omega) (by omega)
  rw [hy1, Int.toNat_natCast, made_rep (Value.int .i64 0) rfl] at hmk
  obtain ⟨g, hg⟩ : ∃ g, w.heap.size = g := ⟨_, rfl⟩
  rw [hg] at hmk
  obtain ⟨Z, hZ⟩ : ∃ Z : World, w.alloc (.cells (repC (Value.int .i64 0) (Value.int .i64 0) k 0).toArray 3) = Z := ⟨_, rfl⟩
  have hz : Z.heap[g]? = some (.cells (repC (Value.int .i64 x) (Value.int .i64 0) k 0).toArray 3 (0, 0)) := by rw [← hZ, ← hg]; exact heap_new8 w _
  have HB0 : Hid (Below g w Z) := Lib.hid (by rw [← hZ, ← hg]; exact (Below.refl _ _).alloc (Nat.le_refl _) _)
  rw [hZ] at hmk
  have hbZ : Z.cell? ⟨b, 0, none⟩ = some (Value.int .i64 x) := keepB (by rw [hg]; exact HB0.out) hb
  have hsz : (Tryz.prog.info? 3).map (·.size) = some 1 := by rw [hi]; simp [hy1]
  have h64 : IntKind.u64.wrap (k : Int) = (k : Int) := by rw [u64_wrap]; omega
  go_enter Tryz.func181, Tryz.ntmps181
  go_wp2_with fail
  refine HM.out.mono ?_
  rintro e w5 ⟨rfl, e5⟩
  rw [e5]
  clear e5 w5
  by_cases hk0 : k = 0
  · have hcp := run_copy_none (P := Tryz.prog) Z 100 100 3 3 (some ⟨g, 0, none⟩) (some ⟨b, 0, none⟩) k k 1 c Tryz.underlying100 hsz (by rw [hk0]; rfl)
    have HK0 := Lib.hid hk0
    clear hk0
    go_wp2_with fail
    go_loopg [8] 0 (fun gk nv wr => gk = 0 ∧ nv = .int .i64 0 ∧ wr = Z)
    case atStart => exact ⟨rfl, rfl, rfl⟩
    case round =>
      obtain ⟨rfl, rfl, rfl⟩ := hrel
      have hk1 : ¬ (0 : Int) < (k : Int) := by have := HK0.out; omega
      have HO : Hid (Own intc 1 3 g wr (.slice (some ⟨g, 0, none⟩) k k) (List.replicate k x)) := Lib.hid (own_rep (u := (Value.int .i64 x)) (z := (Value.int .i64 0)) (fun x => ⟨_, rfl⟩) rfl (by rw [HK0.out] at hz ⊢; exact hz) hk)
      clear hz hcp hmk hbZ hk
      go_wp2_with fail
      go_ret
      try rw [hg]
      exact ⟨_, rfl, HO.out, HB0.out⟩
  · have hcp := run_copy_row (P := Tryz.prog) Z 100 100 3 3 g 0 k k ⟨b, 0, none⟩ 1 c (repC (Value.int .i64 x) (Value.int .i64 0) k 0).toArray 3 [(Value.int .i64 x)] Tryz.underlying100 hsz hz (by simp [Nat.min_def]; omega) (fun j v hj => by cases j with | zero => cases hj; exact hbZ | succ j => simp at hj) (by simp [repC]; omega) (fun v hv => by rw [List.mem_singleton.1 hv]; rfl)
    have hr1 : (repC (Value.int .i64 x) (Value.int .i64 0) k 0).toArray.toList.take 0 ++ [(Value.int .i64 x)] ++ (repC (Value.int .i64 x) (Value.int .i64 0) k 0).toArray.toList.drop (0 + [(Value.int .i64 x)].length) = repC (Value.int .i64 x) (Value.int .i64 0) k 1 := repC_step (m := 1) (by omega)
    rw [hr1] at hcp
    obtain ⟨Z1, hZ1⟩ : ∃ Z1, Z.setRow g (repC (Value.int .i64 x) (Value.int .i64 0) k 1).toArray = Z1 := ⟨_, rfl⟩
    rw [hZ1] at hcp
    have HZ1 : Hid (Z1.heap[g]? = some (.cells (repC (Value.int .i64 x) (Value.int .i64 0) k 1).toArray 3 (0, 0)) ∧ Below g w Z1) := Lib.hid ⟨by rw [← hZ1]; exact setRow_heap Z g _ _ _ _ hz, by rw [← hZ1]; exact below_setRow HB0.out (Nat.le_refl _) _⟩
    clear hr1 hZ1 hz hbZ hZ
    go_wp2_with fail
    clear hcp hmk
    go_loopg [8] (k - 1) (fun gk nv wr => ∃ j : Nat, gk = k - j ∧ nv = .int .i64 j ∧ 1 ≤ j ∧ j ≤ k ∧ Hid (wr.heap[g]? = some (.cells (repC (Value.int .i64 x) (Value.int .i64 0) k j).toArray 3 (0, 0)) ∧ Below g w wr))
    case atStart => exact ⟨1, rfl, rfl, Nat.le_refl _, by omega, HZ1⟩
    case round =>
      clear HZ1
      obtain ⟨j, hgk, rfl, hj1, hjk, HR⟩ := hrel
      have HGK := Lib.hid hgk
      clear hgk
      by_cases hlt : j < k
      · have hl1 : (j : Int) < (k : Int) := by omega
        go_upto_region 9 with fail
        have HR1 : Hid (wr.drew.heap[g]? = some (.cells (repC (Value.int .i64 x) (Value.int .i64 0) k j).toArray 3 (0, 0)) ∧ Below g w wr.drew) := Lib.hid ⟨HR.out.1, HR.out.2.drew⟩
        clear HR
        have hS0 : (fun _ : World => True) wr.drew := trivial
        refine wp_region_s (fun _ => True) (fun _ => false) (by kernel_rfl) ?_
        generalize wr.drew = W1 at HR1 ⊢
        have hn1 : ((k : Int) - (j : Int)).toNat = k - j := by omega
        have hn2 : ¬ (k : Int) < (j : Int) := by omega
        have hn3 : (j : Int) ≤ (k : Int) := by omega
        have hne : ¬ k = j := by omega
        refine wpAnyS_take (i := 0) (d := some 38) rfl rfl rfl (by kernel_rfl) (by kernel_rfl) (by kernel_rfl) (by kernel_rfl) (fun _ _ _ h => h) (.inl ⟨by rfl, fun W hW => by go_simp; try rfl⟩) hS0 ?_
        try simp only [Act.put, List.setIfInBounds_toArray, List.set_cons_zero, List.set_cons_succ]
        refine wpAnyS_take (i := 1) (d := some 39) rfl rfl rfl (by kernel_rfl) (by kernel_rfl) (by kernel_rfl) (by kernel_rfl) (fun _ _ _ h => h) (.inl ⟨by rfl, fun W hW => by go_simp; try rfl⟩) hS0 ?_
        try simp only [Act.put, List.setIfInBounds_toArray, List.set_cons_zero, List.set_cons_succ]
        refine wpAnyS_take (i := 2) (d := some 40) rfl rfl rfl (by kernel_rfl) (by kernel_rfl) (by kernel_rfl) (by kernel_rfl) (fun _ _ _ h => h) (.inl ⟨by rfl, fun W hW => by go_simp; try rfl⟩) hS0 ?_
        try simp only [Act.put, List.setIfInBounds_toArray, List.set_cons_zero, List.set_cons_succ]
        refine wpAnyS_take (i := 3) (d := some 41) (v := .slice (some ⟨g, j, none⟩) (k - j) (k - j)) rfl rfl rfl (by kernel_rfl) (by kernel_rfl) (by kernel_rfl) (by kernel_rfl) (fun _ _ _ h => h) (.inl ⟨by rfl, fun W hW => by go_simp; try rfl⟩) hS0 ?_
        try simp only [Act.put, List.setIfInBounds_toArray, List.set_cons_zero, List.set_cons_succ]
        refine wpAnyS_take (i := 4) (d := some 42) rfl rfl rfl (by kernel_rfl) (by kernel_rfl) (by kernel_rfl) (by kernel_rfl) (fun _ _ _ h => h) (.inl ⟨by rfl, fun W hW => by go_simp; try rfl⟩) hS0 ?_
        try simp only [Act.put, List.setIfInBounds_toArray, List.set_cons_zero, List.set_cons_succ]
        refine wpAnyS_take (i := 5) (d := some 43) rfl rfl rfl (by kernel_rfl) (by kernel_rfl) (by kernel_rfl) (by kernel_rfl) (fun _ _ _ h => h) (.inl ⟨by rfl, fun W hW => by go_simp; try rfl⟩) hS0 ?_
        try simp only [Act.put, List.setIfInBounds_toArray, List.set_cons_zero, List.set_cons_succ]
        refine wpAnyS_take (i := 6) (d := some 44) (v := .slice (some ⟨g, 0, none⟩) j k) rfl rfl rfl (by kernel_rfl) (by kernel_rfl) (by kernel_rfl) (by kernel_rfl) (fun _ _ _ h => h) (.inl ⟨by rfl, fun W hW => by go_simp; try rfl⟩) hS0 ?_
        try simp only [Act.put, List.setIfInBounds_toArray, List.set_cons_zero, List.set_cons_succ]
        obtain ⟨m, hm, hmj, hmle⟩ : ∃ m, m = Nat.min j (k - j) ∧ m ≤ j ∧ (j + m ≤ k ∧ 1 ≤ m) := ⟨_, rfl, Nat.min_le_left _ _, by simp only [Nat.min_def]; split <;> omega⟩
        have hcp := run_copy_row (P := Tryz.prog) W1 100 100 3 3 g j (k - j) (k - j) ⟨g, 0, none⟩ j k (repC (Value.int .i64 x) (Value.int .i64 0) k j).toArray 3 (List.replicate m (Value.int .i64 x)) Tryz.underlying100 hsz HR1.out.1 (by rw [List.length_replicate]; exact hm) (fun i v hi => by
          have hi2 := (List.getElem?_eq_some_iff.1 hi).1
          rw [List.length_replicate] at hi2
          rw [List.getElem?_replicate, if_pos hi2] at hi
          cases hi
          have hij : i < j := by omega
          have h := repC_cell HR1.out.1 hij
          rw [show (Addr.add ⟨g, 0, none⟩ i) = ⟨g, i, none⟩ from by unfold Addr.add; split <;> simp_all]
          exact h) (by rw [List.length_replicate]; have := repC_len (u := (Value.int .i64 x)) (z := (Value.int .i64 0)) hjk; simp only [List.size_toArray]; omega) (fun v hv => by rw [(List.mem_replicate.1 hv).2]; rfl)
        have hr1 : (repC (Value.int .i64 x) (Value.int .i64 0) k j).toArray.toList.take j ++ List.replicate m (Value.int .i64 x) ++ (repC (Value.int .i64 x) (Value.int .i64 0) k j).toArray.toList.drop (j + (List.replicate m (Value.int .i64 x)).length) = repC (Value.int .i64 x) (Value.int .i64 0) k (j + m) := by rw [List.length_replicate]; exact repC_step hmle.1
        rw [hr1, List.length_replicate] at hcp
        clear hm
        have HR2 : Hid ((W1.setRow g (repC (Value.int .i64 x) (Value.int .i64 0) k (j + m)).toArray).heap[g]? = some (.cells (repC (Value.int .i64 x) (Value.int .i64 0) k (j + m)).toArray 3 (0, 0)) ∧ Below g w (W1.setRow g (repC (Value.int .i64 x) (Value.int .i64 0) k (j + m)).toArray)) := Lib.hid ⟨setRow_heap W1 g _ _ _ _ HR1.out.1, below_setRow HR1.out.2 (Nat.le_refl _) _⟩
        generalize W1.setRow g (repC (Value.int .i64 x) (Value.int .i64 0) k (j + m)).toArray = W2 at hcp HR2
        refine wpAnyS_ran (i := 7) (d := some 45) (v := .int .i64 m) (w' := W2) (by kernel_rfl) rfl rfl (by rfl) (exec_copy rfl rfl rfl hcp) (fun _ => trivial) ?_
        try simp only [Act.put, List.setIfInBounds_toArray, List.set_cons_zero, List.set_cons_succ]
        have hadd : IntKind.i64.wrap ((j : Int) + (m : Int)) = ((j + m : Nat) : Int) := by rw [IntWalk.i64_in _ (by omega)]; omega
        refine wpAnyS_ran (i := 8) (d := some 46) (v := .int .i64 ((j + m : Nat) : Int)) (w' := W2) (by kernel_rfl) rfl rfl (by rfl) (by go_simp; try rfl) (fun _ => trivial) ?_
        try simp only [Act.put, List.setIfInBounds_toArray, List.set_cons_zero, List.set_cons_succ]
        refine wpAnyS_ran (i := 9) (d := some 8) (v := .int .i64 ((j + m : Nat) : Int)) (w' := W2) (by kernel_rfl) rfl rfl (by rfl) (by go_simp; try rfl) (fun _ => trivial) ?_
        try simp only [Act.put, List.setIfInBounds_toArray, List.set_cons_zero, List.set_cons_succ]
        refine wpAnyS_done (by kernel_rfl) ?_ _
        clear hS0 hcp hr1 HR1
        go_wp2_with fail
        go_roundg (k - (j + m))
        case measure => rw [HGK.out]; omega
        case rel => exact ⟨j + m, rfl, rfl, by omega, by omega, HR2⟩
      · obtain rfl : j = k := by omega
        have hl1 : ¬ (j : Int) < (j : Int) := by omega
        have HO : Hid (Own intc 1 3 g wr (.slice (some ⟨g, 0, none⟩) j j) (List.replicate j x)) := Lib.hid (own_rep (u := (Value.int .i64 x)) (z := (Value.int .i64 0)) (fun x => ⟨_, rfl⟩) rfl HR.out.1 hk)
        clear hlt hk
        go_wp2_with fail
        go_ret
        try rw [hg]
        exact ⟨_, rfl, HO.out, HR.out.2⟩
set_option maxRecDepth 20000 in
set_option maxHeartbeats 1000000 in
theorem repbt_any (x : Bool) (b c k : Nat) (w : World) (hb : w.cell? ⟨b, 0, none⟩ = some (.bool x)) (hk : k ≤ 65536) (hc : 1 ≤ c) : Calls Tryz.prog 182 #[.slice (some ⟨b, 0, none⟩) 1 c, .int .i64 k] w fun e w' => ∃ v, e = .returned v ∧ Own btc 1 4 w.heap.size w' v (List.replicate k x) ∧ Below w.heap.size w w' := by
  have hmul := Any.bits_Mul Tryz.mulF 1 k (by omega) (by omega) w
  have hmul2 : Calls Tryz.prog 204 #[.int .u64 1, .int .u64 k] w fun e w' => e = .returned (.tuple #[.int .u64 0, .int .u64 k]) ∧ w' = w := by
    have e1 : 1 * k / 18446744073709551616 = 0 := by omega
    have e2 : 1 * k % 18446744073709551616 = k := by omega
    rw [e1, e2] at hmul
    exact hmul
  have HM := Lib.hid hmul2
  clear hmul hmul2
  obtain ⟨i0, hi, hy0, hy1, hy2⟩ := info_parts info_bt
  have hmk := run_makeSlice (P := Tryz.prog) w 75 4 i0 (Value.bool false) Tryz.underlying75 hi hy0 .i64 .i64 (k : Int) (k : Int) (by omega) (by omega) (by rw [hy1]; omega) (by rw [hy2]; omega) (by omega)
  rw [hy1, Int.toNat_natCast, made_rep (Value.bool false) rfl] at hmk
  obtain ⟨g, hg⟩ : ∃ g, w.heap.size = g := ⟨_, rfl⟩
  rw [hg] at hmk
  obtain ⟨Z, hZ⟩ : ∃ Z : World, w.alloc (.cells (repC (Value.bool false) (Value.bool false) k 0).toArray 4) = Z := ⟨_, rfl⟩
  have hz : Z.heap[g]? = some (.cells (repC (Value.bool x) (Value.bool false) k 0).toArray 4 (0, 0)) := by rw [← hZ, ← hg]; exact heap_new8 w _
  have HB0 : Hid (Below g w Z) := Lib.hid (by rw [← hZ, ← hg]; exact (Below.refl _ _).alloc (Nat.le_refl _) _)
  rw [hZ] at hmk
  have hbZ : Z.cell? ⟨b, 0, none⟩ = some (Value.bool x) := keepB (by rw [hg]; exact HB0.out) hb
  have hsz : (Tryz.prog.info? 4).map (·.size) = some 1 := by rw [hi]; simp [hy1]
  have h64 : IntKind.u64.wrap (k : Int) = (k : Int) := by rw [u64_wrap]; omega
  go_enter Tryz.func182, Tryz.ntmps182
  go_wp2_with fail
  refine HM.out.mono ?_
  rintro e w5 ⟨rfl, e5⟩
  rw [e5]
  clear e5 w5
  by_cases hk0 : k = 0
  · have hcp := run_copy_none (P := Tryz.prog) Z 75 75 3 4 (some ⟨g, 0, none⟩) (some ⟨b, 0, none⟩) k k 1 c Tryz.underlying75 hsz (by rw [hk0]; rfl)
    have HK0 := Lib.hid hk0
    clear hk0
    go_wp2_with fail
    go_loopg [8] 0 (fun gk nv wr => gk = 0 ∧ nv = .int .i64 0 ∧ wr = Z)
    case atStart => exact ⟨rfl, rfl, rfl⟩
    case round =>
      obtain ⟨rfl, rfl, rfl⟩ := hrel
      have hk1 : ¬ (0 : Int) < (k : Int) := by have := HK0.out; omega
      have HO : Hid (Own btc 1 4 g wr (.slice (some ⟨g, 0, none⟩) k k) (List.replicate k x)) := Lib.hid (own_rep (u := (Value.bool x)) (z := (Value.bool false)) (fun x => ⟨_, rfl⟩) rfl (by rw [HK0.out] at hz ⊢; exact hz) hk)
      clear hz hcp hmk hbZ hk
      go_wp2_with fail
      go_ret
      try rw [hg]
      exact ⟨_, rfl, HO.out, HB0.out⟩
  · have hcp := run_copy_row (P := Tryz.prog) Z 75 75 3 4 g 0 k k ⟨b, 0, none⟩ 1 c (repC (Value.bool x) (Value.bool false) k 0).toArray 4 [(Value.bool x)] Tryz.underlying75 hsz hz (by simp [Nat.min_def]; omega) (fun j v hj => by cases j with | zero => cases hj; exact hbZ | succ j => simp at hj) (by simp [repC]; omega) (fun v hv => by rw [List.mem_singleton.1 hv]; rfl)
    have hr1 : (repC (Value.bool x) (Value.bool false) k 0).toArray.toList.take 0 ++ [(Value.bool x)] ++ (repC (Value.bool x) (Value.bool false) k 0).toArray.toList.drop (0 + [(Value.bool x)].length) = repC (Value.bool x) (Value.bool false) k 1 := repC_step (m := 1) (by omega)
    rw [hr1] at hcp
    obtain ⟨Z1, hZ1⟩ : ∃ Z1, Z.setRow g (repC (Value.bool x) (Value.bool false) k 1).toArray = Z1 := ⟨_, rfl⟩
    rw [hZ1] at hcp
    have HZ1 : Hid (Z1.heap[g]? = some (.cells (repC (Value.bool x) (Value.bool false) k 1).toArray 4 (0, 0)) ∧ Below g w Z1) := Lib.hid ⟨by rw [← hZ1]; exact setRow_heap Z g _ _ _ _ hz, by rw [← hZ1]; exact below_setRow HB0.out (Nat.le_refl _) _⟩
    clear hr1 hZ1 hz hbZ hZ
    go_wp2_with fail
    clear hcp hmk
    go_loopg [8] (k - 1) (fun gk nv wr => ∃ j : Nat, gk = k - j ∧ nv = .int .i64 j ∧ 1 ≤ j ∧ j ≤ k ∧ Hid (wr.heap[g]? = some (.cells (repC (Value.bool x) (Value.bool false) k j).toArray 4 (0, 0)) ∧ Below g w wr))
    case atStart => exact ⟨1, rfl, rfl, Nat.le_refl _, by omega, HZ1⟩
    case round =>
      clear HZ1
      obtain ⟨j, hgk, rfl, hj1, hjk, HR⟩ := hrel
      have HGK := Lib.hid hgk
      clear hgk
      by_cases hlt : j < k
      · have hl1 : (j : Int) < (k : Int) := by omega
        go_upto_region 9 with fail
        have HR1 : Hid (wr.drew.heap[g]? = some (.cells (repC (Value.bool x) (Value.bool false) k j).toArray 4 (0, 0)) ∧ Below g w wr.drew) := Lib.hid ⟨HR.out.1, HR.out.2.drew⟩
        clear HR
        have hS0 : (fun _ : World => True) wr.drew := trivial
        refine wp_region_s (fun _ => True) (fun _ => false) (by kernel_rfl) ?_
        generalize wr.drew = W1 at HR1 ⊢
        have hn1 : ((k : Int) - (j : Int)).toNat = k - j := by omega
        have hn2 : ¬ (k : Int) < (j : Int) := by omega
        have hn3 : (j : Int) ≤ (k : Int) := by omega
        have hne : ¬ k = j := by omega
        refine wpAnyS_take (i := 0) (d := some 38) rfl rfl rfl (by kernel_rfl) (by kernel_rfl) (by kernel_rfl) (by kernel_rfl) (fun _ _ _ h => h) (.inl ⟨by rfl, fun W hW => by go_simp; try rfl⟩) hS0 ?_
        try simp only [Act.put, List.setIfInBounds_toArray, List.set_cons_zero, List.set_cons_succ]
        refine wpAnyS_take (i := 1) (d := some 39) rfl rfl rfl (by kernel_rfl) (by kernel_rfl) (by kernel_rfl) (by kernel_rfl) (fun _ _ _ h => h) (.inl ⟨by rfl, fun W hW => by go_simp; try rfl⟩) hS0 ?_
        try simp only [Act.put, List.setIfInBounds_toArray, List.set_cons_zero, List.set_cons_succ]
        refine wpAnyS_take (i := 2) (d := some 40) rfl rfl rfl (by kernel_rfl) (by kernel_rfl) (by kernel_rfl) (by kernel_rfl) (fun _ _ _ h => h) (.inl ⟨by rfl, fun W hW => by go_simp; try rfl⟩) hS0 ?_
        try simp only [Act.put, List.setIfInBounds_toArray, List.set_cons_zero, List.set_cons_succ]
        refine wpAnyS_take (i := 3) (d := some 41) (v := .slice (some ⟨g, j, none⟩) (k - j) (k - j)) rfl rfl rfl (by kernel_rfl) (by kernel_rfl) (by kernel_rfl) (by kernel_rfl) (fun _ _ _ h => h) (.inl ⟨by rfl, fun W hW => by go_simp; try rfl⟩) hS0 ?_
        try simp only [Act.put, List.setIfInBounds_toArray, List.set_cons_zero, List.set_cons_succ]
        refine wpAnyS_take (i := 4) (d := some 42) rfl rfl rfl (by kernel_rfl) (by kernel_rfl) (by kernel_rfl) (by kernel_rfl) (fun _ _ _ h => h) (.inl ⟨by rfl, fun W hW => by go_simp; try rfl⟩) hS0 ?_
        try simp only [Act.put, List.setIfInBounds_toArray, List.set_cons_zero, List.set_cons_succ]
        refine wpAnyS_take (i := 5) (d := some 43) rfl rfl rfl (by kernel_rfl) (by kernel_rfl) (by kernel_rfl) (by kernel_rfl) (fun _ _ _ h => h) (.inl ⟨by rfl, fun W hW => by go_simp; try rfl⟩) hS0 ?_
        try simp only [Act.put, List.setIfInBounds_toArray, List.set_cons_zero, List.set_cons_succ]
        refine wpAnyS_take (i := 6) (d := some 44) (v := .slice (some ⟨g, 0, none⟩) j k) rfl rfl rfl (by kernel_rfl) (by kernel_rfl) (by kernel_rfl) (by kernel_rfl) (fun _ _ _ h => h) (.inl ⟨by rfl, fun W hW => by go_simp; try rfl⟩) hS0 ?_
        try simp only [Act.put, List.setIfInBounds_toArray, List.set_cons_zero, List.set_cons_succ]
        obtain ⟨m, hm, hmj, hmle⟩ : ∃ m, m = Nat.min j (k - j) ∧ m ≤ j ∧ (j + m ≤ k ∧ 1 ≤ m) := ⟨_, rfl, Nat.min_le_left _ _, by simp only [Nat.min_def]; split <;> omega⟩
        have hcp := run_copy_row (P := Tryz.prog) W1 75 75 3 4 g j (k - j) (k - j) ⟨g, 0, none⟩ j k (repC (Value.bool x) (Value.bool false) k j).toArray 4 (List.replicate m (Value.bool x)) Tryz.underlying75 hsz HR1.out.1 (by rw [List.length_replicate]; exact hm) (fun i v hi => by
          have hi2 := (List.getElem?_eq_some_iff.1 hi).1
          rw [List.length_replicate] at hi2
          rw [List.getElem?_replicate, if_pos hi2] at hi
          cases hi
          have hij : i < j := by omega
          have h := repC_cell HR1.out.1 hij
          rw [show (Addr.add ⟨g, 0, none⟩ i) = ⟨g, i, none⟩ from by unfold Addr.add; split <;> simp_all]
          exact h) (by rw [List.length_replicate]; have := repC_len (u := (Value.bool x)) (z := (Value.bool false)) hjk; simp only [List.size_toArray]; omega) (fun v hv => by rw [(List.mem_replicate.1 hv).2]; rfl)
        have hr1 : (repC (Value.bool x) (Value.bool false) k j).toArray.toList.take j ++ List.replicate m (Value.bool x) ++ (repC (Value.bool x) (Value.bool false) k j).toArray.toList.drop (j + (List.replicate m (Value.bool x)).length) = repC (Value.bool x) (Value.bool false) k (j + m) := by rw [List.length_replicate]; exact repC_step hmle.1
        rw [hr1, List.length_replicate] at hcp
        clear hm
        have HR2 : Hid ((W1.setRow g (repC (Value.bool x) (Value.bool false) k (j + m)).toArray).heap[g]? = some (.cells (repC (Value.bool x) (Value.bool false) k (j + m)).toArray 4 (0, 0)) ∧ Below g w (W1.setRow g (repC (Value.bool x) (Value.bool false) k (j + m)).toArray)) := Lib.hid ⟨setRow_heap W1 g _ _ _ _ HR1.out.1, below_setRow HR1.out.2 (Nat.le_refl _) _⟩
        generalize W1.setRow g (repC (Value.bool x) (Value.bool false) k (j + m)).toArray = W2 at hcp HR2
        refine wpAnyS_ran (i := 7) (d := some 45) (v := .int .i64 m) (w' := W2) (by kernel_rfl) rfl rfl (by rfl) (exec_copy rfl rfl rfl hcp) (fun _ => trivial) ?_
        try simp only [Act.put, List.setIfInBounds_toArray, List.set_cons_zero, List.set_cons_succ]
        have hadd : IntKind.i64.wrap ((j : Int) + (m : Int)) = ((j + m : Nat) : Int) := by rw [IntWalk.i64_in _ (by omega)]; omega
        refine wpAnyS_ran (i := 8) (d := some 46) (v := .int .i64 ((j + m : Nat) : Int)) (w' := W2) (by kernel_rfl) rfl rfl (by rfl) (by go_simp; try rfl) (fun _ => trivial) ?_
        try simp only [Act.put, List.setIfInBounds_toArray, List.set_cons_zero, List.set_cons_succ]
        refine wpAnyS_ran (i := 9) (d := some 8) (v := .int .i64 ((j + m : Nat) : Int)) (w' := W2) (by kernel_rfl) rfl rfl (by rfl) (by go_simp; try rfl) (fun _ => trivial) ?_
        try simp only [Act.put, List.setIfInBounds_toArray, List.set_cons_zero, List.set_cons_succ]
        refine wpAnyS_done (by kernel_rfl) ?_ _
        clear hS0 hcp hr1 HR1
        go_wp2_with fail
        go_roundg (k - (j + m))
        case measure => rw [HGK.out]; omega
        case rel => exact ⟨j + m, rfl, rfl, by omega, by omega, HR2⟩
      · obtain rfl : j = k := by omega
        have hl1 : ¬ (j : Int) < (j : Int) := by omega
        have HO : Hid (Own btc 1 4 g wr (.slice (some ⟨g, 0, none⟩) j j) (List.replicate j x)) := Lib.hid (own_rep (u := (Value.bool x)) (z := (Value.bool false)) (fun x => ⟨_, rfl⟩) rfl HR.out.1 hk)
        clear hlt hk
        go_wp2_with fail
        go_ret
        try rw [hg]
        exact ⟨_, rfl, HO.out, HR.out.2⟩

end Go.Proofs.YtgmdimbiipemhaaGreatDoor
