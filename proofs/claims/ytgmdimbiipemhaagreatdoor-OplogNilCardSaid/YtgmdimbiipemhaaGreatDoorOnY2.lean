/- OplogNil, part 2 of what the proof leans on (made short by a program). -/
import Derived.Test.YtgmdimbiipemhaaGreatDoorOnY1
import Derived.Laws.CopyOwn
import Derived.Laws.OwnMore
import Derived.Deep.LoopGhost
import Derived.IntWalk
import Derived.Deep.QuietTactic
import Derived.Deep.CutBlock
import Derived.Deep.DeepCutAuto
import Derived.Lib.AppendZeros
import Derived.Lib.SmallJoins
set_option linter.unusedSimpArgs false
set_option linter.unusedVariables false
set_option linter.unusedSectionVars false
namespace Go.Proofs.YtgmdimbiipemhaaGreatDoor
open Go.RowKit Go.Deep Go.Shelf
theorem heap_new8 (w : World) (o : Obj) : (w.alloc o).heap[w.heap.size]? = some o := by
  show (w.heap.push o)[w.heap.size]? = _
  simp
theorem exec_copy {P : Program} {o : Oper} {a : Act} {w w' : World} {s x : Operand} {t tn : TypeId} {v vx v' : Value} (hop : o.op = .call { callee := .builtin .copy, args := #[s, x], argTypes := #[t, tn] }) (hs : a.eval s = v) (hx : a.eval x = vx)
    (hr : (Builtin.copy_ #[t, tn] o.type #[v, vx]).run P w = .ok v' w') : (execOp a.eval o).run P w = .ok (.value v') w' := by
  unfold execOp
  simp only [hop, resolve, invoke, builtin, Sem.run_bind, Sem.run_pure, Result.andThen_ok, List.map_toArray, List.map_cons, List.map_nil, hs, hx, hr]
def repC (u z : Value) (k j : Nat) : List Value := List.replicate j u ++ List.replicate (k - j) z
theorem repC_len {u z : Value} {k j : Nat} (h : j ≤ k) : (repC u z k j).length = k := by simp [repC]; omega
theorem repC_step {u z : Value} {k j m : Nat} (hj : j + m ≤ k) : (repC u z k j).take j ++ List.replicate m u ++ (repC u z k j).drop (j + m) = repC u z k (j + m) := by
  unfold repC
  rw [List.take_left' (by simp), List.drop_append, List.drop_eq_nil_of_le (by simp), List.nil_append, List.length_replicate, List.drop_replicate, show k - j - (j + m - j) = k - (j + m) by omega, List.replicate_append_replicate]
theorem repC_all {u z : Value} {k : Nat} : repC u z k k = List.replicate k u := by simp [repC]
theorem repC_cell {u z : Value} {k j i : Nat} {W : World} {g : Nat} {E : TypeId} (hg : W.heap[g]? = some (.cells (repC u z k j).toArray E (0, 0))) (hi : i < j) : W.cell? ⟨g, i, none⟩ = some u := by
  unfold World.cell?
  rw [hg]
  simp [repC, List.getElem?_append_left (show i < (List.replicate j u).length by simpa using hi), hi]
theorem made_rep (z : Value) (h : z.cells = #[z]) (k : Nat) : madeCells z.cells (k * 1) = (repC z z k 0).toArray := by
  unfold repC
  rw [h]
  apply Array.ext_getElem?
  intro i
  simp [madeCells]
  try grind
theorem Own.of_row {α : Type} {ea : α → List Value} {e : TypeId} {base g : Nat} {w : World} {l : List α} {cs : List Value} (h1 : ∀ x, ∃ u, ea x = [u]) (hg : w.heap[g]? = some (.cells cs.toArray e (0, 0))) (hb : base ≤ g) (hcs : cs = l.flatMap ea) (hl : l.length ≤ maxLen) :
    Own ea 1 e base w (.slice (some ⟨g, 0, none⟩) l.length l.length) l := by
  have hlen : ∀ l : List α, (l.flatMap ea).length = l.length := by
    intro l
    induction l with
    | nil => rfl
    | cons x l ih => obtain ⟨u, hu⟩ := h1 x; rw [List.flatMap_cons, List.length_append, ih, hu]; simp; omega
  subst hcs
  refine ⟨by rw [hlen, Nat.mul_one], .inr ⟨g, l.length, _, rfl, hb, hg, Nat.le_refl _, hl, by simp [hlen], ?_⟩⟩
  rw [List.take_of_length_le (by simp [hlen])]
theorem own_rep {α : Type} {ea : α → List Value} {e : TypeId} {g k : Nat} {w : World} {x : α} {u z : Value} (h1 : ∀ x, ∃ u, ea x = [u]) (hx : ea x = [u]) (hg : w.heap[g]? = some (.cells (repC u z k k).toArray e (0, 0))) (hk : k ≤ 65536) :
    Own ea 1 e g w (.slice (some ⟨g, 0, none⟩) k k) (List.replicate k x) := by
  have h := Own.of_row (ea := ea) (l := List.replicate k x) (cs := repC u z k k) (base := g) h1 hg (Nat.le_refl _) (by
    rw [repC_all]
    clear hg hk
    induction k with
    | zero => rfl
    | succ k ih => rw [List.replicate_succ, List.replicate_succ, List.flatMap_cons, hx, ← ih]; rfl) (by rw [List.length_replicate]; unfold maxLen; omega)
  rw [List.length_replicate] at h
  exact h
set_option maxRecDepth 20000 in
set_option maxHeartbeats 1000000 in
theorem repint_any (x : Int) (b c k : Nat) (w : World) (hb : w.cell? ⟨b, 0, none⟩ = some (.int .i64 x)) (hk : k ≤ 65536) (hc : 1 ≤ c) : Calls Tryz.prog 181 #[.slice (some ⟨b, 0, none⟩) 1 c, .int .i64 k] w fun e w' => ∃ v, e = .returned v ∧ Own intc 1 3 w.heap.size w' v (List.replicate k x) ∧ Below w.heap.size w w' := by
  have hmul := Any.bits_Mul Tryz.mulF 1 k (by omega) (by omega) w
  have hmul2 : Calls Tryz.prog 204 #[.int .u64 1, .int .u64 k] w fun e w' => e = .returned (.tuple #[.int .u64 0, .int .u64 k]) ∧ w' = w := by
    have e1 : 1 * k / 18446744073709551616 = 0 := by omega
    have e2 : 1 * k % 18446744073709551616 = k := by omega
    rw [e1, e2] at hmul
    exact hmul
  have HM := Lib.hid hmul2
  clear hmul hmul2
  obtain ⟨i0, hi, hy0, hy1, hy2⟩ := info_parts info_int
  have hmk := run_makeSlice (P := Tryz.prog) w 100 3 i0 (Value.int .i64 0) Tryz.underlying100 hi hy0 .i64 .i64 (k : Int) (k : Int) (by omega) (by omega) (by rw [hy1]; omega) (by rw [hy2]; omega) (by omega)
  rw [hy1, Int.toNat_natCast, made_rep (Value.int .i64 0) rfl] at hmk
  obtain ⟨g, hg⟩ : ∃ g, w.heap.size = g := ⟨_, rfl⟩
  rw [hg] at hmk
  obtain ⟨Z, hZ⟩ : ∃ Z : World, w.alloc (.cells (repC (Value.int .i64 0) (Value.int .i64 0) k 0).toArray 3) = Z := ⟨_, rfl⟩
  have hz : Z.heap[g]? = some (.cells (repC (Value.int .i64 x) (Value.int .i64 0) k 0).toArray 3 (0, 0)) := by rw [← hZ, ← hg]; exact heap_new8 w _
  have HB0 : Hid (Below g w Z) := Lib.hid (by rw [← hZ, ← hg]; exact (Below.refl _ _).alloc (Nat.le_refl _) _)
  rw [hZ] at hmk
  have hbZ : Z.cell? ⟨b, 0, none⟩ = some (Value.int .i64 x) := keepB (by rw [hg]; exact HB0.out) hb
  have hsz : (Tryz.prog.info? 3).map (·.size) = some 1 := by rw [hi]; simp [hy1]
  have h64 : IntKind.u64.wrap (k : Int) = (k : Int) := by rw [u64_wrap]; omega
  go_enter Tryz.func181, Tryz.ntmps181
  go_wp2_with fail
  refine HM.out.mono ?_
  rintro e w5 ⟨rfl, e5⟩
  rw [e5]
  clear e5 w5
  by_cases hk0 : k = 0
  · have hcp := run_copy_none (P := Tryz.prog) Z 100 100 3 3 (some ⟨g, 0, none⟩) (some ⟨b, 0, none⟩) k k 1 c Tryz.underlying100 hsz (by rw [hk0]; rfl)
    have HK0 := Lib.hid hk0
    clear hk0
    go_wp2_with fail
    go_loopg [8] 0 (fun gk nv wr => gk = 0 ∧ nv = .int .i64 0 ∧ wr = Z)
    case atStart => exact ⟨rfl, rfl, rfl⟩
    case round =>
      obtain ⟨rfl, rfl, rfl⟩ := hrel
      have hk1 : ¬ (0 : Int) < (k : Int) := by have := HK0.out; omega
      have HO : Hid (Own intc 1 3 g wr (.slice (some ⟨g, 0, none⟩) k k) (List.replicate k x)) := Lib.hid (own_rep (u := (Value.int .i64 x)) (z := (Value.int .i64 0)) (fun x => ⟨_, rfl⟩) rfl (by rw [HK0.out] at hz ⊢; exact hz) hk)
      clear hz hcp hmk hbZ hk
      go_wp2_with fail
      go_ret
      try rw [hg]
      exact ⟨_, rfl, HO.out, HB0.out⟩
  · have hcp := run_copy_row (P := Tryz.prog) Z 100 100 3 3 g 0 k k ⟨b, 0, none⟩ 1 c (repC (Value.int .i64 x) (Value.int .i64 0) k 0).toArray 3 [(Value.int .i64 x)] Tryz.underlying100 hsz hz (by simp [Nat.min_def]; omega) (fun j v hj => by cases j with | zero => cases hj; exact hbZ | succ j => simp at hj) (by simp [repC]; omega) (fun v hv => by rw [List.mem_singleton.1 hv]; rfl)
    have hr1 : (repC (Value.int .i64 x) (Value.int .i64 0) k 0).toArray.toList.take 0 ++ [(Value.int .i64 x)] ++ (repC (Value.int .i64 x) (Value.int .i64 0) k 0).toArray.toList.drop (0 + [(Value.int .i64 x)].length) = repC (Value.int .i64 x) (Value.int .i64 0) k 1 := repC_step (m := 1) (by omega)
    rw [hr1] at hcp
    obtain ⟨Z1, hZ1⟩ : ∃ Z1, Z.setRow g (repC (Value.int .i64 x) (Value.int .i64 0) k 1).toArray = Z1 := ⟨_, rfl⟩
    rw [hZ1] at hcp
    have HZ1 : Hid (Z1.heap[g]? = some (.cells (repC (Value.int .i64 x) (Value.int .i64 0) k 1).toArray 3 (0, 0)) ∧ Below g w Z1) := Lib.hid ⟨by rw [← hZ1]; exact setRow_heap Z g _ _ _ _ hz, by rw [← hZ1]; exact below_setRow HB0.out (Nat.le_refl _) _⟩
    clear hr1 hZ1 hz hbZ hZ
    go_wp2_with fail
    clear hcp hmk
    go_loopg [8] (k - 1) (fun gk nv wr => ∃ j : Nat, gk = k - j ∧ nv = .int .i64 j ∧ 1 ≤ j ∧ j ≤ k ∧ Hid (wr.heap[g]? = some (.cells (repC (Value.int .i64 x) (Value.int .i64 0) k j).toArray 3 (0, 0)) ∧ Below g w wr))
    case atStart => exact ⟨1, rfl, rfl, Nat.le_refl _, by omega, HZ1⟩
    case round =>
      clear HZ1
      obtain ⟨j, hgk, rfl, hj1, hjk, HR⟩ := hrel
      have HGK := Lib.hid hgk
      clear hgk
      by_cases hlt : j < k
      · have hl1 : (j : Int) < (k : Int) := by omega
        go_upto_region 9 with fail
        have HR1 : Hid (wr.drew.heap[g]? = some (.cells (repC (Value.int .i64 x) (Value.int .i64 0) k j).toArray 3 (0, 0)) ∧ Below g w wr.drew) := Lib.hid ⟨HR.out.1, HR.out.2.drew⟩
        clear HR
        have hS0 : (fun _ : World => True) wr.drew := trivial
        refine wp_region_s (fun _ => True) (fun _ => false) (by kernel_rfl) ?_
        generalize wr.drew = W1 at HR1 ⊢
        have hn1 : ((k : Int) - (j : Int)).toNat = k - j := by omega
        have hn2 : ¬ (k : Int) < (j : Int) := by omega
        have hn3 : (j : Int) ≤ (k : Int) := by omega
        have hne : ¬ k = j := by omega
        refine wpAnyS_take (i := 0) (d := some 38) rfl rfl rfl (by kernel_rfl) (by kernel_rfl) (by kernel_rfl) (by kernel_rfl) (fun _ _ _ h => h) (.inl ⟨by rfl, fun W hW => by go_simp; try rfl⟩) hS0 ?_
        try simp only [Act.put, List.setIfInBounds_toArray, List.set_cons_zero, List.set_cons_succ]
        refine wpAnyS_take (i := 1) (d := some 39) rfl rfl rfl (by kernel_rfl) (by kernel_rfl) (by kernel_rfl) (by kernel_rfl) (fun _ _ _ h => h) (.inl ⟨by rfl, fun W hW => by go_simp; try rfl⟩) hS0 ?_
        try simp only [Act.put, List.setIfInBounds_toArray, List.set_cons_zero, List.set_cons_succ]
        refine wpAnyS_take (i := 2) (d := some 40) rfl rfl rfl (by kernel_rfl) (by kernel_rfl) (by kernel_rfl) (by kernel_rfl) (fun _ _ _ h => h) (.inl ⟨by rfl, fun W hW => by go_simp; try rfl⟩) hS0 ?_
        try simp only [Act.put, List.setIfInBounds_toArray, List.set_cons_zero, List.set_cons_succ]
        refine wpAnyS_take (i := 3) (d := some 41) (v := .slice (some ⟨g, j, none⟩) (k - j) (k - j)) rfl rfl rfl (by kernel_rfl) (by kernel_rfl) (by kernel_rfl) (by kernel_rfl) (fun _ _ _ h => h) (.inl ⟨by rfl, fun W hW => by go_simp; try rfl⟩) hS0 ?_
        try simp only [Act.put, List.setIfInBounds_toArray, List.set_cons_zero, List.set_cons_succ]
        refine wpAnyS_take (i := 4) (d := some 42) rfl rfl rfl (by kernel_rfl) (by kernel_rfl) (by kernel_rfl) (by kernel_rfl) (fun _ _ _ h => h) (.inl ⟨by rfl, fun W hW => by go_simp; try rfl⟩) hS0 ?_
        try simp only [Act.put, List.setIfInBounds_toArray, List.set_cons_zero, List.set_cons_succ]
        refine wpAnyS_take (i := 5) (d := some 43) rfl rfl rfl (by kernel_rfl) (by kernel_rfl) (by kernel_rfl) (by kernel_rfl) (fun _ _ _ h => h) (.inl ⟨by rfl, fun W hW => by go_simp; try rfl⟩) hS0 ?_
        try simp only [Act.put, List.setIfInBounds_toArray, List.set_cons_zero, List.set_cons_succ]
        refine wpAnyS_take (i := 6) (d := some 44) (v := .slice (some ⟨g, 0, none⟩) j k) rfl rfl rfl (by kernel_rfl) (by kernel_rfl) (by kernel_rfl) (by kernel_rfl) (fun _ _ _ h => h) (.inl ⟨by rfl, fun W hW => by go_simp; try rfl⟩) hS0 ?_
        try simp only [Act.put, List.setIfInBounds_toArray, List.set_cons_zero, List.set_cons_succ]
        obtain ⟨m, hm, hmj, hmle⟩ : ∃ m, m = Nat.min j (k - j) ∧ m ≤ j ∧ (j + m ≤ k ∧ 1 ≤ m) := ⟨_, rfl, Nat.min_le_left _ _, by simp only [Nat.min_def]; split <;> omega⟩
        have hcp := run_copy_row (P := Tryz.prog) W1 100 100 3 3 g j (k - j) (k - j) ⟨g, 0, none⟩ j k (repC (Value.int .i64 x) (Value.int .i64 0) k j).toArray 3 (List.replicate m (Value.int .i64 x)) Tryz.underlying100 hsz HR1.out.1 (by rw [List.length_replicate]; exact hm) (fun i v hi => by
          have hi2 := (List.getElem?_eq_some_iff.1 hi).1
          rw [List.length_replicate] at hi2
          rw [List.getElem?_replicate, if_pos hi2] at hi
          cases hi
          have hij : i < j := by omega
          have h := repC_cell HR1.out.1 hij
          rw [show (Addr.add ⟨g, 0, none⟩ i) = ⟨g, i, none⟩ from by unfold Addr.add; split <;> simp_all]
          exact h) (by rw [List.length_replicate]; have := repC_len (u := (Value.int .i64 x)) (z := (Value.int .i64 0)) hjk; simp only [List.size_toArray]; omega) (fun v hv => by rw [(List.mem_replicate.1 hv).2]; rfl)
        have hr1 : (repC (Value.int .i64 x) (Value.int .i64 0) k j).toArray.toList.take j ++ List.replicate m (Value.int .i64 x) ++ (repC (Value.int .i64 x) (Value.int .i64 0) k j).toArray.toList.drop (j + (List.replicate m (Value.int .i64 x)).length) = repC (Value.int .i64 x) (Value.int .i64 0) k (j + m) := by rw [List.length_replicate]; exact repC_step hmle.1
        rw [hr1, List.length_replicate] at hcp
        clear hm
        have HR2 : Hid ((W1.setRow g (repC (Value.int .i64 x) (Value.int .i64 0) k (j + m)).toArray).heap[g]? = some (.cells (repC (Value.int .i64 x) (Value.int .i64 0) k (j + m)).toArray 3 (0, 0)) ∧ Below g w (W1.setRow g (repC (Value.int .i64 x) (Value.int .i64 0) k (j + m)).toArray)) := Lib.hid ⟨setRow_heap W1 g _ _ _ _ HR1.out.1, below_setRow HR1.out.2 (Nat.le_refl _) _⟩
        generalize W1.setRow g (repC (Value.int .i64 x) (Value.int .i64 0) k (j + m)).toArray = W2 at hcp HR2
        refine wpAnyS_ran (i := 7) (d := some 45) (v := .int .i64 m) (w' := W2) (by kernel_rfl) rfl rfl (by rfl) (exec_copy rfl rfl rfl hcp) (fun _ => trivial) ?_
        try simp only [Act.put, List.setIfInBounds_toArray, List.set_cons_zero, List.set_cons_succ]
        have hadd : IntKind.i64.wrap ((j : Int) + (m : Int)) = ((j + m : Nat) : Int) := by rw [IntWalk.i64_in _ (by omega)]; omega
        refine wpAnyS_ran (i := 8) (d := some 46) (v := .int .i64 ((j + m : Nat) : Int)) (w' := W2) (by kernel_rfl) rfl rfl (by rfl) (by go_simp; try rfl) (fun _ => trivial) ?_
        try simp only [Act.put, List.setIfInBounds_toArray, List.set_cons_zero, List.set_cons_succ]
        refine wpAnyS_ran (i := 9) (d := some 8) (v := .int .i64 ((j + m : Nat) : Int)) (w' := W2) (by kernel_rfl) rfl rfl (by rfl) (by go_simp; try rfl) (fun _ => trivial) ?_
        try simp only [Act.put, List.setIfInBounds_toArray, List.set_cons_zero, List.set_cons_succ]
        refine wpAnyS_done (by kernel_rfl) ?_ _
        clear hS0 hcp hr1 HR1
        go_wp2_with fail
        go_roundg (k - (j + m))
        case measure => rw [HGK.out]; omega
        case rel => exact ⟨j + m, rfl, rfl, by omega, by omega, HR2⟩
      · obtain rfl : j = k := by omega
        have hl1 : ¬ (j : Int) < (j : Int) := by omega
        have HO : Hid (Own intc 1 3 g wr (.slice (some ⟨g, 0, none⟩) j j) (List.replicate j x)) := Lib.hid (own_rep (u := (Value.int .i64 x)) (z := (Value.int .i64 0)) (fun x => ⟨_, rfl⟩) rfl HR.out.1 hk)
        clear hlt hk
        go_wp2_with fail
        go_ret
        try rw [hg]
        exact ⟨_, rfl, HO.out, HR.out.2⟩
set_option maxRecDepth 20000 in
set_option maxHeartbeats 1000000 in
theorem repbt_any (x : Bool) (b c k : Nat) (w : World) (hb : w.cell? ⟨b, 0, none⟩ = some (.bool x)) (hk : k ≤ 65536) (hc : 1 ≤ c) : Calls Tryz.prog 182 #[.slice (some ⟨b, 0, none⟩) 1 c, .int .i64 k] w fun e w' => ∃ v, e = .returned v ∧ Own btc 1 4 w.heap.size w' v (List.replicate k x) ∧ Below w.heap.size w w' := by
  have hmul := Any.bits_Mul Tryz.mulF 1 k (by omega) (by omega) w
  have hmul2 : Calls Tryz.prog 204 #[.int .u64 1, .int .u64 k] w fun e w' => e = .returned (.tuple #[.int .u64 0, .int .u64 k]) ∧ w' = w := by
    have e1 : 1 * k / 18446744073709551616 = 0 := by omega
    have e2 : 1 * k % 18446744073709551616 = k := by omega
    rw [e1, e2] at hmul
    exact hmul
  have HM := Lib.hid hmul2
  clear hmul hmul2
  obtain ⟨i0, hi, hy0, hy1, hy2⟩ := info_parts info_bt
  have hmk := run_makeSlice (P := Tryz.prog) w 75 4 i0 (Value.bool false) Tryz.underlying75 hi hy0 .i64 .i64 (k : Int) (k : Int) (by omega) (by omega) (by rw [hy1]; omega) (by rw [hy2]; omega) (by omega)
  rw [hy1, Int.toNat_natCast, made_rep (Value.bool false) rfl] at hmk
  obtain ⟨g, hg⟩ : ∃ g, w.heap.size = g := ⟨_, rfl⟩
  rw [hg] at hmk
  obtain ⟨Z, hZ⟩ : ∃ Z : World, w.alloc (.cells (repC (Value.bool false) (Value.bool false) k 0).toArray 4) = Z := ⟨_, rfl⟩
  have hz : Z.heap[g]? = some (.cells (repC (Value.bool x) (Value.bool false) k 0).toArray 4 (0, 0)) := by rw [← hZ, ← hg]; exact heap_new8 w _
  have HB0 : Hid (Below g w Z) := Lib.hid (by rw [← hZ, ← hg]; exact (Below.refl _ _).alloc (Nat.le_refl _) _)
  rw [hZ] at hmk
  have hbZ : Z.cell? ⟨b, 0, none⟩ = some (Value.bool x) := keepB (by rw [hg]; exact HB0.out) hb
  have hsz : (Tryz.prog.info? 4).map (·.size) = some 1 := by rw [hi]; simp [hy1]
  have h64 : IntKind.u64.wrap (k : Int) = (k : Int) := by rw [u64_wrap]; omega
  go_enter Tryz.func182, Tryz.ntmps182
  go_wp2_with fail
  refine HM.out.mono ?_
  rintro e w5 ⟨rfl, e5⟩
  rw [e5]
  clear e5 w5
  by_cases hk0 : k = 0
  · have hcp := run_copy_none (P := Tryz.prog) Z 75 75 3 4 (some ⟨g, 0, none⟩) (some ⟨b, 0, none⟩) k k 1 c Tryz.underlying75 hsz (by rw [hk0]; rfl)
    have HK0 := Lib.hid hk0
    clear hk0
    go_wp2_with fail
    go_loopg [8] 0 (fun gk nv wr => gk = 0 ∧ nv = .int .i64 0 ∧ wr = Z)
    case atStart => exact ⟨rfl, rfl, rfl⟩
    case round =>
      obtain ⟨rfl, rfl, rfl⟩ := hrel
      have hk1 : ¬ (0 : Int) < (k : Int) := by have := HK0.out; omega
      have HO : Hid (Own btc 1 4 g wr (.slice (some ⟨g, 0, none⟩) k k) (List.replicate k x)) := Lib.hid (own_rep (u := (Value.bool x)) (z := (Value.bool false)) (fun x => ⟨_, rfl⟩) rfl (by rw [HK0.out] at hz ⊢; exact hz) hk)
      clear hz hcp hmk hbZ hk
      go_wp2_with fail
      go_ret
      try rw [hg]
      exact ⟨_, rfl, HO.out, HB0.out⟩
  · have hcp := run_copy_row (P := Tryz.prog) Z 75 75 3 4 g 0 k k ⟨b, 0, none⟩ 1 c (repC (Value.bool x) (Value.bool false) k 0).toArray 4 [(Value.bool x)] Tryz.underlying75 hsz hz (by simp [Nat.min_def]; omega) (fun j v hj => by cases j with | zero => cases hj; exact hbZ | succ j => simp at hj) (by simp [repC]; omega) (fun v hv => by rw [List.mem_singleton.1 hv]; rfl)
    have hr1 : (repC (Value.bool x) (Value.bool false) k 0).toArray.toList.take 0 ++ [(Value.bool x)] ++ (repC (Value.bool x) (Value.bool false) k 0).toArray.toList.drop (0 + [(Value.bool x)].length) = repC (Value.bool x) (Value.bool false) k 1 := repC_step (m := 1) (by omega)
    rw [hr1] at hcp
    obtain ⟨Z1, hZ1⟩ : ∃ Z1, Z.setRow g (repC (Value.bool x) (Value.bool false) k 1).toArray = Z1 := ⟨_, rfl⟩
    rw [hZ1] at hcp
    have HZ1 : Hid (Z1.heap[g]? = some (.cells (repC (Value.bool x) (Value.bool false) k 1).toArray 4 (0, 0)) ∧ Below g w Z1) := Lib.hid ⟨by rw [← hZ1]; exact setRow_heap Z g _ _ _ _ hz, by rw [← hZ1]; exact below_setRow HB0.out (Nat.le_refl _) _⟩
    clear hr1 hZ1 hz hbZ hZ
    go_wp2_with fail
    clear hcp hmk
    go_loopg [8] (k - 1) (fun gk nv wr => ∃ j : Nat, gk = k - j ∧ nv = .int .i64 j ∧ 1 ≤ j ∧ j ≤ k ∧ Hid (wr.heap[g]? = some (.cells (repC (Value.bool x) (Value.bool false) k j).toArray 4 (0, 0)) ∧ Below g w wr))
    case atStart => exact ⟨1, rfl, rfl, Nat.le_refl _, by omega, HZ1⟩
    case round =>
      clear HZ1
      obtain ⟨j, hgk, rfl, hj1, hjk, HR⟩ := hrel
      have HGK := Lib.hid hgk
      clear hgk
      by_cases hlt : j < k
      · have hl1 : (j : Int) < (k : Int) := by omega
        go_upto_region 9 with fail
        have HR1 : Hid (wr.drew.heap[g]? = some (.cells (repC (Value.bool x) (Value.bool false) k j).toArray 4 (0, 0)) ∧ Below g w wr.drew) := Lib.hid ⟨HR.out.1, HR.out.2.drew⟩
        clear HR
        have hS0 : (fun _ : World => True) wr.drew := trivial
        refine wp_region_s (fun _ => True) (fun _ => false) (by kernel_rfl) ?_
        generalize wr.drew = W1 at HR1 ⊢
        have hn1 : ((k : Int) - (j : Int)).toNat = k - j := by omega
        have hn2 : ¬ (k : Int) < (j : Int) := by omega
        have hn3 : (j : Int) ≤ (k : Int) := by omega
        have hne : ¬ k = j := by omega
        refine wpAnyS_take (i := 0) (d := some 38) rfl rfl rfl (by kernel_rfl) (by kernel_rfl) (by kernel_rfl) (by kernel_rfl) (fun _ _ _ h => h) (.inl ⟨by rfl, fun W hW => by go_simp; try rfl⟩) hS0 ?_
        try simp only [Act.put, List.setIfInBounds_toArray, List.set_cons_zero, List.set_cons_succ]
        refine wpAnyS_take (i := 1) (d := some 39) rfl rfl rfl (by kernel_rfl) (by kernel_rfl) (by kernel_rfl) (by kernel_rfl) (fun _ _ _ h => h) (.inl ⟨by rfl, fun W hW => by go_simp; try rfl⟩) hS0 ?_
        try simp only [Act.put, List.setIfInBounds_toArray, List.set_cons_zero, List.set_cons_succ]
        refine wpAnyS_take (i := 2) (d := some 40) rfl rfl rfl (by kernel_rfl) (by kernel_rfl) (by kernel_rfl) (by kernel_rfl) (fun _ _ _ h => h) (.inl ⟨by rfl, fun W hW => by go_simp; try rfl⟩) hS0 ?_
        try simp only [Act.put, List.setIfInBounds_toArray, List.set_cons_zero, List.set_cons_succ]
        refine wpAnyS_take (i := 3) (d := some 41) (v := .slice (some ⟨g, j, none⟩) (k - j) (k - j)) rfl rfl rfl (by kernel_rfl) (by kernel_rfl) (by kernel_rfl) (by kernel_rfl) (fun _ _ _ h => h) (.inl ⟨by rfl, fun W hW => by go_simp; try rfl⟩) hS0 ?_
        try simp only [Act.put, List.setIfInBounds_toArray, List.set_cons_zero, List.set_cons_succ]
        refine wpAnyS_take (i := 4) (d := some 42) rfl rfl rfl (by kernel_rfl) (by kernel_rfl) (by kernel_rfl) (by kernel_rfl) (fun _ _ _ h => h) (.inl ⟨by rfl, fun W hW => by go_simp; try rfl⟩) hS0 ?_
        try simp only [Act.put, List.setIfInBounds_toArray, List.set_cons_zero, List.set_cons_succ]
        refine wpAnyS_take (i := 5) (d := some 43) rfl rfl rfl (by kernel_rfl) (by kernel_rfl) (by kernel_rfl) (by kernel_rfl) (fun _ _ _ h => h) (.inl ⟨by rfl, fun W hW => by go_simp; try rfl⟩) hS0 ?_
        try simp only [Act.put, List.setIfInBounds_toArray, List.set_cons_zero, List.set_cons_succ]
        refine wpAnyS_take (i := 6) (d := some 44) (v := .slice (some ⟨g, 0, none⟩) j k) rfl rfl rfl (by kernel_rfl) (by kernel_rfl) (by kernel_rfl) (by kernel_rfl) (fun _ _ _ h => h) (.inl ⟨by rfl, fun W hW => by go_simp; try rfl⟩) hS0 ?_
        try simp only [Act.put, List.setIfInBounds_toArray, List.set_cons_zero, List.set_cons_succ]
        obtain ⟨m, hm, hmj, hmle⟩ : ∃ m, m = Nat.min j (k - j) ∧ m ≤ j ∧ (j + m ≤ k ∧ 1 ≤ m) := ⟨_, rfl, Nat.min_le_left _ _, by simp only [Nat.min_def]; split <;> omega⟩
        have hcp := run_copy_row (P := Tryz.prog) W1 75 75 3 4 g j (k - j) (k - j) ⟨g, 0, none⟩ j k (repC (Value.bool x) (Value.bool false) k j).toArray 4 (List.replicate m (Value.bool x)) Tryz.underlying75 hsz HR1.out.1 (by rw [List.length_replicate]; exact hm) (fun i v hi => by
          have hi2 := (List.getElem?_eq_some_iff.1 hi).1
          rw [List.length_replicate] at hi2
          rw [List.getElem?_replicate, if_pos hi2] at hi
          cases hi
          have hij : i < j := by omega
          have h := repC_cell HR1.out.1 hij
          rw [show (Addr.add ⟨g, 0, none⟩ i) = ⟨g, i, none⟩ from by unfold Addr.add; split <;> simp_all]
          exact h) (by rw [List.length_replicate]; have := repC_len (u := (Value.bool x)) (z := (Value.bool false)) hjk; simp only [List.size_toArray]; omega) (fun v hv => by rw [(List.mem_replicate.1 hv).2]; rfl)
        have hr1 : (repC (Value.bool x) (Value.bool false) k j).toArray.toList.take j ++ List.replicate m (Value.bool x) ++ (repC (Value.bool x) (Value.bool false) k j).toArray.toList.drop (j + (List.replicate m (Value.bool x)).length) = repC (Value.bool x) (Value.bool false) k (j + m) := by rw [List.length_replicate]; exact repC_step hmle.1
        rw [hr1, List.length_replicate] at hcp
        clear hm
        have HR2 : Hid ((W1.setRow g (repC (Value.bool x) (Value.bool false) k (j + m)).toArray).heap[g]? = some (.cells (repC (Value.bool x) (Value.bool false) k (j + m)).toArray 4 (0, 0)) ∧ Below g w (W1.setRow g (repC (Value.bool x) (Value.bool false) k (j + m)).toArray)) := Lib.hid ⟨setRow_heap W1 g _ _ _ _ HR1.out.1, below_setRow HR1.out.2 (Nat.le_refl _) _⟩
        generalize W1.setRow g (repC (Value.bool x) (Value.bool false) k (j + m)).toArray = W2 at hcp HR2
        refine wpAnyS_ran (i := 7) (d := some 45) (v := .int .i64 m) (w' := W2) (by kernel_rfl) rfl rfl (by rfl) (exec_copy rfl rfl rfl hcp) (fun _ => trivial) ?_
        try simp only [Act.put, List.setIfInBounds_toArray, List.set_cons_zero, List.set_cons_succ]
        have hadd : IntKind.i64.wrap ((j : Int) + (m : Int)) = ((j + m : Nat) : Int) := by rw [IntWalk.i64_in _ (by omega)]; omega
        refine wpAnyS_ran (i := 8) (d := some 46) (v := .int .i64 ((j + m : Nat) : Int)) (w' := W2) (by kernel_rfl) rfl rfl (by rfl) (by go_simp; try rfl) (fun _ => trivial) ?_
        try simp only [Act.put, List.setIfInBounds_toArray, List.set_cons_zero, List.set_cons_succ]
        refine wpAnyS_ran (i := 9) (d := some 8) (v := .int .i64 ((j + m : Nat) : Int)) (w' := W2) (by kernel_rfl) rfl rfl (by rfl) (by go_simp; try rfl) (fun _ => trivial) ?_
        try simp only [Act.put, List.setIfInBounds_toArray, List.set_cons_zero, List.set_cons_succ]
        refine wpAnyS_done (by kernel_rfl) ?_ _
        clear hS0 hcp hr1 HR1
        go_wp2_with fail
        go_roundg (k - (j + m))
        case measure => rw [HGK.out]; omega
        case rel => exact ⟨j + m, rfl, rfl, by omega, by omega, HR2⟩
      · obtain rfl : j = k := by omega
        have hl1 : ¬ (j : Int) < (j : Int) := by omega
        have HO : Hid (Own btc 1 4 g wr (.slice (some ⟨g, 0, none⟩) j j) (List.replicate j x)) := Lib.hid (own_rep (u := (Value.bool x)) (z := (Value.bool false)) (fun x => ⟨_, rfl⟩) rfl HR.out.1 hk)
        clear hlt hk
        go_wp2_with fail
        go_ret
        try rw [hg]
        exact ⟨_, rfl, HO.out, HR.out.2⟩
end Go.Proofs.YtgmdimbiipemhaaGreatDoor
namespace Go.Proofs.YtgmdimbiipemhaaGreatDoor
open Go.RowKit
def BytesPost (w : World) (l : List UInt8) (e : Ending) (w' : World) : Prop := ∃ v, e = .returned v ∧ Own u8c 1 5 w.heap.size w' v l ∧ Below w.heap.size w w'
theorem putB_le10 {n : Nat} (h : n < 18446744073709551616) : (putB n).length ≤ 10 := (putB_len n 10 (by omega)).2 (by omega)
set_option maxRecDepth 20000 in
set_option maxHeartbeats 2000000 in
theorem put_any (n : Nat) (w : World) (h : n < 18446744073709551616) : Calls Tryz.prog 64 #[.int .u64 n] w fun e w' => BytesPost w (putB n) e w' := by
  obtain ⟨i0, hi, hz0, hz1, hz2⟩ := info_parts info_u8
  have HL := Lib.hid (putB_le10 h)
  go_enter Tryz.func64, Tryz.ntmps64
  go_wp2_with fail
  go_loopg [0, 3] n (fun g nv ov wr => ∃ (m : Nat) (s : Sl) (l : List UInt8), g = m ∧ nv = .int .u64 m ∧ ov = .slice s.a s.n s.cap ∧ m < 18446744073709551616 ∧ Hid (putB n = l ++ putB m) ∧ Hid (Own u8c 1 5 w.heap.size wr (.slice s.a s.n s.cap) l ∧ Below w.heap.size w wr))
  case atStart => exact ⟨n, ⟨none, 0, 0⟩, [], rfl, rfl, rfl, h, Lib.hid rfl, Lib.hid ⟨Own.nil, Below.refl _ _⟩⟩
  case round =>
    obtain ⟨m, ⟨sa, sn, sc⟩, l, hg, rfl, rfl, hm, HE, HU⟩ := hrel
    dsimp only at HU ⊢
    have HG := Lib.hid hg
    clear hg
    have hll : l.length ≤ 9 := by
      have h1 := HL.out
      have h2 := List.length_pos_iff.2 (putB_ne m)
      rw [HE.out, List.length_append] at h1
      omega
    have hws := HU.out.2.size
    by_cases h128 : m < 128
    · obtain ⟨y, rfl⟩ : ∃ y : UInt8, m = y.toNat := ⟨UInt8.ofNat m, (u8_nat (by omega)).symm⟩
      have hy := y.toNat_lt
      have hle : ¬ (128 : Int) ≤ (y.toNat : Int) := by omega
      have HEE : Hid (l ++ [y] = putB n) := Lib.hid (by rw [HE.out, putB_lt h128]; simp)
      clear h128
      go_wp2_with (at_builtin; refine wpList_append_struct rfl _ _ _ rfl i0 _ 1 Tryz.underlying22 hi hz0 hz1 hz2 rfl (by omega) u8c_len u8c_one rfl (HU.out.1.alloc _) y wr.heap.size 1 rfl (u8_new _ y) (by unfold maxLen; omega) (by omega) (by simp; omega) ?_)
      intro v' w3 hown3 hx3
      have hB3 := Ext.new (HU.out.2.alloc HU.out.2.size (.cells #[.int .u8 y.toNat] 5)) hx3 (fun i hi _ e => by have := (HU.out.1.blk i e).1; omega) (by simp; omega)
      rw [HEE.out] at hown3
      have HN := Lib.hid (And.intro hown3 hB3)
      clear hown3 hx3 hB3
      go_wp2_with fail
      go_ret
      exact ⟨_, rfl, HN.out.1, HN.out.2⟩
    · have hle : (128 : Int) ≤ (m : Int) := by omega
      obtain ⟨y, hy⟩ : ∃ y : UInt8, y = UInt8.ofNat (m % 128 + 128) := ⟨_, rfl⟩
      have hy2 : y.toNat = m % 128 + 128 := by rw [hy]; exact u8_nat (by omega)
      have HEE : Hid (putB n = (l ++ [y]) ++ putB (m / 128)) := Lib.hid (by rw [HE.out, putB_ge h128, ← hy]; simp)
      have hq : bits .or .u8 ((m : Int) % 256) 128 = (y.toNat : Int) := by
        rw [show (m : Int) % 256 = ((m % 256 : Nat) : Int) by omega, bits_or_u8 _ (by omega), hy2]
        omega
      have hmd : ((m / 128 : Nat) : Int) = (m : Int) / 128 := by omega
      have HMD := Lib.hid hmd
      have hlt : m / 128 < m := by omega
      have HLT := Lib.hid hlt
      clear hy hy2 h128 hmd hlt
      go_wp2_with (at_builtin; refine wpList_append_struct rfl _ _ _ rfl i0 _ 1 Tryz.underlying22 hi hz0 hz1 hz2 rfl (by omega) u8c_len u8c_one rfl (HU.out.1.alloc _) y wr.heap.size 1 rfl (u8_new _ y) (by unfold maxLen; omega) (by omega) (by simp; omega) ?_)
      intro v' w3 hown3 hx3
      have hB3 := Ext.new (HU.out.2.alloc HU.out.2.size (.cells #[.int .u8 y.toNat] 5)) hx3 (fun i hi _ e => by have := (HU.out.1.blk i e).1; omega) (by simp; omega)
      obtain ⟨⟨ua, un, uc⟩, e3⟩ := hown3.sl
      dsimp only at e3
      subst e3
      have HN := Lib.hid (And.intro hown3 hB3)
      clear hown3 hx3 hB3 hq
      go_wp2_with fail
      go_roundg (m / 128)
      case measure => rw [HG.out]; exact HLT.out
      case rel => exact ⟨m / 128, ⟨ua, un, uc⟩, _, rfl, by first | rfl | simp, rfl, by omega, HEE, HN⟩
noncomputable def takeR (b : List UInt8) : Value := match takeV b with
  | some n => .tuple #[.int .u64 n, .int .i64 (putB n).length, .int .i64 0]
  | none => .tuple #[.int .u64 0, .int .i64 0, .int .i64 31]
theorem takeR_some {b : List UInt8} {n : Nat} (h : TakeIs b n) : takeR b = .tuple #[.int .u64 n, .int .i64 (putB n).length, .int .i64 0] := by unfold takeR; rw [takeV_some.2 h]
theorem takeR_none {b : List UInt8} (h : ∀ n, ¬ TakeIs b n) : takeR b = .tuple #[.int .u64 0, .int .i64 0, .int .i64 31] := by unfold takeR; rw [takeV_none.2 h]
theorem valB_take {b : List UInt8} {i : Nat} {x : UInt8} (hx : b[i]? = some x) : valB (b.take (i + 1)) = valB (b.take i) + x.toNat % 128 * 128 ^ i := by
  rw [take_snocU hx, valB_snoc, List.length_take, Nat.min_eq_left (by have := (List.getElem?_eq_some_iff.1 hx).1; omega)]
theorem or_step {vk xl k : Nat} (hv : vk < 128 ^ k) (h : (xl < 128 ∧ k ≤ 8) ∨ (xl ≤ 1 ∧ k = 9)) : bits .or .u64 (vk : Int) (IntKind.u64.wrap ((xl : Int) * 2 ^ (7 * k))) = ((vk + xl * 128 ^ k : Nat) : Int) ∧ vk + xl * 128 ^ k < 18446744073709551616 := by
  have e : 128 ^ k = 2 ^ (7 * k) := by rw [Nat.pow_mul]
  have hs : vk + xl * 128 ^ k < 18446744073709551616 := by
    rcases h with ⟨h1, h2⟩ | ⟨h1, rfl⟩
    · have h3 : 128 ^ k ≤ 128 ^ 8 := Nat.pow_le_pow_right (by omega) h2
      have h4 : xl * 128 ^ k ≤ 127 * 128 ^ k := Nat.mul_le_mul_right _ (by omega)
      omega
    · have h4 : xl * 128 ^ 9 ≤ 1 * 128 ^ 9 := Nat.mul_le_mul_right _ h1
      omega
  refine ⟨?_, hs⟩
  rw [e] at hs hv ⊢
  have e2 : ((xl : Int) * 2 ^ (7 * k)) = ((xl * 2 ^ (7 * k) : Nat) : Int) := by push_cast; rfl
  rw [e2, u64_wrap, show ((xl * 2 ^ (7 * k) : Nat) : Int) % 18446744073709551616 = ((xl * 2 ^ (7 * k) : Nat) : Int) by omega]
  exact bits_or_shift vk xl (7 * k) hv hs
set_option maxRecDepth 20000 in
set_option maxHeartbeats 2000000 in
theorem take_any (v : Value) (b : List UInt8) (w : World) (h : SliceIs u8c 1 w v b) : Calls Tryz.prog 103 #[v] w fun e w' => e = .returned (takeR b) ∧ w = w' := by
  obtain ⟨a, cap, rfl, hcap, hmax, -⟩ := id h
  unfold maxLen at hmax
  have HH := Lib.hid h
  obtain ⟨mn, hmn⟩ : ∃ mn : Nat, mn = min b.length 10 := ⟨_, rfl⟩
  have hmn1 : mn ≤ b.length := by omega
  have hmn2 : mn ≤ 10 := by omega
  have HMN := Lib.hid (show mn = b.length ∨ mn = 10 by omega)
  clear h hmn
  have h3 : b.length < 10 ∨ b.length = 10 ∨ 10 < b.length := by omega
  go_enter Tryz.func103, Tryz.ntmps103
  rcases h3 with h3 | h3 | h3
  · have hi1 : (b.length : Int) < 10 := by omega
    have hi2 : (b.length : Int) ≤ 10 := by omega
    obtain rfl : mn = b.length := by rcases HMN.out with e | e <;> omega
    go_wp2_with fail
    go_loopg [5, 11] (b.length) (fun g nv iv wr => ∃ k : Nat, g = (b.length) - k ∧ k ≤ (b.length) ∧ nv = .int .u64 (valB (b.take k)) ∧ iv = .int .i64 k ∧ Hid (Goes b k) ∧ w = wr)
    case atStart => exact ⟨0, rfl, Nat.zero_le _, by simp [valB], rfl, Lib.hid (goes_zero b), rfl⟩
    case round =>
      obtain ⟨k, hg, hk, rfl, rfl, HGO, rfl⟩ := hrel
      have HG := Lib.hid hg
      clear hg
      by_cases hlt : k < (b.length)
      · obtain ⟨c, hc⟩ : ∃ c, b[k]? = some c := ⟨_, List.getElem?_eq_getElem (by omega)⟩
        obtain ⟨bb, o, rfl, c0⟩ := HH.out.at1 hc rfl
        have hcl := c.toNat_lt
        have hk1 : (k : Int) < (b.length : Int) := by omega
        have hk2 : (k : Int) < 10 := by omega
        have hk3 : (k : Int) ≤ 9 := by omega
        have HC := Lib.hid hc
        obtain ⟨xl, hxl⟩ : ∃ xl, c.toNat % 128 = xl := ⟨_, rfl⟩
        have hand : bits .and .u8 (c.toNat : Int) 127 = (xl : Int) := by rw [bits_and_u8 _ (by omega), hxl]
        have hx128 : xl < 128 := by omega
        have HXL := Lib.hid hxl
        have HV := Lib.hid (valB_take hc)
        have HVL := Lib.hid (valB_lt (b.take k))
        obtain ⟨vk, hvk⟩ : ∃ vk, valB (b.take k) = vk := ⟨_, rfl⟩
        rw [hvk]
        have HVK := Lib.hid hvk
        clear hc hxl hvk
        have hvk2 : vk < 128 ^ k := by rw [← HVK.out]; have := valB_lt (b.take k); rwa [List.length_take, Nat.min_eq_left (by omega)] at this
        have HVK2 := Lib.hid hvk2
        clear hvk2
        by_cases h9 : k = 9
        · exfalso; omega
        · have hk9 : (k : Int) < 9 := by omega
          have hk91 : ¬ (k : Int) = 9 := by omega
          have hk92 : ((k : Int) == 9) = false := by simpa using hk91
          obtain ⟨hor, hnb⟩ := or_step (xl := xl) HVK2.out (.inl ⟨hx128, by omega⟩)
          obtain ⟨nn, hnn⟩ : ∃ nn, valB (b.take (k + 1)) = nn := ⟨_, rfl⟩
          have hnv : vk + xl * 128 ^ k = nn := by rw [← hnn, HV.out, HVK.out, HXL.out]
          rw [hnv] at hor hnb
          have HNN := Lib.hid hnn
          have HOR := Lib.hid hor
          have hor1 := HOR.out
          clear hor hnv hnn
          by_cases hc128 : c.toNat < 128
          · have hcl1 : (c.toNat : Int) < 128 := by omega
            have hxc : xl = c.toNat := by rw [← HXL.out]; exact Nat.mod_eq_of_lt hc128
            by_cases h0 : 0 < k ∧ xl = 0
            · obtain ⟨h01, rfl⟩ := h0
              have hk0 : (0 : Int) < (k : Int) := by omega
              have HR := Lib.hid (takeR_none (fun n => HGO.out.bad HC.out (.inl ⟨h01, hxc.symm⟩)))
              clear h01 hxc hc128
              go_wp2_with fail
              go_ret3
              exact ⟨by rw [HR.out]; rfl, rfl⟩
            · have hst := HGO.out.stop HC.out hc128 (fun h1 h2 => h0 ⟨h1, hxc.trans h2⟩) (by rw [HNN.out]; exact hnb)
              rw [HNN.out] at hst
              have HR := Lib.hid (takeR_some hst.1)
              have HL := Lib.hid hst.2
              have h0k : ¬ 0 < k ∨ (0 < k ∧ ¬ xl = 0) := by
                by_cases h01 : 0 < k
                · exact .inr ⟨h01, fun e => h0 ⟨h01, e⟩⟩
                · exact .inl h01
              clear hxc hc128 h0 hst
              rcases h0k with h0k | ⟨h0k, h0x⟩
              · have hk0 : ¬ (0 : Int) < (k : Int) := by omega
                go_wp2_with fail
                go_ret3
                exact ⟨by rw [HR.out, HL.out]; simp, rfl⟩
              · have hk0 : (0 : Int) < (k : Int) := by omega
                have hx0 : ¬ (xl : Int) = 0 := by omega
                have hx02 : ((xl : Int) == 0) = false := by simpa using hx0
                clear h0x
                go_wp2_with fail
                go_ret3
                exact ⟨by rw [HR.out, HL.out]; simp, rfl⟩
          · have hcl1 : ¬ (c.toNat : Int) < 128 := by omega
            have HGO2 := Lib.hid (HGO.out.succ HC.out (by omega))
            clear hc128
            go_wp2_with fail
            go_roundg ((b.length) - (k + 1))
            case measure => rw [HG.out]; omega
            case rel => exact ⟨k + 1, rfl, by omega, by first | rw [HNN.out] | (simp; exact HNN.out.symm), by simp, HGO2, rfl⟩
      · obtain rfl : k = (b.length) := by omega
        have hkk : ¬ (b.length : Int) < (b.length : Int) := by omega
        have HR := Lib.hid (takeR_none (fun n => HGO.out.over (.inl rfl)))
        clear hlt hk
        go_wp2_with fail
        go_ret3
        exact ⟨by rw [HR.out]; rfl, rfl⟩
  · have hi1 : ¬ (b.length : Int) < 10 := by omega
    have hi2 : (b.length : Int) ≤ 10 := by omega
    have hi3 : ¬ (10 : Int) < (b.length : Int) := by omega
    obtain rfl : mn = 10 := by rcases HMN.out with e | e <;> omega
    go_wp2_with fail
    go_loopg [5, 11] (10) (fun g nv iv wr => ∃ k : Nat, g = (10) - k ∧ k ≤ (10) ∧ nv = .int .u64 (valB (b.take k)) ∧ iv = .int .i64 k ∧ Hid (Goes b k) ∧ w = wr)
    case atStart => exact ⟨0, rfl, Nat.zero_le _, by simp [valB], rfl, Lib.hid (goes_zero b), rfl⟩
    case round =>
      obtain ⟨k, hg, hk, rfl, rfl, HGO, rfl⟩ := hrel
      have HG := Lib.hid hg
      clear hg
      by_cases hlt : k < (10)
      · obtain ⟨c, hc⟩ : ∃ c, b[k]? = some c := ⟨_, List.getElem?_eq_getElem (by omega)⟩
        obtain ⟨bb, o, rfl, c0⟩ := HH.out.at1 hc rfl
        have hcl := c.toNat_lt
        have hk1 : (k : Int) < (b.length : Int) := by omega
        have hk2 : (k : Int) < 10 := by omega
        have hk3 : (k : Int) ≤ 9 := by omega
        have HC := Lib.hid hc
        obtain ⟨xl, hxl⟩ : ∃ xl, c.toNat % 128 = xl := ⟨_, rfl⟩
        have hand : bits .and .u8 (c.toNat : Int) 127 = (xl : Int) := by rw [bits_and_u8 _ (by omega), hxl]
        have hx128 : xl < 128 := by omega
        have HXL := Lib.hid hxl
        have HV := Lib.hid (valB_take hc)
        have HVL := Lib.hid (valB_lt (b.take k))
        obtain ⟨vk, hvk⟩ : ∃ vk, valB (b.take k) = vk := ⟨_, rfl⟩
        rw [hvk]
        have HVK := Lib.hid hvk
        clear hc hxl hvk
        have hvk2 : vk < 128 ^ k := by rw [← HVK.out]; have := valB_lt (b.take k); rwa [List.length_take, Nat.min_eq_left (by omega)] at this
        have HVK2 := Lib.hid hvk2
        clear hvk2
        by_cases h9 : k = 9
        · subst h9
          by_cases hx : 1 < xl
          · have hx1 : (1 : Int) < (xl : Int) := by omega
            have HR := Lib.hid (takeR_none (fun n => HGO.out.bad HC.out (.inr ⟨rfl, by rw [HXL.out]; exact hx⟩)))
            clear hx
            go_wp2_with fail
            go_ret3
            exact ⟨by rw [HR.out]; rfl, rfl⟩
          · have hx1 : ¬ (1 : Int) < (xl : Int) := by omega
            obtain ⟨hor, hnb⟩ := or_step (xl := xl) HVK2.out (.inr ⟨by omega, rfl⟩)
            obtain ⟨nn, hnn⟩ : ∃ nn, valB (b.take (9 + 1)) = nn := ⟨_, rfl⟩
            have hnv : vk + xl * 128 ^ 9 = nn := by rw [← hnn, HV.out, HVK.out, HXL.out]
            rw [hnv] at hor hnb
            have HNN := Lib.hid hnn
            have HOR := Lib.hid hor
            have hor1 := HOR.out
            clear hor hnv hnn
            have hor2 : bits .or .u64 (vk : Int) (IntKind.u64.wrap ((xl : Int) * 9223372036854775808)) = (nn : Int) := HOR.out
            have hor3 : bits .or .u64 (vk : Int) ((xl : Int) * 9223372036854775808) = (nn : Int) := by rw [← hor2, u64_wrap, show (xl : Int) * 9223372036854775808 % 18446744073709551616 = (xl : Int) * 9223372036854775808 by omega]
            by_cases hc128 : c.toNat < 128
            · have hcl1 : (c.toNat : Int) < 128 := by omega
              have hxc : xl = c.toNat := by rw [← HXL.out]; exact Nat.mod_eq_of_lt hc128
              by_cases h0 : 0 < 9 ∧ xl = 0
              · obtain ⟨h01, rfl⟩ := h0
                have hk0 : (0 : Int) < (9 : Int) := by omega
                have HR := Lib.hid (takeR_none (fun n => HGO.out.bad HC.out (.inl ⟨h01, hxc.symm⟩)))
                clear h01 hxc hc128
                go_wp2_with fail
                go_ret3
                exact ⟨by rw [HR.out]; rfl, rfl⟩
              · have hst := HGO.out.stop HC.out hc128 (fun h1 h2 => h0 ⟨h1, hxc.trans h2⟩) (by rw [HNN.out]; exact hnb)
                rw [HNN.out] at hst
                have HR := Lib.hid (takeR_some hst.1)
                have HL := Lib.hid hst.2
                have h0k : ¬ 0 < 9 ∨ (0 < 9 ∧ ¬ xl = 0) := by
                  by_cases h01 : 0 < 9
                  · exact .inr ⟨h01, fun e => h0 ⟨h01, e⟩⟩
                  · exact .inl h01
                clear hxc hc128 h0 hst
                rcases h0k with h0k | ⟨h0k, h0x⟩
                · exact absurd (show 0 < 9 by decide) h0k
                · have hk0 : (0 : Int) < (9 : Int) := by omega
                  have hx0 : ¬ (xl : Int) = 0 := by omega
                  have hx02 : ((xl : Int) == 0) = false := by simpa using hx0
                  clear h0x
                  go_wp2_with fail
                  go_ret3
                  exact ⟨by rw [HR.out, HL.out]; simp, rfl⟩
            · have hcl1 : ¬ (c.toNat : Int) < 128 := by omega
              have HGO2 := Lib.hid (HGO.out.succ HC.out (by omega))
              clear hc128
              go_wp2_with fail
              go_roundg ((10) - (9 + 1))
              case measure => rw [HG.out]; omega
              case rel => exact ⟨9 + 1, rfl, by omega, by first | rw [HNN.out] | (simp; exact HNN.out.symm), by simp, HGO2, rfl⟩
        · have hk9 : (k : Int) < 9 := by omega
          have hk91 : ¬ (k : Int) = 9 := by omega
          have hk92 : ((k : Int) == 9) = false := by simpa using hk91
          obtain ⟨hor, hnb⟩ := or_step (xl := xl) HVK2.out (.inl ⟨hx128, by omega⟩)
          obtain ⟨nn, hnn⟩ : ∃ nn, valB (b.take (k + 1)) = nn := ⟨_, rfl⟩
          have hnv : vk + xl * 128 ^ k = nn := by rw [← hnn, HV.out, HVK.out, HXL.out]
          rw [hnv] at hor hnb
          have HNN := Lib.hid hnn
          have HOR := Lib.hid hor
          have hor1 := HOR.out
          clear hor hnv hnn
          by_cases hc128 : c.toNat < 128
          · have hcl1 : (c.toNat : Int) < 128 := by omega
            have hxc : xl = c.toNat := by rw [← HXL.out]; exact Nat.mod_eq_of_lt hc128
            by_cases h0 : 0 < k ∧ xl = 0
            · obtain ⟨h01, rfl⟩ := h0
              have hk0 : (0 : Int) < (k : Int) := by omega
              have HR := Lib.hid (takeR_none (fun n => HGO.out.bad HC.out (.inl ⟨h01, hxc.symm⟩)))
              clear h01 hxc hc128
              go_wp2_with fail
              go_ret3
              exact ⟨by rw [HR.out]; rfl, rfl⟩
            · have hst := HGO.out.stop HC.out hc128 (fun h1 h2 => h0 ⟨h1, hxc.trans h2⟩) (by rw [HNN.out]; exact hnb)
              rw [HNN.out] at hst
              have HR := Lib.hid (takeR_some hst.1)
              have HL := Lib.hid hst.2
              have h0k : ¬ 0 < k ∨ (0 < k ∧ ¬ xl = 0) := by
                by_cases h01 : 0 < k
                · exact .inr ⟨h01, fun e => h0 ⟨h01, e⟩⟩
                · exact .inl h01
              clear hxc hc128 h0 hst
              rcases h0k with h0k | ⟨h0k, h0x⟩
              · have hk0 : ¬ (0 : Int) < (k : Int) := by omega
                go_wp2_with fail
                go_ret3
                exact ⟨by rw [HR.out, HL.out]; simp, rfl⟩
              · have hk0 : (0 : Int) < (k : Int) := by omega
                have hx0 : ¬ (xl : Int) = 0 := by omega
                have hx02 : ((xl : Int) == 0) = false := by simpa using hx0
                clear h0x
                go_wp2_with fail
                go_ret3
                exact ⟨by rw [HR.out, HL.out]; simp, rfl⟩
          · have hcl1 : ¬ (c.toNat : Int) < 128 := by omega
            have HGO2 := Lib.hid (HGO.out.succ HC.out (by omega))
            clear hc128
            go_wp2_with fail
            go_roundg ((10) - (k + 1))
            case measure => rw [HG.out]; omega
            case rel => exact ⟨k + 1, rfl, by omega, by first | rw [HNN.out] | (simp; exact HNN.out.symm), by simp, HGO2, rfl⟩
      · obtain rfl : k = (10) := by omega
        have hkk : ¬ (10 : Int) < (10 : Int) := by omega
        have HR := Lib.hid (takeR_none (fun n => HGO.out.over (.inr rfl)))
        clear hlt hk
        go_wp2_with fail
        go_ret3
        exact ⟨by rw [HR.out]; rfl, rfl⟩
  · have hi1 : ¬ (b.length : Int) < 10 := by omega
    have hi2 : ¬ (b.length : Int) ≤ 10 := by omega
    have hi3 : (10 : Int) < (b.length : Int) := by omega
    obtain rfl : mn = 10 := by rcases HMN.out with e | e <;> omega
    go_wp2_with fail
    go_loopg [5, 11] (10) (fun g nv iv wr => ∃ k : Nat, g = (10) - k ∧ k ≤ (10) ∧ nv = .int .u64 (valB (b.take k)) ∧ iv = .int .i64 k ∧ Hid (Goes b k) ∧ w = wr)
    case atStart => exact ⟨0, rfl, Nat.zero_le _, by simp [valB], rfl, Lib.hid (goes_zero b), rfl⟩
    case round =>
      obtain ⟨k, hg, hk, rfl, rfl, HGO, rfl⟩ := hrel
      have HG := Lib.hid hg
      clear hg
      by_cases hlt : k < (10)
      · obtain ⟨c, hc⟩ : ∃ c, b[k]? = some c := ⟨_, List.getElem?_eq_getElem (by omega)⟩
        obtain ⟨bb, o, rfl, c0⟩ := HH.out.at1 hc rfl
        have hcl := c.toNat_lt
        have hk1 : (k : Int) < (b.length : Int) := by omega
        have hk2 : (k : Int) < 10 := by omega
        have hk3 : (k : Int) ≤ 9 := by omega
        have HC := Lib.hid hc
        obtain ⟨xl, hxl⟩ : ∃ xl, c.toNat % 128 = xl := ⟨_, rfl⟩
        have hand : bits .and .u8 (c.toNat : Int) 127 = (xl : Int) := by rw [bits_and_u8 _ (by omega), hxl]
        have hx128 : xl < 128 := by omega
        have HXL := Lib.hid hxl
        have HV := Lib.hid (valB_take hc)
        have HVL := Lib.hid (valB_lt (b.take k))
        obtain ⟨vk, hvk⟩ : ∃ vk, valB (b.take k) = vk := ⟨_, rfl⟩
        rw [hvk]
        have HVK := Lib.hid hvk
        clear hc hxl hvk
        have hvk2 : vk < 128 ^ k := by rw [← HVK.out]; have := valB_lt (b.take k); rwa [List.length_take, Nat.min_eq_left (by omega)] at this
        have HVK2 := Lib.hid hvk2
        clear hvk2
        by_cases h9 : k = 9
        · subst h9
          by_cases hx : 1 < xl
          · have hx1 : (1 : Int) < (xl : Int) := by omega
            have HR := Lib.hid (takeR_none (fun n => HGO.out.bad HC.out (.inr ⟨rfl, by rw [HXL.out]; exact hx⟩)))
            clear hx
            go_wp2_with fail
            go_ret3
            exact ⟨by rw [HR.out]; rfl, rfl⟩
          · have hx1 : ¬ (1 : Int) < (xl : Int) := by omega
            obtain ⟨hor, hnb⟩ := or_step (xl := xl) HVK2.out (.inr ⟨by omega, rfl⟩)
            obtain ⟨nn, hnn⟩ : ∃ nn, valB (b.take (9 + 1)) = nn := ⟨_, rfl⟩
            have hnv : vk + xl * 128 ^ 9 = nn := by rw [← hnn, HV.out, HVK.out, HXL.out]
            rw [hnv] at hor hnb
            have HNN := Lib.hid hnn
            have HOR := Lib.hid hor
            have hor1 := HOR.out
            clear hor hnv hnn
            have hor2 : bits .or .u64 (vk : Int) (IntKind.u64.wrap ((xl : Int) * 9223372036854775808)) = (nn : Int) := HOR.out
            have hor3 : bits .or .u64 (vk : Int) ((xl : Int) * 9223372036854775808) = (nn : Int) := by rw [← hor2, u64_wrap, show (xl : Int) * 9223372036854775808 % 18446744073709551616 = (xl : Int) * 9223372036854775808 by omega]
            by_cases hc128 : c.toNat < 128
            · have hcl1 : (c.toNat : Int) < 128 := by omega
              have hxc : xl = c.toNat := by rw [← HXL.out]; exact Nat.mod_eq_of_lt hc128
              by_cases h0 : 0 < 9 ∧ xl = 0
              · obtain ⟨h01, rfl⟩ := h0
                have hk0 : (0 : Int) < (9 : Int) := by omega
                have HR := Lib.hid (takeR_none (fun n => HGO.out.bad HC.out (.inl ⟨h01, hxc.symm⟩)))
                clear h01 hxc hc128
                go_wp2_with fail
                go_ret3
                exact ⟨by rw [HR.out]; rfl, rfl⟩
              · have hst := HGO.out.stop HC.out hc128 (fun h1 h2 => h0 ⟨h1, hxc.trans h2⟩) (by rw [HNN.out]; exact hnb)
                rw [HNN.out] at hst
                have HR := Lib.hid (takeR_some hst.1)
                have HL := Lib.hid hst.2
                have h0k : ¬ 0 < 9 ∨ (0 < 9 ∧ ¬ xl = 0) := by
                  by_cases h01 : 0 < 9
                  · exact .inr ⟨h01, fun e => h0 ⟨h01, e⟩⟩
                  · exact .inl h01
                clear hxc hc128 h0 hst
                rcases h0k with h0k | ⟨h0k, h0x⟩
                · exact absurd (show 0 < 9 by decide) h0k
                · have hk0 : (0 : Int) < (9 : Int) := by omega
                  have hx0 : ¬ (xl : Int) = 0 := by omega
                  have hx02 : ((xl : Int) == 0) = false := by simpa using hx0
                  clear h0x
                  go_wp2_with fail
                  go_ret3
                  exact ⟨by rw [HR.out, HL.out]; simp, rfl⟩
            · have hcl1 : ¬ (c.toNat : Int) < 128 := by omega
              have HGO2 := Lib.hid (HGO.out.succ HC.out (by omega))
              clear hc128
              go_wp2_with fail
              go_roundg ((10) - (9 + 1))
              case measure => rw [HG.out]; omega
              case rel => exact ⟨9 + 1, rfl, by omega, by first | rw [HNN.out] | (simp; exact HNN.out.symm), by simp, HGO2, rfl⟩
        · have hk9 : (k : Int) < 9 := by omega
          have hk91 : ¬ (k : Int) = 9 := by omega
          have hk92 : ((k : Int) == 9) = false := by simpa using hk91
          obtain ⟨hor, hnb⟩ := or_step (xl := xl) HVK2.out (.inl ⟨hx128, by omega⟩)
          obtain ⟨nn, hnn⟩ : ∃ nn, valB (b.take (k + 1)) = nn := ⟨_, rfl⟩
          have hnv : vk + xl * 128 ^ k = nn := by rw [← hnn, HV.out, HVK.out, HXL.out]
          rw [hnv] at hor hnb
          have HNN := Lib.hid hnn
          have HOR := Lib.hid hor
          have hor1 := HOR.out
          clear hor hnv hnn
          by_cases hc128 : c.toNat < 128
          · have hcl1 : (c.toNat : Int) < 128 := by omega
            have hxc : xl = c.toNat := by rw [← HXL.out]; exact Nat.mod_eq_of_lt hc128
            by_cases h0 : 0 < k ∧ xl = 0
            · obtain ⟨h01, rfl⟩ := h0
              have hk0 : (0 : Int) < (k : Int) := by omega
              have HR := Lib.hid (takeR_none (fun n => HGO.out.bad HC.out (.inl ⟨h01, hxc.symm⟩)))
              clear h01 hxc hc128
              go_wp2_with fail
              go_ret3
              exact ⟨by rw [HR.out]; rfl, rfl⟩
            · have hst := HGO.out.stop HC.out hc128 (fun h1 h2 => h0 ⟨h1, hxc.trans h2⟩) (by rw [HNN.out]; exact hnb)
              rw [HNN.out] at hst
              have HR := Lib.hid (takeR_some hst.1)
              have HL := Lib.hid hst.2
              have h0k : ¬ 0 < k ∨ (0 < k ∧ ¬ xl = 0) := by
                by_cases h01 : 0 < k
                · exact .inr ⟨h01, fun e => h0 ⟨h01, e⟩⟩
                · exact .inl h01
              clear hxc hc128 h0 hst
              rcases h0k with h0k | ⟨h0k, h0x⟩
              · have hk0 : ¬ (0 : Int) < (k : Int) := by omega
                go_wp2_with fail
                go_ret3
                exact ⟨by rw [HR.out, HL.out]; simp, rfl⟩
              · have hk0 : (0 : Int) < (k : Int) := by omega
                have hx0 : ¬ (xl : Int) = 0 := by omega
                have hx02 : ((xl : Int) == 0) = false := by simpa using hx0
                clear h0x
                go_wp2_with fail
                go_ret3
                exact ⟨by rw [HR.out, HL.out]; simp, rfl⟩
          · have hcl1 : ¬ (c.toNat : Int) < 128 := by omega
            have HGO2 := Lib.hid (HGO.out.succ HC.out (by omega))
            clear hc128
            go_wp2_with fail
            go_roundg ((10) - (k + 1))
            case measure => rw [HG.out]; omega
            case rel => exact ⟨k + 1, rfl, by omega, by first | rw [HNN.out] | (simp; exact HNN.out.symm), by simp, HGO2, rfl⟩
      · obtain rfl : k = (10) := by omega
        have hkk : ¬ (10 : Int) < (10 : Int) := by omega
        have HR := Lib.hid (takeR_none (fun n => HGO.out.over (.inr rfl)))
        clear hlt hk
        go_wp2_with fail
        go_ret3
        exact ⟨by rw [HR.out]; rfl, rfl⟩
end Go.Proofs.YtgmdimbiipemhaaGreatDoor
namespace Go.Proofs.YtgmdimbiipemhaaGreatDoor
def TB (b : List UInt8) (n : Nat) (l : List Bool) (at' : Nat) (v : Bool) : Prop :=
  decT n false true b = (decT (n - l.length) v (decide (at' = 0)) (b.drop at')).map fun p => (l ++ p.1, at' + p.2)
theorem TB.zero (b : List UInt8) (n : Nat) : TB b n [] 0 false := by
  unfold TB
  simp
theorem TB.step {b : List UInt8} {n : Nat} {l : List Bool} {p k : Nat} {v : Bool} (h : TB b n l p v) (hl : l.length < n) (hk : takeV (b.drop p) = some k) (h0 : ¬ (k = 0 ∧ p ≠ 0)) (hkn : k ≤ n - l.length) :
    TB b n (l ++ List.replicate k v) (p + (putB k).length) (!v) := by
  unfold TB at h ⊢
  have hp : 0 < (putB k).length := List.length_pos_iff.2 (putB_ne k)
  have e : decide (p + (putB k).length = 0) = false := decide_eq_false (by omega)
  rw [h, decT_step (by omega) hk (by
    rintro (⟨h1, h2⟩ | h1)
    · exact h0 ⟨h1, of_decide_eq_false h2⟩
    · omega), e, List.length_append, List.length_replicate, List.drop_drop, Option.map_map, Nat.sub_add_eq]
  congr 1
  funext q
  simp [Nat.add_assoc]
theorem TB.bad {b : List UInt8} {n : Nat} {l : List Bool} {p : Nat} {v : Bool} (h : TB b n l p v) (hl : l.length < n) (hb : takeV (b.drop p) = none ∨ ∃ k, takeV (b.drop p) = some k ∧ ((k = 0 ∧ p ≠ 0) ∨ n - l.length < k)) : decT n false true b = none := by
  unfold TB at h
  rw [h]
  rcases hb with hb | ⟨k, hk, hb⟩
  · rw [decT_bad1 (by omega) hb]; rfl
  · rw [decT_bad2 (by omega) hk (by
      rcases hb with ⟨h1, h2⟩ | h1
      · exact .inl ⟨h1, decide_eq_false h2⟩
      · exact .inr h1)]
    rfl
theorem TB.done {b : List UInt8} {n : Nat} {l : List Bool} {p : Nat} {v : Bool} (h : TB b n l p v) (hl : l.length = n) : decT n false true b = some (l, p) := by
  unfold TB at h
  rw [h, hl, Nat.sub_self, decT_zero]
  simp
def TR (b : List UInt8) (n : Nat) (l : List Int) (p : Nat) : Prop :=
  decR n none b = (decR (n - l.length) l.getLast? (b.drop p)).map fun q => (l ++ q.1, p + q.2)
theorem TR.zero (b : List UInt8) (n : Nat) : TR b n [] 0 := by
  unfold TR
  simp
theorem last_repl (l : List Int) (k : Nat) (x : Int) (hk : k ≠ 0) : (l ++ List.replicate k x).getLast? = some x := by
  obtain ⟨j, rfl⟩ : ∃ j, k = j + 1 := ⟨k - 1, by omega⟩
  rw [List.replicate_succ', ← List.append_assoc, List.getLast?_concat]
theorem TR.step {b : List UInt8} {n : Nat} {l : List Int} {p k v : Nat} (h : TR b n l p) (hk : takeV (b.drop p) = some k) (hv : takeV (b.drop (p + (putB k).length)) = some v) (h0 : k ≠ 0) (hkn : k ≤ n - l.length) (hp : l.getLast? ≠ some (zagI v)) :
    TR b n (l ++ List.replicate k (zagI v)) (p + (putB k).length + (putB v).length) := by
  unfold TR at h ⊢
  rw [h, decR_step hk (by rw [List.drop_drop]; exact hv) h0 hkn hp, last_repl _ _ _ h0, List.length_append, List.length_replicate, List.drop_drop, Option.map_map, Nat.sub_add_eq, Nat.add_assoc]
  congr 1
  funext q
  simp [Nat.add_assoc]
theorem TR.bad {b : List UInt8} {n : Nat} {l : List Int} {p : Nat} (h : TR b n l p) (hl : l.length < n) (hb : takeV (b.drop p) = none ∨ ∃ k, takeV (b.drop p) = some k ∧ (takeV (b.drop (p + (putB k).length)) = none ∨ ∃ v, takeV (b.drop (p + (putB k).length)) = some v ∧ (k = 0 ∨ n - l.length < k ∨ l.getLast? = some (zagI v)))) : decR n none b = none := by
  unfold TR at h
  rw [h]
  rcases hb with hb | ⟨k, hk, hb | ⟨v, hv, hb⟩⟩
  · rw [decR_bad1 (by omega) hb]; rfl
  · rw [decR_bad2 (by omega) hk (by rw [List.drop_drop]; exact hb)]; rfl
  · rw [decR_bad3 (by omega) hk (by rw [List.drop_drop]; exact hv) hb]; rfl
theorem TR.done {b : List UInt8} {n : Nat} {l : List Int} {p : Nat} (h : TR b n l p) (hl : l.length = n) : decR n none b = some (l, p) := by
  unfold TR at h
  rw [h, hl, Nat.sub_self, decR_zero]
  simp
end Go.Proofs.YtgmdimbiipemhaaGreatDoor
namespace Go.Proofs.YtgmdimbiipemhaaGreatDoor
open Go.RowKit Go.Deep
theorem size_u8 : (Tryz.prog.info? 5).map (·.size) = some 1 := by kernel_rfl
theorem size_int : (Tryz.prog.info? 3).map (·.size) = some 1 := by kernel_rfl
theorem size_bool : (Tryz.prog.info? 4).map (·.size) = some 1 := by kernel_rfl
theorem addr_add8 (b o j : Nat) : (⟨b, o, none⟩ : Addr).add j = ⟨b, o + j, none⟩ := by unfold Addr.add; split <;> simp_all
theorem slice_from {P : Program} {α : Type} {ea : α → List Value} {q : Nat} {t e : TypeId} (ht : P.underlying t = some (.slice e)) (hsz : (P.info? e).map (·.size) = some q) (a : Option Addr) (n cap p : Nat) (hn : n ≤ cap) (hp : p ≤ n) :
    ∃ a' c', (∀ W, (Instr.slice t (.slice a n cap) (some (.int .i64 (p : Int))) none none).run P W = .ok (.slice a' (n - p) c') W) ∧ (∀ W (l : List α), l.length = n → SliceIs ea q W (.slice a n cap) l → SliceIs ea q W (.slice a' (n - p) c') (l.drop p)) ∧ (∀ ad, a' = some ad → ∃ ad0, a = some ad0 ∧ ad.block = ad0.block) := by
  obtain ⟨i, hi, hq⟩ : ∃ i, P.info? e = some i ∧ i.size = q := by
    cases h : P.info? e with
    | none => rw [h] at hsz; cases hsz
    | some i => rw [h] at hsz; exact ⟨i, rfl, Option.some.inj hsz⟩
  refine ⟨if cap = p then a else a.map (·.add (p * q)), cap - p, fun W => ?_, fun W l hl h => ?_, fun ad h => ?_⟩
  · simp [Instr.slice, Instr.sliceBounds, Instr.sliceBound, asIntOf, run_underlying ht, sizeOf, typeInfo, hi, hq, hp, hn]
  · obtain ⟨a2, c2, e2, h1, h2, h3⟩ := h
    cases e2
    refine ⟨_, _, by rw [List.length_drop], by rw [List.length_drop]; omega, by omega, fun hne => ?_⟩
    have hlt : p < l.length := by
      rcases Nat.lt_or_ge p l.length with h | h
      · exact h
      · exact absurd (List.drop_eq_nil_of_le (by omega)) hne
    have hl0 : l ≠ [] := by rintro rfl; simp at hne
    obtain ⟨b, off, rfl, h4⟩ := h3 hl0
    rw [if_neg (by omega)]
    refine ⟨b, off + p * q, by simp [addr_add8], fun i x hi' j u hj => ?_⟩
    rw [List.getElem?_drop] at hi'
    have h5 := h4 (p + i) x hi' j u hj
    rw [Nat.add_mul] at h5
    rw [show off + p * q + i * q + j = off + (p * q + i * q) + j by omega]
    exact h5
  · split at h
    · exact ⟨ad, h, rfl⟩
    · cases a with
      | none => cases h
      | some a0 => cases h; exact ⟨a0, rfl, by unfold Addr.add; split <;> rfl⟩
theorem below_keep1 {B : Nat} {w w' : World} (h : Below B w w') {b o : Nat} {v : Value} (hc : w.cell? ⟨b, o, none⟩ = some v) (hb : b < B) : w'.cell? ⟨b, o, none⟩ = some v := (World.cell?_of_block (h.block b hb)).trans hc
theorem ext_of_below9 {B : Nat} {w w' : World} (h : Below B w w') : Ext (fun k => B ≤ k) w w' := ⟨h.os, h.tape, h.output, h.size, fun k hk hn => h.block k (by omega)⟩
theorem SliceIs.of1 {α : Type} {ea : α → List Value} {q : Nat} {w w' : World} {bb oo n cap : Nat} {l : List α} (h : SliceIs ea q w (.slice (some ⟨bb, oo, none⟩) n cap) l) (hb : ∀ o u, w.cell? ⟨bb, o, none⟩ = some u → w'.cell? ⟨bb, o, none⟩ = some u) : SliceIs ea q w' (.slice (some ⟨bb, oo, none⟩) n cap) l := by
  obtain ⟨a, c, e, h2, h3, h4⟩ := h
  cases e
  exact ⟨_, _, rfl, h2, h3, fun hl => by obtain ⟨b, off, e5, h6⟩ := h4 hl; cases e5; exact ⟨_, _, rfl, fun i x hi j u hj => hb _ _ (h6 i x hi j u hj)⟩⟩
theorem bools_append {base : Nat} {w0 w : World} {v vx : Value} {out ys : List Bool} (ho : Own btc 1 4 base w v out) (hb : Below base w0 w) (hx : SliceIs btc 1 w vx ys) (hbase : base ≤ w.heap.size) (hl : out.length + ys.length ≤ 1000000000000) :
    ∃ (s : Sl) (w' : World), (Builtin.append_ #[75, 75] 75 #[v, vx]).run Tryz.prog w = .ok (.slice s.a s.n s.cap) w' ∧ Own btc 1 4 base w' (.slice s.a s.n s.cap) (out ++ ys) ∧ Below base w0 w' ∧ base ≤ w'.heap.size := by
  obtain ⟨i0, hi, hz0, hz1, hz2⟩ := info_parts info_bt
  obtain ⟨v', w', hr, ho2, hx2⟩ := append_structs (P := Tryz.prog) 75 75 i0 _ 1 Tryz.underlying75 hi hz0 hz1 hz2 rfl (by omega) btc_len btc_one ho hx (by unfold maxLen; omega) (by omega) hbase
  obtain ⟨s, rfl⟩ := ho2.sl
  exact ⟨s, w', hr, ho2, Ext.new hb hx2 (fun i hi _ e => by have := (ho.blk i e).1; omega) hbase, Nat.le_trans hbase hx2.size⟩
theorem ints_append {base : Nat} {w0 w : World} {v vx : Value} {out ys : List Int} (ho : Own intc 1 3 base w v out) (hb : Below base w0 w) (hx : SliceIs intc 1 w vx ys) (hbase : base ≤ w.heap.size) (hl : out.length + ys.length ≤ 1000000000000) :
    ∃ (s : Sl) (w' : World), (Builtin.append_ #[100, 100] 100 #[v, vx]).run Tryz.prog w = .ok (.slice s.a s.n s.cap) w' ∧ Own intc 1 3 base w' (.slice s.a s.n s.cap) (out ++ ys) ∧ Below base w0 w' ∧ base ≤ w'.heap.size := by
  obtain ⟨i0, hi, hz0, hz1, hz2⟩ := info_parts info_int
  obtain ⟨v', w', hr, ho2, hx2⟩ := append_structs (P := Tryz.prog) 100 100 i0 _ 8 Tryz.underlying100 hi hz0 hz1 hz2 rfl (by omega) intc_len intc_one ho hx (by unfold maxLen; omega) (by omega) hbase
  obtain ⟨s, rfl⟩ := ho2.sl
  exact ⟨s, w', hr, ho2, Ext.new hb hx2 (fun i hi _ e => by have := (ho.blk i e).1; omega) hbase, Nat.le_trans hbase hx2.size⟩
def TbPost (w : World) (b : List UInt8) (n : Nat) (e : Ending) (w' : World) : Prop := (∃ l u v, decT n false true b = some (l, u) ∧ e = .returned (.tuple #[v, .int .i64 (u : Nat), .int .i64 0]) ∧ Own btc 1 4 w.heap.size w' v l ∧ Below w.heap.size w w') ∨
  (decT n false true b = none ∧ e = .returned (.tuple #[.slice none 0 0, .int .i64 0, .int .i64 41]) ∧ Below w.heap.size w w')
def TrPost (w : World) (b : List UInt8) (n : Nat) (e : Ending) (w' : World) : Prop := (∃ l u v, decR n none b = some (l, u) ∧ e = .returned (.tuple #[v, .int .i64 (u : Nat), .int .i64 0]) ∧ Own intc 1 3 w.heap.size w' v l ∧ Below w.heap.size w w') ∨
  (decR n none b = none ∧ e = .returned (.tuple #[.slice none 0 0, .int .i64 0, .int .i64 41]) ∧ Below w.heap.size w w')
def offC (c : Nat) : Nat := if c ≤ 16 then c else if c ≤ 18 then c + 3 else c + 4
theorem offC_inj {c d : Nat} (hc : c < 21) (hd : d < 21) (h : offC c = offC d) : c = d := by
  unfold offC at h
  split at h <;> split at h <;> try split at h
  all_goals (try split at h) <;> omega
theorem offC_lt {c : Nat} (hc : c < 21) : offC c < 26 := by unfold offC; split <;> (try split) <;> omega
def dlt (c : Nat) : Bool := c == 0 || (decide (2 ≤ c) && decide (c < 10)) || c == 11
def fld (o : OpD) : Nat → Int
  | 0 => o.id.n
  | 1 => o.id.r
  | 2 => o.d0
  | 3 => o.d1
  | 4 => o.d2
  | 5 => o.d3
  | 6 => o.d4
  | 7 => o.d5
  | 8 => o.d6
  | 9 => o.d7
  | 10 => o.kind
  | 11 => o.ref.n
  | 12 => o.ref.r
  | 13 => o.side
  | 14 => o.ch
  | 15 => o.under.n
  | 16 => o.under.r
  | 17 => o.fr.n
  | 18 => o.fr.r
  | 19 => o.tr.n
  | _ => o.tr.r
def OpD.withF (o : OpD) (f : Nat → Int) : OpD := ⟨⟨f 0, f 1⟩, f 2, f 3, f 4, f 5, f 6, f 7, f 8, f 9, f 10, ⟨f 11, f 12⟩, f 13, f 14, ⟨f 15, f 16⟩, o.key, o.name, o.value, ⟨f 17, f 18⟩, o.fa, ⟨f 19, f 20⟩, o.ta⟩
theorem fld_withF (o : OpD) (f : Nat → Int) {c : Nat} (hc : c < 21) : fld (o.withF f) c = f c := by
  match c, hc with
  | 0, _ => rfl
  | 1, _ => rfl
  | 2, _ => rfl
  | 3, _ => rfl
  | 4, _ => rfl
  | 5, _ => rfl
  | 6, _ => rfl
  | 7, _ => rfl
  | 8, _ => rfl
  | 9, _ => rfl
  | 10, _ => rfl
  | 11, _ => rfl
  | 12, _ => rfl
  | 13, _ => rfl
  | 14, _ => rfl
  | 15, _ => rfl
  | 16, _ => rfl
  | 17, _ => rfl
  | 18, _ => rfl
  | 19, _ => rfl
  | 20, _ => rfl
  | n + 21, h => exact absurd h (by omega)
structure At (b off : Nat) (o : OpD) (g : Nat → Int) (W : World) : Prop where
  num : ∀ c, c < 21 → W.cell? ⟨b, off + offC c, none⟩ = some (.int .i64 (g c))
  key : W.cell? ⟨b, off + 17, none⟩ = some (.string o.key)
  name : W.cell? ⟨b, off + 18, none⟩ = some (.string o.name)
  value : W.cell? ⟨b, off + 19, none⟩ = some (.string o.value)
  fa : W.cell? ⟨b, off + 22, none⟩ = some (.bool o.fa)
  ta : W.cell? ⟨b, off + 25, none⟩ = some (.bool o.ta)
  free : ∀ j, j < 26 → W.frozen? ⟨b, off + j, none⟩ = false
theorem At.cells {b off : Nat} {o : OpD} {g : Nat → Int} {W : World} (h : At b off o g W) : ∀ j u, (o.withF g).cells[j]? = some u → W.cell? ⟨b, off + j, none⟩ = some u := by
  intro j u hj
  have hlt := (List.getElem?_eq_some_iff.1 hj).1
  rw [OpD.len] at hlt
  match j, hlt with
  | 0, _ => cases hj; exact h.num 0 (by omega)
  | 1, _ => cases hj; exact h.num 1 (by omega)
  | 2, _ => cases hj; exact h.num 2 (by omega)
  | 3, _ => cases hj; exact h.num 3 (by omega)
  | 4, _ => cases hj; exact h.num 4 (by omega)
  | 5, _ => cases hj; exact h.num 5 (by omega)
  | 6, _ => cases hj; exact h.num 6 (by omega)
  | 7, _ => cases hj; exact h.num 7 (by omega)
  | 8, _ => cases hj; exact h.num 8 (by omega)
  | 9, _ => cases hj; exact h.num 9 (by omega)
  | 10, _ => cases hj; exact h.num 10 (by omega)
  | 11, _ => cases hj; exact h.num 11 (by omega)
  | 12, _ => cases hj; exact h.num 12 (by omega)
  | 13, _ => cases hj; exact h.num 13 (by omega)
  | 14, _ => cases hj; exact h.num 14 (by omega)
  | 15, _ => cases hj; exact h.num 15 (by omega)
  | 16, _ => cases hj; exact h.num 16 (by omega)
  | 17, _ => cases hj; exact h.key
  | 18, _ => cases hj; exact h.name
  | 19, _ => cases hj; exact h.value
  | 20, _ => cases hj; exact h.num 17 (by omega)
  | 21, _ => cases hj; exact h.num 18 (by omega)
  | 22, _ => cases hj; exact h.fa
  | 23, _ => cases hj; exact h.num 19 (by omega)
  | 24, _ => cases hj; exact h.num 20 (by omega)
  | 25, _ => cases hj; exact h.ta
theorem At.of_cells {b off : Nat} {o : OpD} {W : World} (h : ∀ j u, o.cells[j]? = some u → W.cell? ⟨b, off + j, none⟩ = some u) (hf : ∀ j, j < 26 → W.frozen? ⟨b, off + j, none⟩ = false) : At b off o (fld o) W :=
  ⟨fun c hc => h _ _ (by
    match c, hc with
    | 0, _ => rfl
    | 1, _ => rfl
    | 2, _ => rfl
    | 3, _ => rfl
    | 4, _ => rfl
    | 5, _ => rfl
    | 6, _ => rfl
    | 7, _ => rfl
    | 8, _ => rfl
    | 9, _ => rfl
    | 10, _ => rfl
    | 11, _ => rfl
    | 12, _ => rfl
    | 13, _ => rfl
    | 14, _ => rfl
    | 15, _ => rfl
    | 16, _ => rfl
    | 17, _ => rfl
    | 18, _ => rfl
    | 19, _ => rfl
    | 20, _ => rfl
    | n + 21, h => exact absurd h (by omega)), h 17 _ rfl, h 18 _ rfl, h 19 _ rfl, h 22 _ rfl, h 25 _ rfl, hf⟩
theorem At.of_same {b off : Nat} {o : OpD} {g : Nat → Int} {W W' : World} (h : At b off o g W) (hc : ∀ q, W'.cell? ⟨b, q, none⟩ = W.cell? ⟨b, q, none⟩) (hf : ∀ q, W'.frozen? ⟨b, q, none⟩ = W.frozen? ⟨b, q, none⟩) : At b off o g W' :=
  ⟨fun c h1 => (hc _).trans (h.num c h1), (hc _).trans h.key, (hc _).trans h.name, (hc _).trans h.value, (hc _).trans h.fa, (hc _).trans h.ta, fun j h1 => (hf _).trans (h.free j h1)⟩
theorem At.lt {b off : Nat} {o : OpD} {g : Nat → Int} {W : World} (h : At b off o g W) : b < W.heap.size := cell_lt h.key
theorem At.ext {b off : Nat} {o : OpD} {g : Nat → Int} {W W' : World} {S : Nat → Prop} (h : At b off o g W) (hx : Ext S W W') (hn : ¬ S b) : At b off o g W' :=
  h.of_same (fun q => hx.cell (p := ⟨b, q, none⟩) h.lt hn) (fun q => hx.frozen (p := ⟨b, q, none⟩) h.lt hn)
theorem At.put {b off : Nat} {o : OpD} {g : Nat → Int} {W W' : World} (h : At b off o g W) {c : Nat} (hc : c < 21) {x : Int} (h1 : W'.cell? ⟨b, off + offC c, none⟩ = some (.int .i64 x)) (h2 : ∀ q, q ≠ off + offC c → W'.cell? ⟨b, q, none⟩ = W.cell? ⟨b, q, none⟩) (h3 : ∀ q, W'.frozen? ⟨b, q, none⟩ = W.frozen? ⟨b, q, none⟩) :
    At b off o (fun d => if d = c then x else g d) W' := by
  have hne : ∀ j, j = 17 ∨ j = 18 ∨ j = 19 ∨ j = 22 ∨ j = 25 → off + j ≠ off + offC c := fun j hj => by
    unfold offC
    split <;> (try split) <;> omega
  refine ⟨fun d hd => ?_, (h2 _ (hne _ (by omega))).trans h.key, (h2 _ (hne _ (by omega))).trans h.name, (h2 _ (hne _ (by omega))).trans h.value, (h2 _ (hne _ (by omega))).trans h.fa, (h2 _ (hne _ (by omega))).trans h.ta, fun j hj => (h3 _).trans (h.free j hj)⟩
  by_cases e : d = c
  · subst e; rw [if_pos rfl]; exact h1
  · rw [if_neg e, h2 _ (fun e2 => e (offC_inj hd hc (by omega)))]
    exact h.num d hd
def stg (f : Nat → Int) (o : OpD) (c : Nat) (d : Nat) : Int := if d < c ∧ d ≠ 10 ∧ d ≠ 13 then f d else fld o d
theorem stg_zero (f : Nat → Int) (o : OpD) : stg f o 0 = fld o := by funext d; unfold stg; rw [if_neg (by omega)]
theorem stg_at (f : Nat → Int) (o : OpD) (c : Nat) : stg f o c c = fld o c := by unfold stg; rw [if_neg (by omega)]
theorem stg_step (f : Nat → Int) (o : OpD) {c : Nat} (h1 : c ≠ 10) (h2 : c ≠ 13) : (fun d => if d = c then f c else stg f o c d) = stg f o (c + 1) := by
  funext d
  unfold stg
  by_cases e : d = c
  · subst e; rw [if_pos rfl, if_pos ⟨by omega, h1, h2⟩]
  · rw [if_neg e]
    by_cases h : d < c ∧ d ≠ 10 ∧ d ≠ 13
    · rw [if_pos h, if_pos ⟨by omega, h.2⟩]
    · rw [if_neg h, if_neg (by omega)]
theorem stg_skip (f : Nat → Int) (o : OpD) {c : Nat} (h : c = 10 ∨ c = 13) : stg f o c = stg f o (c + 1) := by
  funext d
  unfold stg
  by_cases h1 : d < c ∧ d ≠ 10 ∧ d ≠ 13
  · rw [if_pos h1, if_pos ⟨by omega, h1.2⟩]
  · rw [if_neg h1, if_neg (by omega)]
def Shp (pb : Nat) (W W' : World) : Prop := ∀ cs t, W.heap[pb]? = some (.cells cs t (0, 0)) → ∃ cs', W'.heap[pb]? = some (.cells cs' t (0, 0)) ∧ cs'.size = cs.size
theorem Shp.same {pb : Nat} {W W' : World} (h : W'.heap[pb]? = W.heap[pb]?) : Shp pb W W' := fun cs t hc => ⟨cs, h.trans hc, rfl⟩
theorem Shp.trans {pb : Nat} {W W' W'' : World} (h : Shp pb W W') (k : Shp pb W' W'') : Shp pb W W'' := fun cs t hc => by
  obtain ⟨c1, h1, h2⟩ := h cs t hc
  obtain ⟨c2, h3, h4⟩ := k c1 t h1
  exact ⟨c2, h3, h4.trans h2⟩
theorem Shp.set (W : World) (pb po : Nat) (v : Value) : Shp pb W (W.setCell ⟨pb, po, none⟩ v) := fun cs t hc => ⟨_, heap_setCell_same W pb po cs t v hc, by rw [Array.size_setIfInBounds]⟩
def Rst (b off : Nat) (W W' : World) : Prop := ∀ cs t, W.heap[b]? = some (.cells cs t (0, 0)) → ∃ cs', W'.heap[b]? = some (.cells cs' t (0, 0)) ∧ cs'.size = cs.size ∧ ∀ q, (q < off ∨ off + 26 ≤ q) → cs'[q]? = cs[q]?
theorem Rst.refl (b off : Nat) (W : World) : Rst b off W W := fun cs t hc => ⟨cs, hc, rfl, fun _ _ => rfl⟩
theorem Rst.trans {b off : Nat} {W W' W'' : World} (h : Rst b off W W') (k : Rst b off W' W'') : Rst b off W W'' := fun cs t hc => by
  obtain ⟨c1, h1, h2, h5⟩ := h cs t hc
  obtain ⟨c2, h3, h4, h6⟩ := k c1 t h1
  exact ⟨c2, h3, h4.trans h2, fun q hq => (h6 q hq).trans (h5 q hq)⟩
theorem Rst.same {b off : Nat} {W W' : World} (h : W'.heap[b]? = W.heap[b]?) : Rst b off W W' := fun cs t hc => ⟨cs, h.trans hc, rfl, fun _ _ => rfl⟩
theorem Rst.of_shp {b off po : Nat} {W W' : World} (h : Shp b W W') (hq : ∀ q, q ≠ po → W'.cell? ⟨b, q, none⟩ = W.cell? ⟨b, q, none⟩) (h1 : off ≤ po) (h2 : po < off + 26) : Rst b off W W' := fun cs t hc => by
  obtain ⟨c1, h3, h4⟩ := h cs t hc
  refine ⟨c1, h3, h4, fun q hh => ?_⟩
  have h5 := hq q (by omega)
  unfold World.cell? at h5
  rw [h3, hc] at h5
  exact h5
theorem Rst.set (W : World) {b off po : Nat} (v : Value) (h1 : off ≤ po) (h2 : po < off + 26) : Rst b off W (W.setCell ⟨b, po, none⟩ v) := fun cs t hc =>
  ⟨_, heap_setCell_same W b po cs t v hc, by rw [Array.size_setIfInBounds], fun q hh => by rw [Array.getElem?_setIfInBounds_ne (by omega)]⟩
def UseOK (P : Program) (gf : Nat) (lb : Array Value) (f fl : Nat → Int) (J : Nat → (Nat → Prop) → World → Prop) : Prop :=
  ∀ (c : Nat) (A : Nat → Prop) (W : World) (pb po : Nat), c < 21 → J c A W → W.cell? ⟨pb, po, none⟩ = some (.int .i64 (fl c)) → W.frozen? ⟨pb, po, none⟩ = false → A pb →
    Calls P gf (#[.pointer (some ⟨pb, po, none⟩), .bool (dlt c)] ++ lb) W fun e W' => (∃ v, e = .returned v) ∧ J (c + 1) A W' ∧ W'.cell? ⟨pb, po, none⟩ = some (.int .i64 (f c)) ∧
      (∀ q, q ≠ po → W'.cell? ⟨pb, q, none⟩ = W.cell? ⟨pb, q, none⟩) ∧ (∀ q, W'.frozen? ⟨pb, q, none⟩ = W.frozen? ⟨pb, q, none⟩) ∧ Ext (fun k => ¬ A k ∨ k = pb) W W' ∧ Shp pb W W'
def JOK (b : Nat) (J : Nat → (Nat → Prop) → World → Prop) : Prop := ∀ c A A' W W', J c A W → Ext (fun k => k = b) W W' → (∀ k, A' k → A k ∨ (W.heap.size ≤ k ∧ k < W'.heap.size)) → A b → J c A' W'
theorem diffsB_in {l : List Int} (h : ∀ x ∈ l, -9223372036854775808 ≤ x ∧ x ≤ 9223372036854775807) : ∀ x ∈ diffsB l, -9223372036854775808 ≤ x ∧ x ≤ 9223372036854775807 := by
  have key : ∀ (l : List Int) (p : Int), ∀ x ∈ diffsF p l, -9223372036854775808 ≤ x ∧ x ≤ 9223372036854775807 := by
    intro l
    induction l with
    | nil => intro p x hx; simp [diffsF] at hx
    | cons y l ih =>
      intro p x hx
      rw [diffsF] at hx
      rcases List.mem_cons.1 hx with rfl | hx
      · exact wrapI_in _
      · exact ih y x hx
  intro x hx
  cases l with
  | nil => simp [diffsB] at hx
  | cons y l =>
    rw [diffsB] at hx
    rcases List.mem_cons.1 hx with rfl | hx
    · exact h _ (by simp)
    · exact key _ _ _ hx
theorem diffsB_length : ∀ l : List Int, (diffsB l).length = l.length := by
  have key : ∀ (l : List Int) (p : Int), (diffsF p l).length = l.length := by
    intro l
    induction l with
    | nil => intro p; rfl
    | cons y l ih => intro p; rw [diffsF, List.length_cons, ih, List.length_cons]
  intro l
  cases l with
  | nil => rfl
  | cons y l => rw [diffsB, List.length_cons, key, List.length_cons]
end Go.Proofs.YtgmdimbiipemhaaGreatDoor
namespace Go.Proofs.YtgmdimbiipemhaaGreatDoor
def txt (o : OpD) : Nat → ByteArray
  | 0 => o.key
  | 1 => o.name
  | _ => o.value
def tru (o : OpD) : Nat → Bool
  | 0 => o.fa
  | _ => o.ta
def numC (l : List OpD) (c : Nat) : List Int := l.map fun o => fld o c
def colB (l : List OpD) (c : Nat) : List UInt8 := if dlt c then runsB (diffsB (numC l c)) else runsB (numC l c)
def truC (l : List OpD) (c : Nat) : List Bool := l.map fun o => tru o c
def lenC (l : List OpD) (c : Nat) : List Int := l.map fun o => ((txt o c).size : Int)
def catC (l : List OpD) (c : Nat) : List UInt8 := l.flatMap fun o => (txt o c).data.toList
def numsB (l : List OpD) (n : Nat) : List UInt8 := (List.range n).flatMap (colB l)
def trusB (l : List OpD) (n : Nat) : List UInt8 := (List.range n).flatMap fun c => boolsB (truC l c)
def txtsB (l : List OpD) (n : Nat) : List UInt8 := (List.range n).flatMap fun c => runsB (lenC l c) ++ catC l c
def encB (l : List OpD) : List UInt8 := putB l.length ++ numsB l 21 ++ trusB l 2 ++ txtsB l 3
theorem numsB_succ (l : List OpD) (n : Nat) : numsB l (n + 1) = numsB l n ++ colB l n := by simp [numsB, List.range_succ]
theorem trusB_succ (l : List OpD) (n : Nat) : trusB l (n + 1) = trusB l n ++ boolsB (truC l n) := by simp [trusB, List.range_succ]
theorem txtsB_succ (l : List OpD) (n : Nat) : txtsB l (n + 1) = txtsB l n ++ (runsB (lenC l n) ++ catC l n) := by simp [txtsB, List.range_succ]
def OpD.wf (o : OpD) : Prop := (o.key.size ≤ 9223372036854775807 ∧ o.name.size ≤ 9223372036854775807 ∧ o.value.size ≤ 9223372036854775807) ∧ ∀ c, c < 21 → -9223372036854775808 ≤ fld o c ∧ fld o c ≤ 9223372036854775807
theorem OpD.right_txt {o : OpD} (h : o.right = true) (c : Nat) : (txt o c).size ≤ 64 := by
  have hk : o.kindOk = true := by
    unfold OpD.right at h
    simp only [Bool.and_eq_true] at h
    exact h.2.2.2
  have hn : ∀ {s : ByteArray}, nameB s = true → s.size ≤ 64 := fun h => by
    unfold nameB at h
    rw [Bool.and_eq_true] at h
    have := of_decide_eq_true h.1
    omega
  have hv : ∀ {s : ByteArray}, valueB s = true → s.size ≤ 64 := fun h => by
    unfold valueB at h
    rw [Bool.and_eq_true] at h
    have := of_decide_eq_true h.1
    omega
  have hkey : ∀ {s : ByteArray}, keyB s = true → s.size ≤ 64 := fun h => by
    unfold keyB at h
    rw [Bool.and_eq_true, Bool.and_eq_true] at h
    have := of_decide_eq_true h.1.1
    omega
  have h0 : noText.size ≤ 64 := by show 0 ≤ 64; omega
  have fin : o.key.size ≤ 64 ∧ o.name.size ≤ 64 ∧ o.value.size ≤ 64 := by
    unfold OpD.kindOk at hk
    split at hk
    · rw [Bool.and_eq_true] at hk
      have e := of_decide_eq_true hk.2
      rw [← e]
      exact ⟨h0, h0, h0⟩
    · split at hk
      · rw [Bool.and_eq_true] at hk
        have e := of_decide_eq_true hk.2
        rw [← e]
        exact ⟨h0, h0, h0⟩
      · split at hk
        · rw [Bool.and_eq_true] at hk
          have e := of_decide_eq_true hk.2
          have h1 := hk.1
          unfold OpD.okM at h1
          rw [Bool.and_eq_true] at h1
          have h2 := hkey h1.2
          refine ⟨h2, ?_, ?_⟩ <;> (rw [← e]; exact h0)
        · split at hk
          · rw [Bool.and_eq_true] at hk
            have e := of_decide_eq_true hk.2
            have h1 := hk.1
            unfold OpD.okS at h1
            rw [Bool.and_eq_true, Bool.and_eq_true] at h1
            exact ⟨by rw [← e]; exact h0, hn h1.1.2, hv h1.2⟩
          · split at hk
            · rw [Bool.and_eq_true] at hk
              have e := of_decide_eq_true hk.2
              have h1 := hk.1
              unfold OpD.okK at h1
              rw [Bool.and_eq_true, Bool.and_eq_true] at h1
              exact ⟨by rw [← e]; exact h0, hn h1.1.2, hv h1.2⟩
            · cases hk
  unfold txt
  split
  · exact fin.1
  · exact fin.2.1
  · exact fin.2.2
end Go.Proofs.YtgmdimbiipemhaaGreatDoor
namespace Go.Proofs.YtgmdimbiipemhaaGreatDoor
open Go.RowKit Go.Deep
theorem sumsF_len : ∀ (l : List Int) (p : Int), (sumsF p l).length = l.length
  | [], _ => rfl
  | x :: l, p => by rw [sumsF, List.length_cons, sumsF_len l, List.length_cons]
theorem sumsB_len (l : List Int) : (sumsB l).length = l.length := by
  cases l with
  | nil => rfl
  | cons x l => rw [sumsB, List.length_cons, sumsF_len, List.length_cons]
theorem sumsF_get : ∀ (l : List Int) (p : Int) (j : Nat) (x y : Int), l[j]? = some x → (p :: sumsF p l)[j]? = some y → (sumsF p l)[j]? = some (wrapI (x + y))
  | [], _, _, _, _, h, _ => by simp at h
  | z :: l, p, 0, x, y, h, h2 => by
    simp at h h2
    subst h h2
    rw [sumsF]; rfl
  | z :: l, p, j + 1, x, y, h, h2 => by
    rw [sumsF] at h2 ⊢
    rw [List.getElem?_cons_succ] at h h2 ⊢
    exact sumsF_get l _ j x y h h2
theorem sumsB_get {l : List Int} {j : Nat} {x y : Int} (hx : l[j + 1]? = some x) (hy : (sumsB l)[j]? = some y) : (sumsB l)[j + 1]? = some (wrapI (x + y)) := by
  cases l with
  | nil => simp at hx
  | cons z l =>
    rw [sumsB] at hy ⊢
    rw [List.getElem?_cons_succ] at hx ⊢
    exact sumsF_get l z j x y hx hy
theorem diffsF_get : ∀ (l : List Int) (p : Int) (j : Nat) (x y : Int), l[j]? = some x → (p :: l)[j]? = some y → (diffsF p l)[j]? = some (wrapI (x - y))
  | [], _, _, _, _, h, _ => by simp at h
  | z :: l, p, 0, x, y, h, h2 => by
    simp at h h2
    subst h h2
    rw [diffsF]; rfl
  | z :: l, p, j + 1, x, y, h, h2 => by
    rw [diffsF]
    rw [List.getElem?_cons_succ] at h h2 ⊢
    exact diffsF_get l _ j x y h h2
theorem diffsB_get {l : List Int} {j : Nat} {x y : Int} (hx : l[j + 1]? = some x) (hy : l[j]? = some y) : (diffsB l)[j + 1]? = some (wrapI (x - y)) := by
  cases l with
  | nil => simp at hx
  | cons z l =>
    rw [diffsB]
    rw [List.getElem?_cons_succ] at hx ⊢
    exact diffsF_get l z j x y hx hy
def mixP (a b : List Int) (i : Nat) : List Int := a.take i ++ b.drop i
theorem mixP_zero (a b : List Int) : mixP a b 0 = b := by simp [mixP]
theorem mixP_len {a b : List Int} (h : a.length = b.length) {i : Nat} (hi : i ≤ b.length) : (mixP a b i).length = b.length := by simp [mixP]; omega
theorem mixP_all {a b : List Int} (h : a.length = b.length) : mixP a b b.length = a := by simp [mixP, ← h]
theorem mixP_at {a b : List Int} (h : a.length = b.length) {i : Nat} {x : Int} (hx : b[i]? = some x) : (mixP a b i)[i]? = some x := by
  have hi := (List.getElem?_eq_some_iff.1 hx).1
  unfold mixP
  rw [List.getElem?_append_right (by simp; omega), List.length_take, Nat.min_eq_left (by omega), Nat.sub_self, List.getElem?_drop]
  exact hx
theorem mixP_before {a b : List Int} (h : a.length = b.length) {i j : Nat} {x : Int} (hx : a[j]? = some x) (hj : j < i) : (mixP a b i)[j]? = some x := by
  have hi := (List.getElem?_eq_some_iff.1 hx).1
  unfold mixP
  rw [List.getElem?_append_left (by simp; omega), List.getElem?_take, if_pos hj]
  exact hx
theorem mixP_step {a b : List Int} (h : a.length = b.length) {i : Nat} {x : Int} (hx : a[i]? = some x) : (mixP a b i).set i x = mixP a b (i + 1) := by
  have hi := (List.getElem?_eq_some_iff.1 hx).1
  unfold mixP
  rw [List.set_append_right _ _ (by simp; omega), List.length_take, Nat.min_eq_left (by omega), Nat.sub_self, List.take_add_one, hx, Option.toList_some, List.append_assoc]
  congr 1
  have : b.drop i = b[i] :: b.drop (i + 1) := List.drop_eq_getElem_cons (by omega)
  rw [this]
  rfl
theorem mixP_same {a b : List Int} (h : a.length = b.length) {i : Nat} {x : Int} (hx : a[i]? = some x) (hb : b[i]? = some x) : mixP a b i = mixP a b (i + 1) := by
  rw [← mixP_step h hx]
  apply List.ext_getElem?
  intro k
  rw [List.getElem?_set]
  split
  · rename_i e
    subst e
    rw [mixP_at h hb]
    have hi := (List.getElem?_eq_some_iff.1 hb).1
    rw [if_pos (by rw [mixP_len h (by omega)]; exact hi)]
  · rfl
theorem sumsB_head {l : List Int} {x : Int} (h : l[0]? = some x) : (sumsB l)[0]? = some x := by
  cases l with
  | nil => simp at h
  | cons y l => rw [sumsB]; simpa using h
theorem diffsB_head {l : List Int} {x : Int} (h : l[0]? = some x) : (diffsB l)[0]? = some x := by
  cases l with
  | nil => simp at h
  | cons y l => rw [diffsB]; simpa using h
set_option maxRecDepth 20000 in
set_option maxHeartbeats 4000000 in
theorem takeruns_any (v : Value) (b : List UInt8) (n : Nat) (w : World) (h : SliceIs u8c 1 w v b) (hn0 : n ≤ 65536) : Calls Tryz.prog 153 #[v, .int .i64 n] w fun e w' => TrPost w b n e w' := by
  obtain ⟨a, cap, rfl, hcap, hmax, -⟩ := id h
  unfold maxLen at hmax
  have HH := Lib.hid h
  clear h
  have hn1 : ¬ (n : Int) < 0 := by omega
  have hn2 : ¬ (65536 : Int) < (n : Int) := by omega
  go_enter Tryz.func153, Tryz.ntmps153
  go_wp2_with fail
  go_loopg [7, 8] n (fun g lv pv wr => ∃ (s : Sl) (l : List Int) (p : Nat), g = n - l.length ∧ lv = .slice s.a s.n s.cap ∧ pv = .int .i64 p ∧ s.n = l.length ∧ l.length ≤ n ∧ p ≤ b.length ∧ Hid (TR b n l p) ∧ Hid (Own intc 1 3 w.heap.size wr (.slice s.a s.n s.cap) l ∧ Below w.heap.size w wr))
  case atStart => exact ⟨⟨none, 0, 0⟩, [], 0, rfl, rfl, rfl, rfl, Nat.zero_le _, Nat.zero_le _, Lib.hid (TR.zero b n), Lib.hid ⟨Own.nil, Below.refl _ _⟩⟩
  case round =>
    obtain ⟨⟨sa, sn, sc⟩, l, p, hg, rfl, rfl, hsn, hln, hpb, HT, HU⟩ := hrel
    dsimp only at hsn HU ⊢
    subst hsn
    have HG := Lib.hid hg
    clear hg
    by_cases hlt : l.length < n
    · have hl1 : (l.length : Int) < (n : Int) := by omega
      obtain ⟨a1, c1, hsl, hS1, -⟩ := slice_from (P := Tryz.prog) (ea := u8c) Tryz.underlying22 size_u8 a b.length cap p hcap hpb
      have HS := Lib.hid (hS1 wr b rfl (HH.out.below HU.out.2))
      clear hS1
      go_wp2_with fail
      refine (take_any _ _ _ HS.out).mono ?_
      rintro e w5 ⟨rfl, e5⟩
      rw [← e5]
      clear e5 w5
      cases hk : takeV (b.drop p) with
      | none =>
        have hr : takeR (b.drop p) = .tuple #[.int .u64 0, .int .i64 0, .int .i64 31] := by unfold takeR; rw [hk]
        have HD := Lib.hid (HT.out.bad hlt (.inl hk))
        rw [hr]
        have HR := Lib.hid hr
        clear hk hr
        have hp00 : (p : Int) + 0 = (p : Int) := by omega
        go_wp2_with fail
        refine (take_any _ _ _ HS.out).mono ?_
        rintro e w5 ⟨rfl, e5⟩
        rw [← e5, HR.out]
        clear e5 w5 HS hsl
        go_wp2_with fail
        refine (zag_any 0 _ (by omega)).mono ?_
        rintro e w5 ⟨rfl, e5⟩
        rw [← e5]
        clear e5 w5
        go_wp2_with fail
        go_ret3
        exact .inr ⟨HD.out, rfl, HU.out.2⟩
      | some k =>
        have hr : takeR (b.drop p) = .tuple #[.int .u64 k, .int .i64 (putB k).length, .int .i64 0] := by unfold takeR; rw [hk]
        have hk64 := (takeV_some.1 hk).1
        have hqp := (takeV_some.1 hk).2.length_le
        rw [List.length_drop] at hqp
        have hq0 : 0 < (putB k).length := List.length_pos_iff.2 (putB_ne k)
        rw [hr]
        obtain ⟨q, hq⟩ : ∃ q, (putB k).length = q := ⟨_, rfl⟩
        rw [hq] at hqp hq0 ⊢
        obtain ⟨a2, c2, hsl2, hS2, -⟩ := slice_from (P := Tryz.prog) (ea := u8c) Tryz.underlying22 size_u8 a b.length cap (p + q) hcap (by omega)
        have HS2 := Lib.hid (hS2 wr b rfl (HH.out.below HU.out.2))
        simp only [Int.natCast_add] at hsl2
        clear hS2 hr HS hsl
        go_wp2_with fail
        refine (take_any _ _ _ HS2.out).mono ?_
        rintro e w5 ⟨rfl, e5⟩
        rw [← e5]
        clear e5 w5 HS2
        cases hv : takeV (b.drop (p + q)) with
        | none =>
          have hr : takeR (b.drop (p + q)) = .tuple #[.int .u64 0, .int .i64 0, .int .i64 31] := by unfold takeR; rw [hv]
          have HD := Lib.hid (HT.out.bad hlt (.inr ⟨k, hk, .inl (by rw [hq]; exact hv)⟩))
          rw [hr]
          clear hk hr hv hsl2 hq
          go_wp2_with fail
          refine (zag_any 0 _ (by omega)).mono ?_
          rintro e w5 ⟨rfl, e5⟩
          rw [← e5]
          clear e5 w5
          go_wp2_with fail
          go_ret3
          exact .inr ⟨HD.out, rfl, HU.out.2⟩
        | some v =>
          have hr : takeR (b.drop (p + q)) = .tuple #[.int .u64 v, .int .i64 (putB v).length, .int .i64 0] := by unfold takeR; rw [hv]
          have hv64 := (takeV_some.1 hv).1
          have hqp2 := (takeV_some.1 hv).2.length_le
          rw [List.length_drop] at hqp2
          rw [hr]
          have HBAD := Lib.hid (fun h => HT.out.bad hlt (.inr ⟨k, hk, .inr ⟨v, by rw [hq]; exact hv, h⟩⟩))
          have HSTEP := Lib.hid (fun h0 h1 h2 => HT.out.step hk (by rw [hq]; exact hv) h0 h1 h2)
          rw [hq] at HSTEP
          obtain ⟨q2, hq2⟩ : ∃ q2, (putB v).length = q2 := ⟨_, rfl⟩
          rw [hq2] at hqp2 HSTEP ⊢
          obtain ⟨x, hx⟩ : ∃ x, zagI v = x := ⟨_, rfl⟩
          rw [hx] at HBAD HSTEP
          have hQ : 0 < q ∧ p + q + q2 ≤ b.length := ⟨hq0, by omega⟩
          have HQ := Lib.hid hQ
          have hxin := zagI_in hv64
          rw [hx] at hxin
          clear hr hsl2 hk hv hq hq2 hqp hqp2 hq0 hQ
          go_wp2_with fail
          refine (zag_any v _ hv64).mono ?_
          rintro e w5 ⟨rfl, e5⟩
          rw [← e5, hx]
          clear e5 w5 hx
          obtain ⟨r, hrr⟩ : ∃ r : Nat, r = n - l.length := ⟨_, rfl⟩
          have hsub : (n : Int) - (l.length : Int) = (r : Int) := by omega
          by_cases hz : k = 0
          · have HD := Lib.hid (HBAD.out (.inl hz))
            have hz1 : ((k : Int) == 0) = true := by rw [hz]; rfl
            clear hz hrr hsub HBAD HSTEP
            go_wp2_with fail
            go_ret3
            exact .inr ⟨HD.out, rfl, HU.out.2⟩
          · have hz1 : ((k : Int) == 0) = false := by simpa using hz
            by_cases hkn : r < k
            · have hk1 : (r : Int) < (k : Int) := by omega
              have HD := Lib.hid (HBAD.out (.inr (.inl (by omega))))
              have hdk : decide (n - l.length < k) = true := decide_eq_true (by omega)
              clear hz hkn hrr HBAD HSTEP
              go_wp2_with fail
              go_ret3
              exact .inr ⟨HD.out, rfl, HU.out.2⟩
            · have hk1 : ¬ (r : Int) < (k : Int) := by omega
              have hdk : decide (n - l.length < k) = false := decide_eq_false (by omega)
              have hk65 : k ≤ 65536 := by omega
              have HKN : Hid (k ≤ n - l.length ∧ k ≠ 0) := Lib.hid ⟨by omega, hz⟩
              have hpq : IntKind.i64.wrap ((p : Int) + ((q : Int) + (q2 : Int))) = ((p + q + q2 : Nat) : Int) := by rw [IntWalk.i64_in _ (by have := HQ.out; omega)]; omega
              have HC := Lib.hid (repint_any x wr.heap.size 1 k (wr.alloc (.cells #[.int .i64 x] 3)) (int_new wr x 0 _ rfl) hk65 (Nat.le_refl _))
              by_cases hl0 : l.length = 0
              · have hl2 : ¬ (0 : Int) < (l.length : Int) := by omega
                have hl3 : decide (0 < l.length) = false := decide_eq_false (by omega)
                have HNX := Lib.hid (HSTEP.out HKN.out.2 HKN.out.1 (by rw [List.eq_nil_of_length_eq_zero hl0]; simp))
                clear hz hkn hrr hl0 HBAD HSTEP
                have hqs := HQ.out.2
                clear hpq
                go_wp2_with fail
                refine HC.out.mono ?_
                rintro e w6 ⟨v6, rfl, hown6, b6⟩
                have hb0 : Below w.heap.size w (wr.alloc (.cells #[.int .i64 x] 3)) := HU.out.2.alloc HU.out.2.size _
                obtain ⟨⟨ta, tn, tc⟩, w7, hr7, own7, b7, hsz7⟩ := ints_append ((HU.out.1.alloc _).below1 b6) (hb0.trans (b6.mono hb0.size)) (hown6.slice intc_len) (Nat.le_trans hb0.size b6.size) (by rw [List.length_replicate]; omega)
                have HX := Lib.hid (And.intro own7 b7)
                have HTN := Lib.hid (own7.nlen intc_len).1
                clear own7 b7 hown6 b6 hb0 HC hsz7
                go_wp2_with (at_builtin; refine Lib.wpList_append_run _ rfl _ _ _ _ rfl _ _ rfl rfl _ _ hr7 ?_)
                go_roundg (n - (l ++ List.replicate k x).length)
                case measure => rw [HG.out, List.length_append, List.length_replicate]; have h1 := HKN.out; omega
                case rel => exact ⟨⟨ta, tn, tc⟩, l ++ List.replicate k x, p + q + q2, rfl, rfl, by simp; omega, HTN.out, by rw [List.length_append, List.length_replicate]; have h1 := HKN.out.1; omega, HQ.out.2, HNX, HX⟩
              · obtain ⟨j, hj⟩ : ∃ j, l.length = j + 1 := ⟨l.length - 1, by omega⟩
                obtain ⟨y, hy⟩ : ∃ y, l[j]? = some y := ⟨_, List.getElem?_eq_getElem (by omega)⟩
                have hlast : l.getLast? = some y := by rw [List.getLast?_eq_getElem?, hj]; exact hy
                obtain ⟨bb, oo, rfl, c0⟩ := (HU.out.1.slice intc_len).at1 hy rfl
                have hl2 : (0 : Int) < (l.length : Int) := by omega
                have hl3 : decide (0 < l.length) = true := decide_eq_true (by omega)
                have hj1 : (l.length : Int) - 1 = (j : Int) := by omega
                have hj2 : l.length - 1 = j := by omega
                have hj3 : (j : Int) < (l.length : Int) := by omega
                clear hj
                by_cases hyx : y = x
                · have HD := Lib.hid (HBAD.out (.inr (.inr (by rw [hlast, hyx]))))
                  have hyy : (y == x) = true := by simpa using hyx
                  clear hz hkn hrr hl0 HBAD HSTEP hlast hy hyx HC
                  go_wp2_with fail
                  go_ret3
                  exact .inr ⟨HD.out, rfl, HU.out.2⟩
                · have HNX := Lib.hid (HSTEP.out HKN.out.2 HKN.out.1 (by rw [hlast]; exact fun e => hyx (Option.some.inj e)))
                  have hyy : (y == x) = false := by simpa using hyx
                  clear hz hkn hrr hl0 HBAD HSTEP hlast hy hyx
                  have hqs := HQ.out.2
                  clear hpq
                  go_wp2_with fail
                  refine HC.out.mono ?_
                  rintro e w6 ⟨v6, rfl, hown6, b6⟩
                  have hb0 : Below w.heap.size w (wr.alloc (.cells #[.int .i64 x] 3)) := HU.out.2.alloc HU.out.2.size _
                  obtain ⟨⟨ta, tn, tc⟩, w7, hr7, own7, b7, hsz7⟩ := ints_append ((HU.out.1.alloc _).below1 b6) (hb0.trans (b6.mono hb0.size)) (hown6.slice intc_len) (Nat.le_trans hb0.size b6.size) (by rw [List.length_replicate]; omega)
                  have HX := Lib.hid (And.intro own7 b7)
                  have HTN := Lib.hid (own7.nlen intc_len).1
                  clear own7 b7 hown6 b6 hb0 HC hsz7
                  go_wp2_with (at_builtin; refine Lib.wpList_append_run _ rfl _ _ _ _ rfl _ _ rfl rfl _ _ hr7 ?_)
                  go_roundg (n - (l ++ List.replicate k x).length)
                  case measure => rw [HG.out, List.length_append, List.length_replicate]; have h1 := HKN.out; omega
                  case rel => exact ⟨⟨ta, tn, tc⟩, l ++ List.replicate k x, p + q + q2, rfl, rfl, by simp; omega, HTN.out, by rw [List.length_append, List.length_replicate]; have h1 := HKN.out.1; omega, HQ.out.2, HNX, HX⟩
    · have hll : l.length = n := by omega
      have hl1 : ¬ (l.length : Int) < (n : Int) := by omega
      have HD := Lib.hid (HT.out.done hll)
      clear hll hlt
      go_wp2_with fail
      go_ret3
      exact .inl ⟨l, p, _, HD.out, rfl, HU.out.1, HU.out.2⟩
section
variable {α : Type} {ea : α → List Value} {k : Nat} {e : TypeId} {base : Nat} {w : World}
theorem flatMap_set (hk : ∀ x, (ea x).length = k) {j : Nat} {u : Value} (hj : j < k) : ∀ (l : List α) (i : Nat) (x y : α), l[i]? = some x → ea y = (ea x).set j u → (l.set i y).flatMap ea = (l.flatMap ea).set (i * k + j) u
  | [], i, x, y, h, _ => by simp at h
  | a :: l, 0, x, y, h, hy => by
    simp at h
    subst h
    simp only [List.set_cons_zero, List.flatMap_cons, Nat.zero_mul, Nat.zero_add]
    rw [hy, List.set_append_left _ _ (by rw [hk]; exact hj)]
  | a :: l, i + 1, x, y, h, hy => by
    simp only [List.getElem?_cons_succ] at h
    have ih := flatMap_set hk hj l i x y h hy
    simp only [List.set_cons_succ, List.flatMap_cons]
    rw [ih, List.set_append_right _ _ (by rw [hk, Nat.add_mul]; omega)]
    congr 2
    rw [hk, Nat.add_mul]
    omega
theorem Own.setAt {g cap : Nat} {l : List α} (h : Own ea k e base w (.slice (some ⟨g, 0, none⟩) l.length cap) l) (hk : ∀ x, (ea x).length = k) {i j : Nat} {x y : α} {u : Value} (hx : l[i]? = some x) (hj : j < k) (hy : ea y = (ea x).set j u) :
    Own ea k e base (w.setCell ⟨g, i * k + j, none⟩ u) (.slice (some ⟨g, 0, none⟩) l.length cap) (l.set i y) := by
  have hf := flatMap_set hk hj l i x y hx hy
  obtain ⟨h1, h2⟩ := h
  refine ⟨by rw [hf, List.length_set, List.length_set]; exact h1, ?_⟩
  rcases h2 with ⟨e1, _⟩ | ⟨g', cap', cur, e1, hb, hg, hn, hm, hs, ht⟩
  · cases e1
  · cases e1
    refine .inr ⟨g, cap, cur.setIfInBounds (i * k + j) u, by rw [List.length_set], hb, Joins.block_setCell hg u, by rw [List.length_set]; exact hn, hm, by simpa using hs, ?_⟩
    rw [hf, ← ht, List.length_set, Array.toList_setIfInBounds, List.take_set]
theorem Own.cellAt {g cap : Nat} {l : List α} (h : Own ea k e base w (.slice (some ⟨g, 0, none⟩) l.length cap) l) (hk : ∀ x, (ea x).length = k) {i j : Nat} {x : α} {u : Value} (hx : l[i]? = some x) (hu : (ea x)[j]? = some u) :
    w.cell? ⟨g, i * k + j, none⟩ = some u := by
  obtain ⟨a, c, e1, _, _, h4⟩ := h.slice hk
  cases e1
  obtain ⟨b, o, e2, h5⟩ := h4 (by rintro rfl; simp at hx)
  cases e2
  have := h5 i x hx j u hu
  rwa [Nat.zero_add] at this
theorem Own.free {g cap : Nat} {l : List α} (h : Own ea k e base w (.slice (some ⟨g, 0, none⟩) l.length cap) l) (o : Nat) : w.frozen? ⟨g, o, none⟩ = false := by
  obtain ⟨cur, hc⟩ := h.tag (b := g) rfl
  exact Joins.unfrozen_of_block hc o
end
noncomputable def decD (n : Nat) (b : List UInt8) : Option (List Int × Nat) := (decR n none b).map fun p => (sumsB p.1, p.2)
def TdPost (w : World) (b : List UInt8) (n : Nat) (e : Ending) (w' : World) : Prop := (∃ l u v, decD n b = some (l, u) ∧ e = .returned (.tuple #[v, .int .i64 (u : Nat), .int .i64 0]) ∧ Own intc 1 3 w.heap.size w' v l ∧ Below w.heap.size w w') ∨
  (decD n b = none ∧ e = .returned (.tuple #[.slice none 0 0, .int .i64 0, .int .i64 41]) ∧ Below w.heap.size w w')
set_option maxRecDepth 20000 in
set_option maxHeartbeats 1000000 in
theorem takedeltas_any (v : Value) (b : List UInt8) (n : Nat) (w : World) (h : SliceIs u8c 1 w v b) (hn0 : n ≤ 65536) : Calls Tryz.prog 154 #[v, .int .i64 n] w fun e w' => TdPost w b n e w' := by
  have HC := Lib.hid (takeruns_any v b n w h hn0)
  clear h
  go_enter Tryz.func154, Tryz.ntmps154
  go_wp2_with fail
  refine HC.out.mono ?_
  rintro e w5 (⟨d, u, v5, hd, rfl, hown, hb⟩ | ⟨hd, rfl, hb⟩)
  · obtain ⟨⟨sa, sn, sc⟩, e5⟩ := hown.sl
    dsimp only at e5
    subst e5
    obtain rfl := (hown.nlen intc_len).1
    have hdl := (decR_iff n (by omega) none b d u).1 hd
    have hdn : d.length ≤ 65536 := by rcases hdl with ⟨h, _⟩ | ⟨_, rfl, _⟩; omega; simp
    have HD := Lib.hid (show decD n b = some (sumsB d, u) from by unfold decD; rw [hd]; rfl)
    have hsl := sumsB_len d
    have HSL := Lib.hid hsl
    have HU := Lib.hid (And.intro hown hb)
    clear hd hdl hown hb hsl HC hn0
    go_wp2_with fail
    go_loopg [20, 10] d.length (fun g kv iv wr => ∃ i : Nat, g = d.length - i ∧ kv = .int .i64 i ∧ i ≤ d.length ∧ Hid (Own intc 1 3 w.heap.size wr (.slice sa d.length sc) (mixP (sumsB d) d i) ∧ Below w.heap.size w wr))
    case atStart => exact ⟨0, rfl, rfl, Nat.zero_le _, by rw [mixP_zero]; exact HU⟩
    case round =>
      clear HU
      obtain ⟨i, hg, rfl, hil, HU⟩ := hrel
      have HG := Lib.hid hg
      clear hg
      by_cases hlt : i < d.length
      · have hi1 : (i : Int) < (d.length : Int) := by omega
        obtain ⟨x, hx⟩ : ∃ x, d[i]? = some x := ⟨_, List.getElem?_eq_getElem hlt⟩
        cases i with
        | zero =>
          have HN : Hid (Own intc 1 3 w.heap.size wr (.slice sa d.length sc) (mixP (sumsB d) d 1) ∧ Below w.heap.size w wr) := Lib.hid (by rw [← mixP_same HSL.out (sumsB_head hx) hx]; exact HU.out)
          clear hx HU
          go_wp2_with fail
          go_roundg (d.length - 1)
          case measure => rw [HG.out]; omega
          case rel => exact ⟨1, rfl, by simp, by omega, HN⟩
        | succ j =>
          obtain ⟨y, hy⟩ : ∃ y, (sumsB d)[j]? = some y := ⟨_, List.getElem?_eq_getElem (by rw [HSL.out]; omega)⟩
          have hs := sumsB_get hx hy
          obtain ⟨z, hz⟩ : ∃ z, z = wrapI (x + y) := ⟨_, rfl⟩
          rw [← hz] at hs
          have hml := mixP_len HSL.out (show j + 1 ≤ d.length by omega)
          have HO := HU.out.1
          rw [← hml] at HO
          obtain ⟨bb, hsa⟩ : ∃ bb, sa = some ⟨bb, 0, none⟩ := by
            rcases HO.eq_slice with ⟨e, h⟩ | ⟨g, c, e, _⟩
            · rw [h] at hml; simp at hml; omega
            · cases e; exact ⟨g, rfl⟩
          subst hsa
          have c1 : wr.cell? ⟨bb, j + 1, none⟩ = some (.int .i64 x) := by have := HO.cellAt intc_len (mixP_at HSL.out hx) (j := 0) rfl; rwa [Nat.mul_one, Nat.add_zero] at this
          have c0 : wr.cell? ⟨bb, j, none⟩ = some (.int .i64 y) := by have := HO.cellAt intc_len (mixP_before HSL.out hy (Nat.lt_succ_self j)) (j := 0) rfl; rwa [Nat.mul_one, Nat.add_zero] at this
          have f1 := HO.free (j + 1)
          have HN : Hid (Own intc 1 3 w.heap.size (wr.drew.setCell ⟨bb, j + 1, none⟩ (.int .i64 z)) (.slice (some ⟨bb, 0, none⟩) d.length sc) (mixP (sumsB d) d (j + 2)) ∧ Below w.heap.size w (wr.drew.setCell ⟨bb, j + 1, none⟩ (.int .i64 z))) := Lib.hid ⟨by
            have h1 := Own.setAt (show Own intc 1 3 w.heap.size wr.drew (.slice (some ⟨bb, 0, none⟩) (mixP (sumsB d) d (j + 1)).length sc) (mixP (sumsB d) d (j + 1)) from HO) intc_len (i := j + 1) (j := 0) (y := z) (mixP_at HSL.out hx) (by omega) rfl
            rw [hml, Nat.mul_one, Nat.add_zero, mixP_step HSL.out hs] at h1
            exact h1, (HU.out.2.drew).setCell (HU.out.1.blk bb rfl).1 _⟩
          have hzz : IntKind.i64.wrap (x + y) = z := by rw [hz, i64_wrap]
          have hj0 : IntKind.i64.wrap (j : Int) = (j : Int) := IntWalk.i64_in _ (by omega)
          have hj3 : ¬ ((j : Int) + 1 < 0) := by omega
          have hj4 : (0 : Int) ≤ (j : Int) + 1 := by omega
          have hj1 : IntKind.i64.wrap (((j + 1 : Nat) : Int) - 1) = (j : Int) := by rw [IntWalk.i64_in _ (by omega)]; omega
          have hj2 : (j : Int) < (d.length : Int) := by omega
          clear hx hy hs hz hml HO HU
          go_upto_region 6 with fail
          have hS0 : (fun W : World => W.cell? ⟨bb, j + 1, none⟩ = some (.int .i64 x) ∧ W.cell? ⟨bb, j, none⟩ = some (.int .i64 y)) wr.drew := ⟨c1, c0⟩
          have f2 : wr.drew.frozen? ⟨bb, j + 1, none⟩ = false := f1
          have c2 : wr.drew.cell? ⟨bb, j + 1, none⟩ = some (.int .i64 x) := c1
          clear c1 c0 f1
          refine wp_region_s (fun W : World => W.cell? ⟨bb, j + 1, none⟩ = some (.int .i64 x) ∧ W.cell? ⟨bb, j, none⟩ = some (.int .i64 y)) (fun i => i == 11) (by kernel_rfl) ?_
          generalize wr.drew = W1 at hS0 HN f2 c2 ⊢
          refine wpAnyS_take (i := 0) (d := some 25) rfl rfl rfl (by kernel_rfl) (by kernel_rfl) (by kernel_rfl) (by kernel_rfl) (fun _ _ _ h => h) (.inl ⟨by rfl, fun W hW => by obtain ⟨q0, q1⟩ := hW; go_simp; try rfl⟩) hS0 ?_
          try simp only [Act.put, List.setIfInBounds_toArray, List.set_cons_zero, List.set_cons_succ]
          refine wpAnyS_take (i := 1) (d := some 26) rfl rfl rfl (by kernel_rfl) (by kernel_rfl) (by kernel_rfl) (by kernel_rfl) (fun _ _ _ h => h) (.inl ⟨by rfl, fun W hW => by obtain ⟨q0, q1⟩ := hW; go_simp; try rfl⟩) hS0 ?_
          try simp only [Act.put, List.setIfInBounds_toArray, List.set_cons_zero, List.set_cons_succ]
          refine wpAnyS_take (i := 2) (d := some 27) (v := .pointer (some ⟨bb, j + 1, none⟩)) rfl rfl rfl (by kernel_rfl) (by kernel_rfl) (by kernel_rfl) (by kernel_rfl) (fun _ _ _ h => h) (.inl ⟨by rfl, fun W hW => by obtain ⟨q0, q1⟩ := hW; go_simp; try rfl⟩) hS0 ?_
          try simp only [Act.put, List.setIfInBounds_toArray, List.set_cons_zero, List.set_cons_succ]
          refine wpAnyS_take (i := 3) (d := some 28) (v := .int .i64 x) rfl rfl rfl (by kernel_rfl) (by kernel_rfl) (by kernel_rfl) (by kernel_rfl) (fun _ _ _ h => h) (.inl ⟨by rfl, fun W hW => by obtain ⟨q0, q1⟩ := hW; go_simp; try rfl⟩) hS0 ?_
          try simp only [Act.put, List.setIfInBounds_toArray, List.set_cons_zero, List.set_cons_succ]
          refine wpAnyS_take (i := 4) (d := some 29) rfl rfl rfl (by kernel_rfl) (by kernel_rfl) (by kernel_rfl) (by kernel_rfl) (fun _ _ _ h => h) (.inl ⟨by rfl, fun W hW => by obtain ⟨q0, q1⟩ := hW; go_simp; try rfl⟩) hS0 ?_
          try simp only [Act.put, List.setIfInBounds_toArray, List.set_cons_zero, List.set_cons_succ]
          refine wpAnyS_take (i := 5) (d := some 30) rfl rfl rfl (by kernel_rfl) (by kernel_rfl) (by kernel_rfl) (by kernel_rfl) (fun _ _ _ h => h) (.inl ⟨by rfl, fun W hW => by obtain ⟨q0, q1⟩ := hW; go_simp; try rfl⟩) hS0 ?_
          try simp only [Act.put, List.setIfInBounds_toArray, List.set_cons_zero, List.set_cons_succ]
          refine wpAnyS_take (i := 6) (d := some 31) (v := .int .i64 j) rfl rfl rfl (by kernel_rfl) (by kernel_rfl) (by kernel_rfl) (by kernel_rfl) (fun _ _ _ h => h) (.inl ⟨by rfl, fun W hW => by obtain ⟨q0, q1⟩ := hW; go_simp; try rfl⟩) hS0 ?_
          try simp only [Act.put, List.setIfInBounds_toArray, List.set_cons_zero, List.set_cons_succ]
          refine wpAnyS_take (i := 7) (d := some 32) (v := .pointer (some ⟨bb, j, none⟩)) rfl rfl rfl (by kernel_rfl) (by kernel_rfl) (by kernel_rfl) (by kernel_rfl) (fun _ _ _ h => h) (.inl ⟨by rfl, fun W hW => by obtain ⟨q0, q1⟩ := hW; go_simp; try rfl⟩) hS0 ?_
          try simp only [Act.put, List.setIfInBounds_toArray, List.set_cons_zero, List.set_cons_succ]
          refine wpAnyS_take (i := 8) (d := some 33) (v := .int .i64 y) rfl rfl rfl (by kernel_rfl) (by kernel_rfl) (by kernel_rfl) (by kernel_rfl) (fun _ _ _ h => h) (.inl ⟨by rfl, fun W hW => by obtain ⟨q0, q1⟩ := hW; go_simp; try rfl⟩) hS0 ?_
          try simp only [Act.put, List.setIfInBounds_toArray, List.set_cons_zero, List.set_cons_succ]
          refine wpAnyS_take (i := 9) (d := some 34) (v := .int .i64 z) rfl rfl rfl (by kernel_rfl) (by kernel_rfl) (by kernel_rfl) (by kernel_rfl) (fun _ _ _ h => h) (.inl ⟨by rfl, fun W hW => by obtain ⟨q0, q1⟩ := hW; go_simp; try rfl⟩) hS0 ?_
          try simp only [Act.put, List.setIfInBounds_toArray, List.set_cons_zero, List.set_cons_succ]
          refine wpAnyS_take (i := 10) (d := some 35) (v := .pointer (some ⟨bb, j + 1, none⟩)) rfl rfl rfl (by kernel_rfl) (by kernel_rfl) (by kernel_rfl) (by kernel_rfl) (fun _ _ _ h => h) (.inl ⟨by rfl, fun W hW => by obtain ⟨q0, q1⟩ := hW; go_simp; try rfl⟩) hS0 ?_
          try simp only [Act.put, List.setIfInBounds_toArray, List.set_cons_zero, List.set_cons_succ]
          refine wpAnyS_mute (i := 11) (d := none) (w' := W1.setCell ⟨bb, j + 1, none⟩ (.int .i64 z)) (by kernel_rfl) rfl rfl (by rfl) (by go_simp; try rfl) (fun h => by cases h) ?_
          try simp only [Act.put, List.setIfInBounds_toArray, List.set_cons_zero, List.set_cons_succ]
          refine wpAnyS_done (by kernel_rfl) ?_ _
          clear hS0 f2 c2
          generalize W1.setCell ⟨bb, j + 1, none⟩ (.int .i64 z) = W2 at HN ⊢
          go_wp2_with fail
          go_roundg (d.length - (j + 2))
          case measure => rw [HG.out]; omega
          case rel => exact ⟨j + 2, rfl, by simp; omega, by omega, HN⟩
      · obtain rfl : i = d.length := by omega
        have hi1 : ¬ (d.length : Int) < (d.length : Int) := by omega
        have HO : Hid (Own intc 1 3 w.heap.size wr (.slice sa d.length sc) (sumsB d) ∧ Below w.heap.size w wr) := Lib.hid (by have h := HU.out; rw [mixP_all HSL.out] at h; exact h)
        clear hlt HU
        go_wp2_with fail
        go_ret3
        exact .inl ⟨sumsB d, u, _, HD.out, rfl, HO.out.1, HO.out.2⟩
  · have HD := Lib.hid (show decD n b = none from by unfold decD; rw [hd]; rfl)
    have HB := Lib.hid hb
    clear hd hb
    go_wp2_with fail
    go_loopg [20, 10] 0 (fun g kv iv wr => g = 0 ∧ kv = .int .i64 0 ∧ wr = w5)
    case atStart => exact ⟨rfl, rfl, rfl⟩
    case round =>
      obtain ⟨rfl, rfl, rfl⟩ := hrel
      go_wp2_with fail
      go_ret3
      exact .inr ⟨HD.out, rfl, HB.out⟩
noncomputable def colD (n : Nat) (d : Bool) (b : List UInt8) : Option (List Int × Nat) := if d then decD n b else decR n none b
noncomputable def decCols (n : Nat) : Nat → List UInt8 → Option (List (List Int) × List UInt8)
  | 0, b => some ([], b)
  | c + 1, b => (decCols n c b).bind fun p => (colD n (dlt c) p.2).map fun q => (p.1 ++ [q.1], p.2.drop q.2)
theorem decCols_step {n c : Nat} {b r : List UInt8} {L : List (List Int)} {l : List Int} {u : Nat} (h : decCols n c b = some (L, r)) (k : colD n (dlt c) r = some (l, u)) : decCols n (c + 1) b = some (L ++ [l], r.drop u) := by
  simp [decCols, h, k]
theorem decCols_none {n c : Nat} {b : List UInt8} (h : decCols n c b = none) : ∀ d, decCols n (c + d) b = none
  | 0 => h
  | d + 1 => by
    show (decCols n (c + d) b).bind _ = none
    rw [decCols_none h d]
    rfl
theorem decCols_bad {n c : Nat} {b r : List UInt8} {L : List (List Int)} (h : decCols n c b = some (L, r)) (k : colD n (dlt c) r = none) {d : Nat} (hd : c < d) : decCols n d b = none := by
  have h1 : decCols n (c + 1) b = none := by simp [decCols, h, k]
  have := decCols_none h1 (d - (c + 1))
  rwa [show c + 1 + (d - (c + 1)) = d by omega] at this
theorem decR_facts {n : Nat} (hn : n ≤ 65536) {b : List UInt8} {l : List Int} {u : Nat} (h : decR n none b = some (l, u)) : l.length = n ∧ u ≤ b.length := by
  rcases (decR_iff n (by omega) none b l u).1 h with ⟨h1, _, _, h2, h3⟩ | ⟨h1, h2, h3⟩
  · exact ⟨h1, by rw [h3]; exact h2.length_le⟩
  · subst h2
    exact ⟨by rw [h1]; rfl, by omega⟩
theorem colD_facts {n : Nat} (hn : n ≤ 65536) {d : Bool} {b : List UInt8} {l : List Int} {u : Nat} (h : colD n d b = some (l, u)) : l.length = n ∧ u ≤ b.length := by
  unfold colD at h
  cases d with
  | false => exact decR_facts hn h
  | true =>
    simp only [if_true] at h
    unfold decD at h
    rw [Option.map_eq_some_iff] at h
    obtain ⟨⟨l0, u0⟩, h1, h2⟩ := h
    cases h2
    have := decR_facts hn h1
    exact ⟨by rw [sumsB_len]; exact this.1, this.2⟩
theorem decCols_len {n : Nat} (hn : n ≤ 65536) : ∀ {c : Nat} {b r : List UInt8} {L : List (List Int)}, decCols n c b = some (L, r) → L.length = c ∧ ∀ x ∈ L, x.length = n
  | 0, b, r, L, h => by
    cases h
    exact ⟨rfl, fun x hx => by simp at hx⟩
  | c + 1, b, r, L, h => by
    unfold decCols at h
    rw [Option.bind_eq_some_iff] at h
    obtain ⟨⟨L0, r0⟩, h1, h2⟩ := h
    rw [Option.map_eq_some_iff] at h2
    obtain ⟨⟨l, u⟩, h3, h4⟩ := h2
    cases h4
    have h5 := decCols_len hn h1
    have h6 := colD_facts hn h3
    refine ⟨by rw [List.length_append, h5.1]; rfl, fun x hx => ?_⟩
    rcases List.mem_append.1 hx with hx | hx
    · exact h5.2 x hx
    · rw [List.mem_singleton.1 hx]; exact h6.1
def colF (L : List (List Int)) (j c : Nat) : Int := (L.getD c []).getD j 0
def mixN (L : List (List Int)) (i : Nat) (ls : List OpD) : List OpD := ls.mapIdx fun j o => if j < i then o.withF (colF L j) else o
theorem mixN_len (L : List (List Int)) (i : Nat) (ls : List OpD) : (mixN L i ls).length = ls.length := by simp [mixN]
theorem mixN_zero (L : List (List Int)) (ls : List OpD) : mixN L 0 ls = ls := by
  apply List.ext_getElem?
  intro j
  simp [mixN]
theorem mixN_at (L : List (List Int)) (i : Nat) {ls : List OpD} {x : OpD} (h : ls[i]? = some x) : (mixN L i ls)[i]? = some x := by simp [mixN, h]
theorem mixN_succ (L : List (List Int)) (i : Nat) {ls : List OpD} {x : OpD} (h : ls[i]? = some x) : mixN L (i + 1) ls = (mixN L i ls).set i (x.withF (colF L i)) := by
  apply List.ext_getElem?
  intro j
  have hi := (List.getElem?_eq_some_iff.1 h).1
  by_cases e : j = i
  · subst e
    rw [List.getElem?_set_self (by rw [mixN_len]; exact hi)]
    simp [mixN, h]
  · rw [List.getElem?_set_ne (Ne.symm e)]
    simp only [mixN, List.getElem?_mapIdx]
    congr 1
    funext o
    by_cases h1 : j < i
    · rw [if_pos h1, if_pos (by omega)]
    · rw [if_neg h1, if_neg (by omega)]
theorem Own.putOp {base g n cap i : Nat} {W W' : World} {l : List OpD} {x : OpD} {f : Nat → Int} (h : Own OpD.cells 26 68 base W (.slice (some ⟨g, 0, none⟩) n cap) l) (hx : l[i]? = some x) (hA : At g (i * 26) x f W') (hR : Rst g (i * 26) W W') :
    Own OpD.cells 26 68 base W' (.slice (some ⟨g, 0, none⟩) n cap) (l.set i (x.withF f)) := by
  obtain ⟨h1, h2⟩ := h
  have hi := (List.getElem?_eq_some_iff.1 hx).1
  rcases h2 with ⟨e1, _⟩ | ⟨g', cap', cur, e1, hb, hg, hn, hm, hs, ht⟩
  · cases e1
  · cases e1
    obtain ⟨cs', k1, k2, k3⟩ := hR cur _ hg
    refine ⟨by rw [length_flatMap_k OpD.len], .inr ⟨g, cap, cs', by rw [List.length_set], hb, k1, by rw [List.length_set]; exact hn, hm, by rw [k2]; exact hs, ?_⟩⟩
    apply List.ext_getElem?
    intro q
    rw [List.length_set]
    by_cases hq : q < l.length * 26
    · rw [List.getElem?_take_of_lt hq, Array.getElem?_toList]
      have hdm : q / 26 * 26 + q % 26 = q := by omega
      by_cases e : q / 26 = i
      · have hset : (l.set i (x.withF f))[i]? = some (x.withF f) := List.getElem?_set_self hi
        obtain ⟨u, hu⟩ : ∃ u, (x.withF f).cells[q % 26]? = some u := ⟨_, List.getElem?_eq_getElem (by rw [OpD.len]; omega)⟩
        have h5 := getElem?_flatMap_k OpD.len _ i _ hset _ _ hu
        have h6 := hA.cells _ _ hu
        unfold World.cell? at h6
        rw [k1] at h6
        rw [← e, hdm] at h5 h6
        rw [← e] 
        rw [h5]
        exact h6
      · obtain ⟨y, hy⟩ : ∃ y, l[q / 26]? = some y := ⟨_, List.getElem?_eq_getElem (by omega)⟩
        have hset : (l.set i (x.withF f))[q / 26]? = some y := by rw [List.getElem?_set_ne (Ne.symm e)]; exact hy
        obtain ⟨u, hu⟩ : ∃ u, y.cells[q % 26]? = some u := ⟨_, List.getElem?_eq_getElem (by rw [OpD.len]; omega)⟩
        have h5 := getElem?_flatMap_k OpD.len _ _ _ hset _ _ hu
        have h6 := getElem?_flatMap_k OpD.len _ _ _ hy _ _ hu
        rw [hdm] at h5 h6
        rw [h5, k3 q (by omega), ← Array.getElem?_toList, ← List.getElem?_take_of_lt hq, ht, h6]
    · rw [List.getElem?_eq_none (by rw [List.length_take]; omega), List.getElem?_eq_none (by rw [length_flatMap_k OpD.len, List.length_set]; omega)]
structure TKS (w0 : World) (T : Nat) (W : World) (tb : Value) (r : List UInt8) (tl : Value) (ls : List OpD) : Prop where
  cell : W.heap[T]? = some (.cells #[tb, tl] 90 (0, 0))
  byt : SliceIs u8c 1 w0 tb r
  own : Own OpD.cells 26 68 w0.heap.size W tl ls
  bel : Below w0.heap.size w0 W
  new : w0.heap.size ≤ T
  flt : W.heap[T + 1]? = some (.cells #[.int .i64 0] 91 (0, 0))
def Kp (w0 : World) (T : Nat) (W : World) : Prop := Below w0.heap.size w0 W ∧ W.heap[T + 1]? = some (.cells #[.int .i64 0] 91 (0, 0))
theorem TKS.kp {w0 : World} {T : Nat} {W : World} {tb tl : Value} {r : List UInt8} {ls : List OpD} (h : TKS w0 T W tb r tl ls) : Kp w0 T W := ⟨h.bel, h.flt⟩
theorem TKS.fltKeep {w0 : World} {T : Nat} {W W' : World} {tb tl : Value} {r : List UInt8} {ls : List OpD} {S : Nat → Prop} (h : TKS w0 T W tb r tl ls) (hx : Ext S W W') (hS : ¬ S (T + 1)) : W'.heap[T + 1]? = some (.cells #[.int .i64 0] 91 (0, 0)) := (hx.block _ (Array.getElem?_eq_some_iff.1 h.flt).1 hS).trans h.flt
theorem TKS.ext {w0 : World} {T : Nat} {W W' : World} {tb tl : Value} {r : List UInt8} {ls : List OpD} {S : Nat → Prop} (h : TKS w0 T W tb r tl ls) (hx : Ext S W W') (hT : ¬ S T) (hl : ∀ k, tl.ownBlock = some k → ¬ S k) (hS : ∀ k, k < w0.heap.size → ¬ S k) (hF : ¬ S (T + 1)) : TKS w0 T W' tb r tl ls :=
  ⟨(hx.block _ (Array.getElem?_eq_some_iff.1 h.cell).1 hT).trans h.cell, h.byt, h.own.ext hx hl, Ext.new h.bel hx (fun i hi _ e => hS i hi e) h.bel.size, h.new, h.fltKeep hx hF⟩
theorem TKS.below {w0 : World} {T : Nat} {W W' : World} {tb tl : Value} {r : List UInt8} {ls : List OpD} (h : TKS w0 T W tb r tl ls) (hb : Below W.heap.size W W') : TKS w0 T W' tb r tl ls :=
  h.ext (Ext.of_below (S := fun _ => False) hb) id (fun _ _ => id) (fun _ _ => id) id
theorem TKS.bytes {w0 : World} {T : Nat} {W : World} {tb tl : Value} {r : List UInt8} {ls : List OpD} (h : TKS w0 T W tb r tl ls) : SliceIs u8c 1 W tb r := h.byt.below h.bel
end Go.Proofs.YtgmdimbiipemhaaGreatDoor
