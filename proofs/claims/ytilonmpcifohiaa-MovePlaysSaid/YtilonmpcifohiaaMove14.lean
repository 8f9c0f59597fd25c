/- Layer 14: Move. -/
import Derived.Test.YtilonmpcifohiaaLoop14
import Derived.Test.YtilonmpcifohiaaHeld
namespace Go.Proofs.Ytilonmpcifohiaa
open Go.RowKit
set_option linter.unusedSimpArgs false
set_option linter.unusedVariables false
attribute [local go_sem] MapIs.alloc MapIs.drew MapIs.setCell

def goodB (a b u : St) : Bool := rightB a && rightB b && (decide (u = ⟨0, 0⟩) || rightB u)

theorem TreeIs.ext {S : Nat → Prop} {base : Nat} {w w' : World} {t mh : Nat} {v : Value} {l : List Mv} {hl : List (St × Ch)} (h : TreeIs base w t mh v l hl) (hx : Ext S w w')
    (hn : ∀ k, (Foot t mh v k ∨ ∃ c, BoxC w k c) → ¬ S k) : TreeIs base w' t mh v l hl :=
  ⟨(hx.block t (Array.getElem?_eq_some_iff.1 h.blk).1 (hn t (.inl (.inl rfl)))).trans h.blk, h.lo, h.lom, h.own.ext hx (fun b hb => hn b (.inl (.inr (.inr hb)))), h.map.ext hx (hn mh (.inl (.inr (.inl rfl)))), h.agree, h.rising,
    fun i m hi => (h.noted i m hi).ext hx (fun b c hb => hn b (.inr ⟨c, hb⟩))⟩
theorem TreeIs.below {base : Nat} {w w' : World} {t mh : Nat} {v : Value} {l : List Mv} {hl : List (St × Ch)} (h : TreeIs base w t mh v l hl) (hb : Below w.heap.size w w') : TreeIs base w' t mh v l hl :=
  h.ext (Ext.of_below (S := fun _ => False) hb) (fun _ _ => id)

theorem find_in {l : List Mv} {a : St} {i : Nat} {is : Bool} (hr : Rising l) (h2 : ∀ (k : Nat) m, l[k]? = some m → (k < i ↔ stLt m.at_ a)) (h3 : is = true ↔ ∃ m, l[i]? = some m ∧ m.at_ = a) (hin : ∃ m ∈ l, m.at_ = a) : is = true := by
  obtain ⟨m, hm, rfl⟩ := hin
  obtain ⟨k, hk⟩ := List.getElem?_of_mem hm
  refine h3.2 ⟨m, ?_, rfl⟩
  have h4 : ¬ k < i := fun e => stLt_irrefl _ ((h2 k m hk).1 e)
  by_cases hki : i < k
  · have hl := (List.getElem?_eq_some_iff.1 hk).1
    have hi : l[i]? = some l[i] := List.getElem?_eq_getElem (by omega)
    have := (h2 i _ hi).2 (hr.at hki hi hk)
    omega
  · have : k = i := by omega
    rw [← this]; exact hk
theorem find_out {l : List Mv} {a : St} {i : Nat} {is : Bool} (h3 : is = true ↔ ∃ m, l[i]? = some m ∧ m.at_ = a) (hin : ∀ m ∈ l, m.at_ ≠ a) : is = false := by
  cases is with
  | false => rfl
  | true =>
    obtain ⟨m, h1, h2⟩ := h3.1 rfl
    exact absurd h2 (hin m (List.mem_of_getElem? h1))
theorem cell_of {w : World} {t : Nat} {x y : Value} {T : TypeId} (h : w.heap[t]? = some (.cells #[x, y] T (0, 0))) : w.cell? ⟨t, 0, none⟩ = some x := by simp [World.cell?, h]
theorem cell_of1 {w : World} {t : Nat} {x y : Value} {T : TypeId} (h : w.heap[t]? = some (.cells #[x, y] T (0, 0))) : w.cell? ⟨t, 1, none⟩ = some y := by simp [World.cell?, h]
theorem TreeIs.ne {base : Nat} {w : World} {t mh : Nat} {v : Value} {l : List Mv} {hl : List (St × Ch)} (h : TreeIs base w t mh v l hl) :
    t ≠ mh ∧ (∀ b, v.ownBlock = some b → b ≠ mh ∧ b ≠ t) ∧ ∀ b c, BoxC w b c → b ≠ mh ∧ b ≠ t ∧ v.ownBlock ≠ some b := by
  obtain ⟨_, es, cl, hm, _⟩ := h.map
  have ht := h.blk
  refine ⟨fun e => ?_, fun b hb => ⟨fun e => ?_, fun e => ?_⟩, fun b c hb => ⟨fun e => ?_, fun e => ?_, fun e => ?_⟩⟩
  · rw [e, hm] at ht; cases ht
  · obtain ⟨cur, hc⟩ := h.own.tag hb
    rw [e, hm] at hc; cases hc
  · obtain ⟨cur, hc⟩ := h.own.tag hb
    rw [e, ht] at hc; cases hc
  · have hb := show w.heap[b]? = _ from hb
    rw [e, hm] at hb; cases hb
  · have hb := show w.heap[b]? = _ from hb
    rw [e, ht] at hb; cases hb
  · obtain ⟨cur, hc⟩ := h.own.tag e
    have hb := show w.heap[b]? = _ from hb
    rw [hc] at hb; cases hb
theorem frozen_alloc {w : World} {b o : Nat} {v : Value} (h : w.frozen? ⟨b, o, none⟩ = false) (x : Obj) (hc : w.cell? ⟨b, o, none⟩ = some v) : (w.alloc x).frozen? ⟨b, o, none⟩ = false :=
  (World.frozen?_of_block (w := w) (Below.heap_alloc _ _ _ (cell_lt hc))).trans h
theorem right_n {u : St} (h : rightB u = true) : ¬ u.n = 0 := by
  simp only [rightB, decide_eq_true_eq] at h
  omega


set_option maxRecDepth 100000 in
set_option maxHeartbeats 2000000 in
theorem move_bad1 (t : Nat) (a b u : St) (key : ByteArray) (w : World) (h1 : rightB a = false) :
    Calls Try.prog 14 #[.pointer (some ⟨t, 0, none⟩), .agg #[.int .i64 a.n, .int .i64 a.r], .agg #[.int .i64 b.n, .int .i64 b.r], .agg #[.int .i64 u.n, .int .i64 u.r], .string key] w
      fun e w' => e = .returned (.int .i64 1) ∧ Below w.heap.size w w' := by
  have h1' : rightB ⟨a.n, a.r⟩ = false := h1
  have hb0 : Below w.heap.size w (((w.alloc (.cells #[.int .i64 a.n, .int .i64 a.r] 24)).alloc (.cells #[.int .i64 b.n, .int .i64 b.r] 24)).alloc (.cells #[.int .i64 u.n, .int .i64 u.r] 24)) := (((Below.refl _ _).alloc (Nat.le_refl _) _).alloc (by simp) _).alloc (by simp <;> omega) _
  have r0 : (((w.alloc (.cells #[.int .i64 a.n, .int .i64 a.r] 24)).alloc (.cells #[.int .i64 b.n, .int .i64 b.r] 24)).alloc (.cells #[.int .i64 u.n, .int .i64 u.r] 24)).cell? ⟨w.heap.size, 0, none⟩ = some (.int .i64 a.n) := by go_simp
  have r1 : (((w.alloc (.cells #[.int .i64 a.n, .int .i64 a.r] 24)).alloc (.cells #[.int .i64 b.n, .int .i64 b.r] 24)).alloc (.cells #[.int .i64 u.n, .int .i64 u.r] 24)).cell? ⟨w.heap.size, 1, none⟩ = some (.int .i64 a.r) := by go_simp
  have r2 : (((w.alloc (.cells #[.int .i64 a.n, .int .i64 a.r] 24)).alloc (.cells #[.int .i64 b.n, .int .i64 b.r] 24)).alloc (.cells #[.int .i64 u.n, .int .i64 u.r] 24)).cell? ⟨w.heap.size + 1, 0, none⟩ = some (.int .i64 b.n) := by go_simp
  have r3 : (((w.alloc (.cells #[.int .i64 a.n, .int .i64 a.r] 24)).alloc (.cells #[.int .i64 b.n, .int .i64 b.r] 24)).alloc (.cells #[.int .i64 u.n, .int .i64 u.r] 24)).cell? ⟨w.heap.size + 1, 1, none⟩ = some (.int .i64 b.r) := by go_simp
  have r4 : (((w.alloc (.cells #[.int .i64 a.n, .int .i64 a.r] 24)).alloc (.cells #[.int .i64 b.n, .int .i64 b.r] 24)).alloc (.cells #[.int .i64 u.n, .int .i64 u.r] 24)).cell? ⟨w.heap.size + 1 + 1, 0, none⟩ = some (.int .i64 u.n) := by go_simp
  have r5 : (((w.alloc (.cells #[.int .i64 a.n, .int .i64 a.r] 24)).alloc (.cells #[.int .i64 b.n, .int .i64 b.r] 24)).alloc (.cells #[.int .i64 u.n, .int .i64 u.r] 24)).cell? ⟨w.heap.size + 1 + 1, 1, none⟩ = some (.int .i64 u.r) := by go_simp
  go_enter Try.func14, Try.ntmps14
  go_wp2_with fail
  generalize ((w.alloc (.cells #[.int .i64 a.n, .int .i64 a.r] 24)).alloc (.cells #[.int .i64 b.n, .int .i64 b.r] 24)).alloc (.cells #[.int .i64 u.n, .int .i64 u.r] 24) = W3 at *
  refine (right_any _ _ _).mono ?_
  rintro e w1 ⟨rfl, c1⟩
  rw [h1']
  replace r0 := keepB c1 r0
  replace r1 := keepB c1 r1
  replace r2 := keepB c1 r2
  replace r3 := keepB c1 r3
  replace r4 := keepB c1 r4
  replace r5 := keepB c1 r5
  replace hb0 := hb0.trans (c1.mono hb0.size)
  clear c1
  go_wp2_with fail
  go_ret
  exact ⟨rfl, hb0⟩

set_option maxRecDepth 100000 in
set_option maxHeartbeats 2000000 in
theorem move_bad2 (t : Nat) (a b u : St) (key : ByteArray) (w : World) (h1 : rightB a = true) (h2 : rightB b = false) :
    Calls Try.prog 14 #[.pointer (some ⟨t, 0, none⟩), .agg #[.int .i64 a.n, .int .i64 a.r], .agg #[.int .i64 b.n, .int .i64 b.r], .agg #[.int .i64 u.n, .int .i64 u.r], .string key] w
      fun e w' => e = .returned (.int .i64 1) ∧ Below w.heap.size w w' := by
  have h1' : rightB ⟨a.n, a.r⟩ = true := h1
  have h2' : rightB ⟨b.n, b.r⟩ = false := h2
  have hb0 : Below w.heap.size w (((w.alloc (.cells #[.int .i64 a.n, .int .i64 a.r] 24)).alloc (.cells #[.int .i64 b.n, .int .i64 b.r] 24)).alloc (.cells #[.int .i64 u.n, .int .i64 u.r] 24)) := (((Below.refl _ _).alloc (Nat.le_refl _) _).alloc (by simp) _).alloc (by simp <;> omega) _
  have r0 : (((w.alloc (.cells #[.int .i64 a.n, .int .i64 a.r] 24)).alloc (.cells #[.int .i64 b.n, .int .i64 b.r] 24)).alloc (.cells #[.int .i64 u.n, .int .i64 u.r] 24)).cell? ⟨w.heap.size, 0, none⟩ = some (.int .i64 a.n) := by go_simp
  have r1 : (((w.alloc (.cells #[.int .i64 a.n, .int .i64 a.r] 24)).alloc (.cells #[.int .i64 b.n, .int .i64 b.r] 24)).alloc (.cells #[.int .i64 u.n, .int .i64 u.r] 24)).cell? ⟨w.heap.size, 1, none⟩ = some (.int .i64 a.r) := by go_simp
  have r2 : (((w.alloc (.cells #[.int .i64 a.n, .int .i64 a.r] 24)).alloc (.cells #[.int .i64 b.n, .int .i64 b.r] 24)).alloc (.cells #[.int .i64 u.n, .int .i64 u.r] 24)).cell? ⟨w.heap.size + 1, 0, none⟩ = some (.int .i64 b.n) := by go_simp
  have r3 : (((w.alloc (.cells #[.int .i64 a.n, .int .i64 a.r] 24)).alloc (.cells #[.int .i64 b.n, .int .i64 b.r] 24)).alloc (.cells #[.int .i64 u.n, .int .i64 u.r] 24)).cell? ⟨w.heap.size + 1, 1, none⟩ = some (.int .i64 b.r) := by go_simp
  have r4 : (((w.alloc (.cells #[.int .i64 a.n, .int .i64 a.r] 24)).alloc (.cells #[.int .i64 b.n, .int .i64 b.r] 24)).alloc (.cells #[.int .i64 u.n, .int .i64 u.r] 24)).cell? ⟨w.heap.size + 1 + 1, 0, none⟩ = some (.int .i64 u.n) := by go_simp
  have r5 : (((w.alloc (.cells #[.int .i64 a.n, .int .i64 a.r] 24)).alloc (.cells #[.int .i64 b.n, .int .i64 b.r] 24)).alloc (.cells #[.int .i64 u.n, .int .i64 u.r] 24)).cell? ⟨w.heap.size + 1 + 1, 1, none⟩ = some (.int .i64 u.r) := by go_simp
  go_enter Try.func14, Try.ntmps14
  go_wp2_with fail
  generalize ((w.alloc (.cells #[.int .i64 a.n, .int .i64 a.r] 24)).alloc (.cells #[.int .i64 b.n, .int .i64 b.r] 24)).alloc (.cells #[.int .i64 u.n, .int .i64 u.r] 24) = W3 at *
  refine (right_any _ _ _).mono ?_
  rintro e w1 ⟨rfl, c1⟩
  rw [h1']
  replace r0 := keepB c1 r0
  replace r1 := keepB c1 r1
  replace r2 := keepB c1 r2
  replace r3 := keepB c1 r3
  replace r4 := keepB c1 r4
  replace r5 := keepB c1 r5
  replace hb0 := hb0.trans (c1.mono hb0.size)
  clear c1
  go_wp2_with fail
  refine (right_any _ _ _).mono ?_
  rintro e w2 ⟨rfl, c2⟩
  rw [h2']
  replace r0 := keepB c2 r0
  replace r1 := keepB c2 r1
  replace r2 := keepB c2 r2
  replace r3 := keepB c2 r3
  replace r4 := keepB c2 r4
  replace r5 := keepB c2 r5
  replace hb0 := hb0.trans (c2.mono hb0.size)
  clear c2
  go_wp2_with fail
  go_ret
  exact ⟨rfl, hb0⟩

set_option maxRecDepth 100000 in
set_option maxHeartbeats 2000000 in
theorem move_bad3 (t : Nat) (a b u : St) (key : ByteArray) (w : World) (h1 : rightB a = true) (h2 : rightB b = true) (h3 : rightB u = false) (hu : u ≠ ⟨0, 0⟩) :
    Calls Try.prog 14 #[.pointer (some ⟨t, 0, none⟩), .agg #[.int .i64 a.n, .int .i64 a.r], .agg #[.int .i64 b.n, .int .i64 b.r], .agg #[.int .i64 u.n, .int .i64 u.r], .string key] w
      fun e w' => e = .returned (.int .i64 1) ∧ Below w.heap.size w w' := by
  have h1' : rightB ⟨a.n, a.r⟩ = true := h1
  have h2' : rightB ⟨b.n, b.r⟩ = true := h2
  have h3' : rightB ⟨u.n, u.r⟩ = false := h3
  by_cases hn : u.n = 0
  · obtain ⟨un, ur⟩ := u
    simp only at hn h3' hu
    subst hn
    have hr : ¬ ur = 0 := fun e => hu (by rw [e])
    have hb0 : Below w.heap.size w (((w.alloc (.cells #[.int .i64 a.n, .int .i64 a.r] 24)).alloc (.cells #[.int .i64 b.n, .int .i64 b.r] 24)).alloc (.cells #[.int .i64 0, .int .i64 ur] 24)) := (((Below.refl _ _).alloc (Nat.le_refl _) _).alloc (by simp) _).alloc (by simp <;> omega) _
    have r0 : (((w.alloc (.cells #[.int .i64 a.n, .int .i64 a.r] 24)).alloc (.cells #[.int .i64 b.n, .int .i64 b.r] 24)).alloc (.cells #[.int .i64 0, .int .i64 ur] 24)).cell? ⟨w.heap.size, 0, none⟩ = some (.int .i64 a.n) := by go_simp
    have r1 : (((w.alloc (.cells #[.int .i64 a.n, .int .i64 a.r] 24)).alloc (.cells #[.int .i64 b.n, .int .i64 b.r] 24)).alloc (.cells #[.int .i64 0, .int .i64 ur] 24)).cell? ⟨w.heap.size, 1, none⟩ = some (.int .i64 a.r) := by go_simp
    have r2 : (((w.alloc (.cells #[.int .i64 a.n, .int .i64 a.r] 24)).alloc (.cells #[.int .i64 b.n, .int .i64 b.r] 24)).alloc (.cells #[.int .i64 0, .int .i64 ur] 24)).cell? ⟨w.heap.size + 1, 0, none⟩ = some (.int .i64 b.n) := by go_simp
    have r3 : (((w.alloc (.cells #[.int .i64 a.n, .int .i64 a.r] 24)).alloc (.cells #[.int .i64 b.n, .int .i64 b.r] 24)).alloc (.cells #[.int .i64 0, .int .i64 ur] 24)).cell? ⟨w.heap.size + 1, 1, none⟩ = some (.int .i64 b.r) := by go_simp
    have r4 : (((w.alloc (.cells #[.int .i64 a.n, .int .i64 a.r] 24)).alloc (.cells #[.int .i64 b.n, .int .i64 b.r] 24)).alloc (.cells #[.int .i64 0, .int .i64 ur] 24)).cell? ⟨w.heap.size + 1 + 1, 0, none⟩ = some (.int .i64 0) := by go_simp
    have r5 : (((w.alloc (.cells #[.int .i64 a.n, .int .i64 a.r] 24)).alloc (.cells #[.int .i64 b.n, .int .i64 b.r] 24)).alloc (.cells #[.int .i64 0, .int .i64 ur] 24)).cell? ⟨w.heap.size + 1 + 1, 1, none⟩ = some (.int .i64 ur) := by go_simp
    go_enter Try.func14, Try.ntmps14
    go_wp2_with fail
    generalize ((w.alloc (.cells #[.int .i64 a.n, .int .i64 a.r] 24)).alloc (.cells #[.int .i64 b.n, .int .i64 b.r] 24)).alloc (.cells #[.int .i64 0, .int .i64 ur] 24) = W3 at *
    refine (right_any _ _ _).mono ?_
    rintro e w1 ⟨rfl, c1⟩
    rw [h1']
    replace r0 := keepB c1 r0
    replace r1 := keepB c1 r1
    replace r2 := keepB c1 r2
    replace r3 := keepB c1 r3
    replace r4 := keepB c1 r4
    replace r5 := keepB c1 r5
    replace hb0 := hb0.trans (c1.mono hb0.size)
    clear c1
    go_wp2_with fail
    refine (right_any _ _ _).mono ?_
    rintro e w2 ⟨rfl, c2⟩
    rw [h2']
    replace r0 := keepB c2 r0
    replace r1 := keepB c2 r1
    replace r2 := keepB c2 r2
    replace r3 := keepB c2 r3
    replace r4 := keepB c2 r4
    replace r5 := keepB c2 r5
    replace hb0 := hb0.trans (c2.mono hb0.size)
    clear c2
    go_wp2_with fail
    refine (right_any _ _ _).mono ?_
    rintro e w3 ⟨rfl, c3⟩
    rw [h3']
    replace r0 := keepB c3 r0
    replace r1 := keepB c3 r1
    replace r2 := keepB c3 r2
    replace r3 := keepB c3 r3
    replace r4 := keepB c3 r4
    replace r5 := keepB c3 r5
    replace hb0 := hb0.trans (c3.mono hb0.size)
    clear c3
    go_wp2_with fail
    go_ret
    exact ⟨rfl, hb0⟩
  · skip
    have hb0 : Below w.heap.size w (((w.alloc (.cells #[.int .i64 a.n, .int .i64 a.r] 24)).alloc (.cells #[.int .i64 b.n, .int .i64 b.r] 24)).alloc (.cells #[.int .i64 u.n, .int .i64 u.r] 24)) := (((Below.refl _ _).alloc (Nat.le_refl _) _).alloc (by simp) _).alloc (by simp <;> omega) _
    have r0 : (((w.alloc (.cells #[.int .i64 a.n, .int .i64 a.r] 24)).alloc (.cells #[.int .i64 b.n, .int .i64 b.r] 24)).alloc (.cells #[.int .i64 u.n, .int .i64 u.r] 24)).cell? ⟨w.heap.size, 0, none⟩ = some (.int .i64 a.n) := by go_simp
    have r1 : (((w.alloc (.cells #[.int .i64 a.n, .int .i64 a.r] 24)).alloc (.cells #[.int .i64 b.n, .int .i64 b.r] 24)).alloc (.cells #[.int .i64 u.n, .int .i64 u.r] 24)).cell? ⟨w.heap.size, 1, none⟩ = some (.int .i64 a.r) := by go_simp
    have r2 : (((w.alloc (.cells #[.int .i64 a.n, .int .i64 a.r] 24)).alloc (.cells #[.int .i64 b.n, .int .i64 b.r] 24)).alloc (.cells #[.int .i64 u.n, .int .i64 u.r] 24)).cell? ⟨w.heap.size + 1, 0, none⟩ = some (.int .i64 b.n) := by go_simp
    have r3 : (((w.alloc (.cells #[.int .i64 a.n, .int .i64 a.r] 24)).alloc (.cells #[.int .i64 b.n, .int .i64 b.r] 24)).alloc (.cells #[.int .i64 u.n, .int .i64 u.r] 24)).cell? ⟨w.heap.size + 1, 1, none⟩ = some (.int .i64 b.r) := by go_simp
    have r4 : (((w.alloc (.cells #[.int .i64 a.n, .int .i64 a.r] 24)).alloc (.cells #[.int .i64 b.n, .int .i64 b.r] 24)).alloc (.cells #[.int .i64 u.n, .int .i64 u.r] 24)).cell? ⟨w.heap.size + 1 + 1, 0, none⟩ = some (.int .i64 u.n) := by go_simp
    have r5 : (((w.alloc (.cells #[.int .i64 a.n, .int .i64 a.r] 24)).alloc (.cells #[.int .i64 b.n, .int .i64 b.r] 24)).alloc (.cells #[.int .i64 u.n, .int .i64 u.r] 24)).cell? ⟨w.heap.size + 1 + 1, 1, none⟩ = some (.int .i64 u.r) := by go_simp
    go_enter Try.func14, Try.ntmps14
    go_wp2_with fail
    generalize ((w.alloc (.cells #[.int .i64 a.n, .int .i64 a.r] 24)).alloc (.cells #[.int .i64 b.n, .int .i64 b.r] 24)).alloc (.cells #[.int .i64 u.n, .int .i64 u.r] 24) = W3 at *
    refine (right_any _ _ _).mono ?_
    rintro e w1 ⟨rfl, c1⟩
    rw [h1']
    replace r0 := keepB c1 r0
    replace r1 := keepB c1 r1
    replace r2 := keepB c1 r2
    replace r3 := keepB c1 r3
    replace r4 := keepB c1 r4
    replace r5 := keepB c1 r5
    replace hb0 := hb0.trans (c1.mono hb0.size)
    clear c1
    go_wp2_with fail
    refine (right_any _ _ _).mono ?_
    rintro e w2 ⟨rfl, c2⟩
    rw [h2']
    replace r0 := keepB c2 r0
    replace r1 := keepB c2 r1
    replace r2 := keepB c2 r2
    replace r3 := keepB c2 r3
    replace r4 := keepB c2 r4
    replace r5 := keepB c2 r5
    replace hb0 := hb0.trans (c2.mono hb0.size)
    clear c2
    go_wp2_with fail
    refine (right_any _ _ _).mono ?_
    rintro e w3 ⟨rfl, c3⟩
    rw [h3']
    replace r0 := keepB c3 r0
    replace r1 := keepB c3 r1
    replace r2 := keepB c3 r2
    replace r3 := keepB c3 r3
    replace r4 := keepB c3 r4
    replace r5 := keepB c3 r5
    replace hb0 := hb0.trans (c3.mono hb0.size)
    clear c3
    go_wp2_with fail
    go_ret
    exact ⟨rfl, hb0⟩

set_option maxRecDepth 100000 in
set_option maxHeartbeats 2000000 in
theorem move_twice (t : Nat) (a b u : St) (key : ByteArray) (w : World) (h1 : rightB a = true) (h2 : rightB b = true) (h3 : u = ⟨0, 0⟩ ∨ rightB u = true) {base mh : Nat} {v : Value} {l : List Mv} {hl : List (St × Ch)} (hT : TreeIs base w t mh v l hl) (hsz : l.length ≤ 1000) (hin : ∃ m ∈ l, m.at_ = a) :
    Calls Try.prog 14 #[.pointer (some ⟨t, 0, none⟩), .agg #[.int .i64 a.n, .int .i64 a.r], .agg #[.int .i64 b.n, .int .i64 b.r], .agg #[.int .i64 u.n, .int .i64 u.r], .string key] w
      fun e w' => e = .returned (.int .i64 141) ∧ Below w.heap.size w w' := by
  have h1' : rightB ⟨a.n, a.r⟩ = true := h1
  have h2' : rightB ⟨b.n, b.r⟩ = true := h2
  rcases h3 with h3 | h3
  · subst h3
    have : True := trivial
    have hb0 : Below w.heap.size w (((w.alloc (.cells #[.int .i64 a.n, .int .i64 a.r] 24)).alloc (.cells #[.int .i64 b.n, .int .i64 b.r] 24)).alloc (.cells #[.int .i64 0, .int .i64 0] 24)) := (((Below.refl _ _).alloc (Nat.le_refl _) _).alloc (by simp) _).alloc (by simp <;> omega) _
    have r0 : (((w.alloc (.cells #[.int .i64 a.n, .int .i64 a.r] 24)).alloc (.cells #[.int .i64 b.n, .int .i64 b.r] 24)).alloc (.cells #[.int .i64 0, .int .i64 0] 24)).cell? ⟨w.heap.size, 0, none⟩ = some (.int .i64 a.n) := by go_simp
    have r1 : (((w.alloc (.cells #[.int .i64 a.n, .int .i64 a.r] 24)).alloc (.cells #[.int .i64 b.n, .int .i64 b.r] 24)).alloc (.cells #[.int .i64 0, .int .i64 0] 24)).cell? ⟨w.heap.size, 1, none⟩ = some (.int .i64 a.r) := by go_simp
    have r2 : (((w.alloc (.cells #[.int .i64 a.n, .int .i64 a.r] 24)).alloc (.cells #[.int .i64 b.n, .int .i64 b.r] 24)).alloc (.cells #[.int .i64 0, .int .i64 0] 24)).cell? ⟨w.heap.size + 1, 0, none⟩ = some (.int .i64 b.n) := by go_simp
    have r3 : (((w.alloc (.cells #[.int .i64 a.n, .int .i64 a.r] 24)).alloc (.cells #[.int .i64 b.n, .int .i64 b.r] 24)).alloc (.cells #[.int .i64 0, .int .i64 0] 24)).cell? ⟨w.heap.size + 1, 1, none⟩ = some (.int .i64 b.r) := by go_simp
    have r4 : (((w.alloc (.cells #[.int .i64 a.n, .int .i64 a.r] 24)).alloc (.cells #[.int .i64 b.n, .int .i64 b.r] 24)).alloc (.cells #[.int .i64 0, .int .i64 0] 24)).cell? ⟨w.heap.size + 1 + 1, 0, none⟩ = some (.int .i64 0) := by go_simp
    have r5 : (((w.alloc (.cells #[.int .i64 a.n, .int .i64 a.r] 24)).alloc (.cells #[.int .i64 b.n, .int .i64 b.r] 24)).alloc (.cells #[.int .i64 0, .int .i64 0] 24)).cell? ⟨w.heap.size + 1 + 1, 1, none⟩ = some (.int .i64 0) := by go_simp
    go_enter Try.func14, Try.ntmps14
    go_wp2_with fail
    generalize ((w.alloc (.cells #[.int .i64 a.n, .int .i64 a.r] 24)).alloc (.cells #[.int .i64 b.n, .int .i64 b.r] 24)).alloc (.cells #[.int .i64 0, .int .i64 0] 24) = W3 at *
    refine (right_any _ _ _).mono ?_
    rintro e w1 ⟨rfl, c1⟩
    rw [h1']
    replace r0 := keepB c1 r0
    replace r1 := keepB c1 r1
    replace r2 := keepB c1 r2
    replace r3 := keepB c1 r3
    replace r4 := keepB c1 r4
    replace r5 := keepB c1 r5
    replace hb0 := hb0.trans (c1.mono hb0.size)
    clear c1
    go_wp2_with fail
    refine (right_any _ _ _).mono ?_
    rintro e w2 ⟨rfl, c2⟩
    rw [h2']
    replace r0 := keepB c2 r0
    replace r1 := keepB c2 r1
    replace r2 := keepB c2 r2
    replace r3 := keepB c2 r3
    replace r4 := keepB c2 r4
    replace r5 := keepB c2 r5
    replace hb0 := hb0.trans (c2.mono hb0.size)
    clear c2
    go_wp2_with fail
    have hT3 := hT.below (hb0)
    have hv0 := cell_of hT3.blk
    refine (find_any t v l a.n a.r _ hv0 (hT3.own.slice Mv.len) hT3.rising hsz).mono ?_
    rintro e w5 ⟨i, is, rfl, hi1, hi2, hi3, b5⟩
    have his := find_in hT.rising hi2 hi3 hin
    subst his
    clear hT hT3 hv0 hi1 hi2 hi3 hin
    go_wp2_with fail
    go_ret
    exact ⟨rfl, hb0.trans (b5.mono hb0.size)⟩
  · have h3' : rightB ⟨u.n, u.r⟩ = true := h3
    have hn := right_n h3
    have hb0 : Below w.heap.size w (((w.alloc (.cells #[.int .i64 a.n, .int .i64 a.r] 24)).alloc (.cells #[.int .i64 b.n, .int .i64 b.r] 24)).alloc (.cells #[.int .i64 u.n, .int .i64 u.r] 24)) := (((Below.refl _ _).alloc (Nat.le_refl _) _).alloc (by simp) _).alloc (by simp <;> omega) _
    have r0 : (((w.alloc (.cells #[.int .i64 a.n, .int .i64 a.r] 24)).alloc (.cells #[.int .i64 b.n, .int .i64 b.r] 24)).alloc (.cells #[.int .i64 u.n, .int .i64 u.r] 24)).cell? ⟨w.heap.size, 0, none⟩ = some (.int .i64 a.n) := by go_simp
    have r1 : (((w.alloc (.cells #[.int .i64 a.n, .int .i64 a.r] 24)).alloc (.cells #[.int .i64 b.n, .int .i64 b.r] 24)).alloc (.cells #[.int .i64 u.n, .int .i64 u.r] 24)).cell? ⟨w.heap.size, 1, none⟩ = some (.int .i64 a.r) := by go_simp
    have r2 : (((w.alloc (.cells #[.int .i64 a.n, .int .i64 a.r] 24)).alloc (.cells #[.int .i64 b.n, .int .i64 b.r] 24)).alloc (.cells #[.int .i64 u.n, .int .i64 u.r] 24)).cell? ⟨w.heap.size + 1, 0, none⟩ = some (.int .i64 b.n) := by go_simp
    have r3 : (((w.alloc (.cells #[.int .i64 a.n, .int .i64 a.r] 24)).alloc (.cells #[.int .i64 b.n, .int .i64 b.r] 24)).alloc (.cells #[.int .i64 u.n, .int .i64 u.r] 24)).cell? ⟨w.heap.size + 1, 1, none⟩ = some (.int .i64 b.r) := by go_simp
    have r4 : (((w.alloc (.cells #[.int .i64 a.n, .int .i64 a.r] 24)).alloc (.cells #[.int .i64 b.n, .int .i64 b.r] 24)).alloc (.cells #[.int .i64 u.n, .int .i64 u.r] 24)).cell? ⟨w.heap.size + 1 + 1, 0, none⟩ = some (.int .i64 u.n) := by go_simp
    have r5 : (((w.alloc (.cells #[.int .i64 a.n, .int .i64 a.r] 24)).alloc (.cells #[.int .i64 b.n, .int .i64 b.r] 24)).alloc (.cells #[.int .i64 u.n, .int .i64 u.r] 24)).cell? ⟨w.heap.size + 1 + 1, 1, none⟩ = some (.int .i64 u.r) := by go_simp
    go_enter Try.func14, Try.ntmps14
    go_wp2_with fail
    generalize ((w.alloc (.cells #[.int .i64 a.n, .int .i64 a.r] 24)).alloc (.cells #[.int .i64 b.n, .int .i64 b.r] 24)).alloc (.cells #[.int .i64 u.n, .int .i64 u.r] 24) = W3 at *
    refine (right_any _ _ _).mono ?_
    rintro e w1 ⟨rfl, c1⟩
    rw [h1']
    replace r0 := keepB c1 r0
    replace r1 := keepB c1 r1
    replace r2 := keepB c1 r2
    replace r3 := keepB c1 r3
    replace r4 := keepB c1 r4
    replace r5 := keepB c1 r5
    replace hb0 := hb0.trans (c1.mono hb0.size)
    clear c1
    go_wp2_with fail
    refine (right_any _ _ _).mono ?_
    rintro e w2 ⟨rfl, c2⟩
    rw [h2']
    replace r0 := keepB c2 r0
    replace r1 := keepB c2 r1
    replace r2 := keepB c2 r2
    replace r3 := keepB c2 r3
    replace r4 := keepB c2 r4
    replace r5 := keepB c2 r5
    replace hb0 := hb0.trans (c2.mono hb0.size)
    clear c2
    go_wp2_with fail
    refine (right_any _ _ _).mono ?_
    rintro e w3 ⟨rfl, c3⟩
    rw [h3']
    replace r0 := keepB c3 r0
    replace r1 := keepB c3 r1
    replace r2 := keepB c3 r2
    replace r3 := keepB c3 r3
    replace r4 := keepB c3 r4
    replace r5 := keepB c3 r5
    replace hb0 := hb0.trans (c3.mono hb0.size)
    clear c3
    go_wp2_with fail
    have hT3 := hT.below (hb0)
    have hv0 := cell_of hT3.blk
    refine (find_any t v l a.n a.r _ hv0 (hT3.own.slice Mv.len) hT3.rising hsz).mono ?_
    rintro e w5 ⟨i, is, rfl, hi1, hi2, hi3, b5⟩
    have his := find_in hT.rising hi2 hi3 hin
    subst his
    clear hT hT3 hv0 hi1 hi2 hi3 hin
    go_wp2_with fail
    go_ret
    exact ⟨rfl, hb0.trans (b5.mono hb0.size)⟩

set_option maxRecDepth 100000 in
set_option maxHeartbeats 2000000 in
theorem move_ok (t : Nat) (a b u : St) (key : ByteArray) (w : World) (h1 : rightB a = true) (h2 : rightB b = true) (h3 : u = ⟨0, 0⟩ ∨ rightB u = true) {base mh : Nat} {v : Value} {l : List Mv} {hl : List (St × Ch)} (hT : TreeIs base w t mh v l hl) (hbw : base ≤ w.heap.size) (hsz : l.length ≤ 900) (hin : ∀ m ∈ l, m.at_ ≠ a) :
    Calls Try.prog 14 #[.pointer (some ⟨t, 0, none⟩), .agg #[.int .i64 a.n, .int .i64 a.r], .agg #[.int .i64 b.n, .int .i64 b.r], .agg #[.int .i64 u.n, .int .i64 u.r], .string key] w
      fun e w' => e = .returned (.int .i64 0) ∧ ∃ v' l' hl' i y, TreeIs base w' t mh v' l' hl' ∧ i ≤ l.length ∧ (∀ (k : Nat) m, l[k]? = some m → (k < i ↔ stLt m.at_ a)) ∧ y = (⟨a, ⟨b, u, key⟩, false, none⟩ : Mv) ∧ l'.map Mv.core = (insM l i y).map Mv.core ∧ Ext (Touch base w t mh) w w' := by
  have h1' : rightB ⟨a.n, a.r⟩ = true := h1
  have h2' : rightB ⟨b.n, b.r⟩ = true := h2
  rcases h3 with h3 | h3
  · subst h3
    have : True := trivial
    have hb0 : Below w.heap.size w (((w.alloc (.cells #[.int .i64 a.n, .int .i64 a.r] 24)).alloc (.cells #[.int .i64 b.n, .int .i64 b.r] 24)).alloc (.cells #[.int .i64 0, .int .i64 0] 24)) := (((Below.refl _ _).alloc (Nat.le_refl _) _).alloc (by simp) _).alloc (by simp <;> omega) _
    have r0 : (((w.alloc (.cells #[.int .i64 a.n, .int .i64 a.r] 24)).alloc (.cells #[.int .i64 b.n, .int .i64 b.r] 24)).alloc (.cells #[.int .i64 0, .int .i64 0] 24)).cell? ⟨w.heap.size, 0, none⟩ = some (.int .i64 a.n) := by go_simp
    have r1 : (((w.alloc (.cells #[.int .i64 a.n, .int .i64 a.r] 24)).alloc (.cells #[.int .i64 b.n, .int .i64 b.r] 24)).alloc (.cells #[.int .i64 0, .int .i64 0] 24)).cell? ⟨w.heap.size, 1, none⟩ = some (.int .i64 a.r) := by go_simp
    have r2 : (((w.alloc (.cells #[.int .i64 a.n, .int .i64 a.r] 24)).alloc (.cells #[.int .i64 b.n, .int .i64 b.r] 24)).alloc (.cells #[.int .i64 0, .int .i64 0] 24)).cell? ⟨w.heap.size + 1, 0, none⟩ = some (.int .i64 b.n) := by go_simp
    have r3 : (((w.alloc (.cells #[.int .i64 a.n, .int .i64 a.r] 24)).alloc (.cells #[.int .i64 b.n, .int .i64 b.r] 24)).alloc (.cells #[.int .i64 0, .int .i64 0] 24)).cell? ⟨w.heap.size + 1, 1, none⟩ = some (.int .i64 b.r) := by go_simp
    have r4 : (((w.alloc (.cells #[.int .i64 a.n, .int .i64 a.r] 24)).alloc (.cells #[.int .i64 b.n, .int .i64 b.r] 24)).alloc (.cells #[.int .i64 0, .int .i64 0] 24)).cell? ⟨w.heap.size + 1 + 1, 0, none⟩ = some (.int .i64 0) := by go_simp
    have r5 : (((w.alloc (.cells #[.int .i64 a.n, .int .i64 a.r] 24)).alloc (.cells #[.int .i64 b.n, .int .i64 b.r] 24)).alloc (.cells #[.int .i64 0, .int .i64 0] 24)).cell? ⟨w.heap.size + 1 + 1, 1, none⟩ = some (.int .i64 0) := by go_simp
    go_enter Try.func14, Try.ntmps14
    go_wp2_with fail
    generalize ((w.alloc (.cells #[.int .i64 a.n, .int .i64 a.r] 24)).alloc (.cells #[.int .i64 b.n, .int .i64 b.r] 24)).alloc (.cells #[.int .i64 0, .int .i64 0] 24) = W3 at *
    refine (right_any _ _ _).mono ?_
    rintro e w1 ⟨rfl, c1⟩
    rw [h1']
    replace r0 := keepB c1 r0
    replace r1 := keepB c1 r1
    replace r2 := keepB c1 r2
    replace r3 := keepB c1 r3
    replace r4 := keepB c1 r4
    replace r5 := keepB c1 r5
    replace hb0 := hb0.trans (c1.mono hb0.size)
    clear c1
    go_wp2_with fail
    refine (right_any _ _ _).mono ?_
    rintro e w2 ⟨rfl, c2⟩
    rw [h2']
    replace r0 := keepB c2 r0
    replace r1 := keepB c2 r1
    replace r2 := keepB c2 r2
    replace r3 := keepB c2 r3
    replace r4 := keepB c2 r4
    replace r5 := keepB c2 r5
    replace hb0 := hb0.trans (c2.mono hb0.size)
    clear c2
    go_wp2_with fail
    have hT3 := hT.below (hb0)
    have hv0 := cell_of hT3.blk
    refine (find_any t v l a.n a.r _ hv0 (hT3.own.slice Mv.len) hT3.rising (by omega)).mono ?_
    rintro e w5 ⟨i, is, rfl, hi1, hi2, hi3, b5⟩
    have his := find_out hi3 hin
    subst his
    replace r0 := keepB b5 r0
    replace r1 := keepB b5 r1
    replace r2 := keepB b5 r2
    replace r3 := keepB b5 r3
    replace r4 := keepB b5 r4
    replace r5 := keepB b5 r5
    have hT5 := hT3.below b5
    replace hb0 := hb0.trans (b5.mono hb0.size)
    obtain ⟨va, vc, rfl, hcap, hmax, _⟩ := hT.own.slice Mv.len
    unfold maxLen at hmax
    have t0 := cell_of hT5.blk
    have t1 := cell_of1 hT5.blk
    have HT := Lib.hid hT
    have HT5 := Lib.hid hT5
    have HI2 := Lib.hid hi2
    have HIN := Lib.hid hin
    clear hT hT5 hT3 hi2 hi3 hin hv0 b5 h1 h2
    obtain ⟨ne1, ne2, ne3⟩ := HT5.out.ne
    go_wp2_with fail
    go_loopg [13] (l.length - i) (fun g kv wx => ∃ j : Nat, g = j - i ∧ i ≤ j ∧ j ≤ l.length ∧ kv = .int .i64 ((j : Int) - 1) ∧ Hid (∃ hlj, MapIs St.val Ch.val wx mh hlj ∧ Agree hlj (play (kids (l.take j)))) ∧ wx.cell? ⟨t, 0, none⟩ = some (.slice va l.length vc) ∧ wx.cell? ⟨t, 1, none⟩ = some (.map (some mh)) ∧ Hid (Ext (· = mh) w5 wx))
    case atStart => exact ⟨l.length, rfl, hi1, Nat.le_refl _, rfl, ⟨hl, HT5.out.map, by rw [List.take_length]; exact HT5.out.agree⟩, t0, t1, Ext.refl _ _⟩
    case round =>
      obtain ⟨j, hg, hij, hjl, rfl, hmj, q0, q1, hx⟩ := hrel
      have HG := Lib.hid hg
      clear hg
      by_cases hlt : i < j
      · obtain ⟨k, rfl⟩ : ∃ k, j = k + 1 := ⟨j - 1, by omega⟩
        have hk1 : ((k + 1 : Nat) : Int) - 1 = (k : Int) := by omega
        rw [hk1]
        have hkl : k < l.length := by omega
        have hik : i ≤ k := by omega
        obtain ⟨m, hm⟩ : ∃ m, l[k]? = some m := ⟨_, List.getElem?_eq_getElem hkl⟩
        rcases HT5.out.own.eq_slice with ⟨_, e0⟩ | ⟨gg, cap, e0, _, _⟩
        · rw [e0] at hkl; simp at hkl
        · cases e0
          obtain ⟨hlj, hmp, hag⟩ := hmj.out
          have hS := undo_step t mh gg (k * 9) base m hlj (play (kids (l.take k))) wr q1 hmp (MvAt.of (HT5.out.own.ext hx.out (fun b hb => (ne2 b hb).1)) hm) ((HT5.out.noted k m hm).ext hx.out (fun b c hb => (ne3 b c hb).1)) (by rw [← play_take l k m hm]; exact hag)
          have HS := Lib.hid hS
          clear hmp hag hm hmj hk1 hS
          go_wp2_with fail
          refine Calls.mono HS.out ?_
          rintro e w6 ⟨⟨v6, rfl⟩, hl6, hm6, ha6, hx6⟩
          have h0 := hx6.keep q0 ne1
          have h1 := hx6.keep q1 ne1
          have HX := Lib.hid (hx.out.trans hx6)
          have HM6 : Hid (∃ hlj, MapIs St.val Ch.val w6 mh hlj ∧ Agree hlj (play (kids (l.take k)))) := ⟨hl6, hm6, ha6⟩
          clear HS hm6 ha6 hx6 hx q0 q1
          go_wp2_with fail
          go_roundg (k - i)
          case measure => rw [HG.out]; omega
          case rel => exact ⟨k, rfl, hik, by omega, by go_num, HM6, h0, h1, HX⟩
      · obtain rfl : i = j := by omega
        obtain ⟨hlj, hmp, hag⟩ := hmj.out
        have xw := hx.out
        have hmw : mh < w.heap.size := HT.out.map.lt
        have htw : t < w.heap.size := (Array.getElem?_eq_some_iff.1 HT.out.blk).1
        have hOwn := HT5.out.own.ext xw (fun b hb => (ne2 b hb).1)
        have hbt := (xw.block t (Array.getElem?_eq_some_iff.1 HT5.out.blk).1 ne1).trans HT5.out.blk
        have f0 : wr.frozen? ⟨t, 0, none⟩ = false := by simp [World.frozen?, hbt]
        have HBT := Lib.hid hbt
        have HMP : Hid (∃ hlj, MapIs St.val Ch.val wr mh hlj ∧ Agree hlj (play (kids (l.take i)))) := ⟨hlj, hmp, hag⟩
        replace r0 := xw.keep r0 (by omega)
        replace r1 := xw.keep r1 (by omega)
        replace r2 := xw.keep r2 (by omega)
        replace r3 := xw.keep r3 (by omega)
        replace r4 := xw.keep r4 (by omega)
        replace r5 := xw.keep r5 (by omega)
        have HOWN := Lib.hid hOwn
        have hsw := xw.size
        have hw5 : w.heap.size + 2 < wr.heap.size := by have := cell_lt r5; omega
        have hbr : base ≤ wr.heap.size := by have := hb0.size; omega
        clear hbt hmj hmp hag xw hOwn
        go_wp2_with fail
        -- INSERTED
        have hins : ∀ c, _ := fun c => insert_any base _ l i ⟨a, ⟨b, ⟨0, 0⟩, key⟩, false, none⟩ wr.heap.size c (wr.drew.alloc (.cells (Mv.cells ⟨a, ⟨b, ⟨0, 0⟩, key⟩, false, none⟩).toArray 66)) (HOWN.out.drew.alloc _) (by show base ≤ (wr.drew.alloc (.cells (Mv.cells ⟨a, ⟨b, ⟨0, 0⟩, key⟩, false, none⟩).toArray 66)).heap.size; simp; omega) hi1 (by omega) (World.alloc_heap_new wr.drew _) (fun e => absurd (HOWN.out.blk _ e).2 (Nat.lt_irrefl _))
        have HINS := Lib.hid hins
        clear hins
        have n0 : ¬ (Value.slice va l.length vc).ownBlock = some t := fun e => (ne2 t e).2 rfl
        have n1 : ¬ (Value.slice va l.length vc).ownBlock = some (w.heap.size) := fun e => absurd (HT.out.own.blk _ e).2 (by omega)
        have n2 : ¬ (Value.slice va l.length vc).ownBlock = some (w.heap.size) := fun e => absurd (HT.out.own.blk _ e).2 (by omega)
        have n3 : ¬ (Value.slice va l.length vc).ownBlock = some (w.heap.size + 1) := fun e => absurd (HT.out.own.blk _ e).2 (by omega)
        have n4 : ¬ (Value.slice va l.length vc).ownBlock = some (w.heap.size + 1) := fun e => absurd (HT.out.own.blk _ e).2 (by omega)
        have n5 : ¬ (Value.slice va l.length vc).ownBlock = some (w.heap.size + 1 + 1) := fun e => absurd (HT.out.own.blk _ e).2 (by omega)
        have n6 : ¬ (Value.slice va l.length vc).ownBlock = some (w.heap.size + 1 + 1) := fun e => absurd (HT.out.own.blk _ e).2 (by omega)
        have s0 : ¬ t = wr.heap.size := by omega
        have s1 : ¬ w.heap.size = wr.heap.size := by omega
        have s2 : ¬ w.heap.size + 1 = wr.heap.size := by omega
        have s3 : ¬ w.heap.size + 1 + 1 = wr.heap.size := by omega
        refine wp_region_z (z := 16) (S := fun W => W.cell? ⟨t, 0, none⟩ = some (.slice va l.length vc) ∧ W.cell? ⟨w.heap.size, 0, none⟩ = some (.int .i64 a.n) ∧ W.cell? ⟨w.heap.size, 1, none⟩ = some (.int .i64 a.r) ∧ W.cell? ⟨w.heap.size + 1, 0, none⟩ = some (.int .i64 b.n) ∧ W.cell? ⟨w.heap.size + 1, 1, none⟩ = some (.int .i64 b.r) ∧ W.cell? ⟨w.heap.size + 1 + 1, 0, none⟩ = some (.int .i64 0) ∧ W.cell? ⟨w.heap.size + 1 + 1, 1, none⟩ = some (.int .i64 0) ∧ W.frozen? ⟨t, 0, none⟩ = false) (by kernel_rfl) ?_
        have hS0 : (fun W => W.cell? ⟨t, 0, none⟩ = some (.slice va l.length vc) ∧ W.cell? ⟨w.heap.size, 0, none⟩ = some (.int .i64 a.n) ∧ W.cell? ⟨w.heap.size, 1, none⟩ = some (.int .i64 a.r) ∧ W.cell? ⟨w.heap.size + 1, 0, none⟩ = some (.int .i64 b.n) ∧ W.cell? ⟨w.heap.size + 1, 1, none⟩ = some (.int .i64 b.r) ∧ W.cell? ⟨w.heap.size + 1 + 1, 0, none⟩ = some (.int .i64 0) ∧ W.cell? ⟨w.heap.size + 1 + 1, 1, none⟩ = some (.int .i64 0) ∧ W.frozen? ⟨t, 0, none⟩ = false) wr.drew := ⟨q0, r0, r1, r2, r3, r4, r5, f0⟩
        refine wpAnyZ_take (i := 0) rfl rfl (by decide) (by decide) (by kernel_rfl) (by kernel_rfl) (by kernel_rfl) (fun _ _ _ h => h) (.inl ⟨by simp [Region.wanted], fun W hW => by go_simp; rfl⟩) hS0 ?_
        refine wpAnyZ_take (i := 1) rfl rfl (by decide) (by decide) (by kernel_rfl) (by kernel_rfl) (by kernel_rfl) (fun _ _ _ h => h) (.inl ⟨by simp [Region.wanted], fun W hW => by go_simp; rfl⟩) hS0 ?_
        refine wpAnyZ_take (i := 2) rfl rfl (by decide) (by decide) (by kernel_rfl) (by kernel_rfl) (by kernel_rfl) (fun _ _ _ h => h) (.inl ⟨by simp [Region.wanted], fun W hW => by go_simp; rfl⟩) hS0 ?_
        refine wpAnyZ_take (i := 3) rfl rfl (by decide) (by decide) (by kernel_rfl) (by kernel_rfl) (by kernel_rfl) (fun _ _ _ h => h) (.inl ⟨by simp [Region.wanted], fun W hW => by go_simp; rfl⟩) hS0 ?_
        refine wpAnyZ_take (i := 4) rfl rfl (by decide) (by decide) (by kernel_rfl) (by kernel_rfl) (by kernel_rfl) (fun _ _ _ h => h) (.inl ⟨by simp [Region.wanted], fun W hW => by obtain ⟨z0, z1, z2, z3, z4, z5, z6, _⟩ := hW; go_simp; rfl⟩) hS0 ?_
        refine wpAnyZ_take (i := 5) rfl rfl (by decide) (by decide) (by kernel_rfl) (by kernel_rfl) (by kernel_rfl) (fun _ _ _ h => h) (.inl ⟨by simp [Region.wanted], fun W hW => by go_simp; rfl⟩) hS0 ?_
        refine wpAnyZ_take (i := 6) rfl rfl (by decide) (by decide) (by kernel_rfl) (by kernel_rfl) (by kernel_rfl) (fun _ _ _ h => h) (.inl ⟨by simp [Region.wanted], fun W hW => by obtain ⟨z0, z1, z2, z3, z4, z5, z6, _⟩ := hW; go_simp; rfl⟩) hS0 ?_
        refine wpAnyZ_take (i := 7) rfl rfl (by decide) (by decide) (by kernel_rfl) (by kernel_rfl) (by kernel_rfl) (fun _ _ _ h => h) (.inl ⟨by simp [Region.wanted], fun W hW => by obtain ⟨z0, z1, z2, z3, z4, z5, z6, _⟩ := hW; go_simp; rfl⟩) hS0 ?_
        refine wpAnyZ_take (i := 8) rfl rfl (by decide) (by decide) (by kernel_rfl) (by kernel_rfl) (by kernel_rfl) (fun _ _ _ h => h) (.inl ⟨by simp [Region.wanted], fun W hW => by obtain ⟨z0, z1, z2, z3, z4, z5, z6, _⟩ := hW; go_simp; rfl⟩) hS0 ?_
        refine wpAnyZ_take (i := 9) rfl rfl (by decide) (by decide) (by kernel_rfl) (by kernel_rfl) (by kernel_rfl) (fun _ _ _ h => h) (.inl ⟨by simp [Region.wanted], fun W hW => by go_simp; rfl⟩) hS0 ?_
        refine wpAnyZ_take (i := 10) rfl rfl (by decide) (by decide) (by kernel_rfl) (by kernel_rfl) (by kernel_rfl) (fun _ _ _ h => h) (.inl ⟨by simp [Region.wanted], fun W hW => by go_simp; rfl⟩) hS0 ?_
        refine wpAnyZ_take (i := 11) rfl rfl (by decide) (by decide) (by kernel_rfl) (by kernel_rfl) (by kernel_rfl) (fun _ _ _ h => h) (.inl ⟨by simp [Region.wanted], fun W hW => by go_simp; rfl⟩) hS0 ?_
        have hS1 : (fun W => W.cell? ⟨t, 0, none⟩ = some (.slice va l.length vc) ∧ W.cell? ⟨w.heap.size, 0, none⟩ = some (.int .i64 a.n) ∧ W.cell? ⟨w.heap.size, 1, none⟩ = some (.int .i64 a.r) ∧ W.cell? ⟨w.heap.size + 1, 0, none⟩ = some (.int .i64 b.n) ∧ W.cell? ⟨w.heap.size + 1, 1, none⟩ = some (.int .i64 b.r) ∧ W.cell? ⟨w.heap.size + 1 + 1, 0, none⟩ = some (.int .i64 0) ∧ W.cell? ⟨w.heap.size + 1 + 1, 1, none⟩ = some (.int .i64 0) ∧ W.frozen? ⟨t, 0, none⟩ = false) (wr.drew.alloc (.cells (Mv.cells ⟨a, ⟨b, ⟨0, 0⟩, key⟩, false, none⟩).toArray 66)) := ⟨cell_alloc q0 _, cell_alloc r0 _, cell_alloc r1 _, cell_alloc r2 _, cell_alloc r3 _, cell_alloc r4 _, cell_alloc r5 _, (frozen_alloc f0 _ q0)⟩
        refine wpAnyZ_ran (i := 12) (by kernel_rfl) rfl (by simp [Region.wanted]) (by go_simp; first | rfl | exact ⟨rfl, rfl⟩ | exact ⟨⟨rfl, rfl⟩, rfl⟩) (fun _ => hS1) ?_
        refine wpAnyZ_call (i := 13) (by kernel_rfl) rfl (by simp [Region.wanted]) (by go_simp; first | rfl | exact ⟨rfl, rfl⟩ | exact ⟨⟨rfl, rfl⟩, rfl⟩) ?_
        refine Calls.mono (HINS.out _) ?_
        rintro e w7 ⟨v7, rfl, hown7, x7⟩
        obtain ⟨g, cap, hl8, rfl, hD8, xA⟩ := loop_start HT5.out ne1 ne2 ne3 hx.out HBT.out HMP.out _ x7 hown7 hi1
        have c80 := cell_of hD8.blk
        rw [insM_length l i _ hi1] at c80
        have hcap8 : l.length + 1 ≤ cap ∧ cap ≤ maxLen := by obtain ⟨_, _, e, h1, h2, _⟩ := hown7.slice Mv.len; rw [insM_length l i _ hi1] at e h1; injection e with _ _ e3; subst e3; exact ⟨h1, h2⟩
        unfold maxLen at hcap8
        obtain ⟨hcap8, hcap9⟩ := hcap8
        have hS7 : (fun W => W.cell? ⟨t, 0, none⟩ = some (.slice va l.length vc) ∧ W.cell? ⟨w.heap.size, 0, none⟩ = some (.int .i64 a.n) ∧ W.cell? ⟨w.heap.size, 1, none⟩ = some (.int .i64 a.r) ∧ W.cell? ⟨w.heap.size + 1, 0, none⟩ = some (.int .i64 b.n) ∧ W.cell? ⟨w.heap.size + 1, 1, none⟩ = some (.int .i64 b.r) ∧ W.cell? ⟨w.heap.size + 1 + 1, 0, none⟩ = some (.int .i64 0) ∧ W.cell? ⟨w.heap.size + 1 + 1, 1, none⟩ = some (.int .i64 0) ∧ W.frozen? ⟨t, 0, none⟩ = false) w7 := ⟨x7.keep (cell_alloc q0 _) n0, x7.keep (cell_alloc r0 _) n1, x7.keep (cell_alloc r1 _) n2, x7.keep (cell_alloc r2 _) n3, x7.keep (cell_alloc r3 _) n4, x7.keep (cell_alloc r4 _) n5, x7.keep (cell_alloc r5 _) n6, (x7.frozen (p := ⟨t, 0, none⟩) (cell_lt (cell_alloc q0 _)) n0).trans (frozen_alloc f0 _ q0)⟩
        have t7 := hS7.1
        have g7 := hS7.2.2.2.2.2.2.2
        refine ⟨_, rfl, fun _ => hS7, ?_⟩
        clear hown7 x7
        refine wpAnyZ_ran (i := 14) (by kernel_rfl) rfl (by simp [Region.wanted]) (by go_simp; first | rfl | exact ⟨rfl, rfl⟩ | exact ⟨⟨rfl, rfl⟩, rfl⟩) (fun _ => hS7) ?_
        refine wpAnyZ_ran (i := 15) (by kernel_rfl) rfl (by simp [Region.wanted]) (by go_simp; first | rfl | exact ⟨rfl, rfl⟩ | exact ⟨⟨rfl, rfl⟩, rfl⟩) (fun _ => hS7) ?_
        refine wpAnyZ_mute (i := 16) (by kernel_rfl) rfl (by simp [Region.wanted]) (by go_simp; first | rfl | exact ⟨rfl, rfl⟩ | exact ⟨⟨rfl, rfl⟩, rfl⟩) (fun e => absurd rfl e) ?_
        refine wpAnyZ_done (by kernel_rfl) ?_ _
        clear hS7 hS1 hS0 HINS HBT HMP HOWN t7 g7 r0 r1 r2 r3 r4 r5 q0 q1 f0 t0 t1
        generalize w7.setCell ⟨t, 0, none⟩ (.slice (some ⟨g, 0, none⟩) (l.length + 1) cap) = w8 at *
        have HD8 := Lib.hid hD8
        have HXA := Lib.hid xA
        clear hD8 xA
        go_wp2_with fail
        go_loopg [14] (l.length + 1 - i) (fun gg kv wx => ∃ k : Nat, gg = l.length + 1 - k ∧ i ≤ k ∧ k ≤ l.length + 1 ∧ kv = .int .i64 k ∧ wx.cell? ⟨t, 0, none⟩ = some (.slice (some ⟨g, 0, none⟩) (l.length + 1) cap) ∧ Hid (∃ lk hlk, lk.length = l.length + 1 ∧ DoInv base wx t mh g cap ((insM l i ⟨a, ⟨b, ⟨0, 0⟩, key⟩, false, none⟩).map Mv.core) k lk hlk) ∧ Hid (Ext (fun b => b = g ∨ b = mh) w8 wx))
        case atStart => exact ⟨i, rfl, Nat.le_refl _, by omega, rfl, c80, ⟨_, _, insM_length l i _ hi1, HD8.out⟩, Ext.refl _ _⟩
        case round =>
          obtain ⟨k, hg, hik, hkl, rfl, p0, hDk, hxk⟩ := hrel
          have HG2 := Lib.hid hg
          clear hg c80
          by_cases hlt2 : k < l.length + 1
          · obtain ⟨lk, hlk, hlen, hD⟩ := hDk.out
            obtain ⟨m, hm⟩ : ∃ m, lk[k]? = some m := ⟨_, List.getElem?_eq_getElem (by omega)⟩
            have hS := hD.step hm
            have HS := Lib.hid hS
            clear hS hD hm
            go_wp2_with fail
            refine Calls.mono HS.out ?_
            rintro e w9 ⟨⟨v9, rfl⟩, ⟨l9, hl9, hD9, hlen9⟩, x9⟩
            have p9 := cell_of hD9.blk
            rw [hlen9, hlen] at p9
            have HD9 : Hid (∃ lk hlk, lk.length = l.length + 1 ∧ DoInv base w9 t mh g cap ((insM l i ⟨a, ⟨b, ⟨0, 0⟩, key⟩, false, none⟩).map Mv.core) (k + 1) lk hlk) := ⟨l9, hl9, hlen9.trans hlen, hD9⟩
            have HX9 := Lib.hid (hxk.out.trans x9)
            clear HS hD9 x9 hxk hDk p0 hlen hlen9
            go_wp2_with fail
            go_roundg (l.length + 1 - (k + 1))
            case measure => rw [HG2.out]; omega
            case rel => exact ⟨k + 1, rfl, by omega, by omega, by go_num, p9, HD9, HX9⟩
          · obtain ⟨lk, hlk, hlen, hD⟩ := hDk.out
            have hF := loop_end HT.out hb0 HXA.out HD8.out hxk.out hD (by omega) hi1 HI2.out HIN.out rfl
            have HF := Lib.hid hF
            have HSM := Lib.hid hD.same
            clear hF hD
            go_wp2_with fail
            go_ret
            exact ⟨rfl, _, lk, hlk, i, _, HF.out.1, hi1, HI2.out, rfl, HSM.out, HF.out.2⟩
  · have h3' : rightB ⟨u.n, u.r⟩ = true := h3
    have hn := right_n h3
    have hb0 : Below w.heap.size w (((w.alloc (.cells #[.int .i64 a.n, .int .i64 a.r] 24)).alloc (.cells #[.int .i64 b.n, .int .i64 b.r] 24)).alloc (.cells #[.int .i64 u.n, .int .i64 u.r] 24)) := (((Below.refl _ _).alloc (Nat.le_refl _) _).alloc (by simp) _).alloc (by simp <;> omega) _
    have r0 : (((w.alloc (.cells #[.int .i64 a.n, .int .i64 a.r] 24)).alloc (.cells #[.int .i64 b.n, .int .i64 b.r] 24)).alloc (.cells #[.int .i64 u.n, .int .i64 u.r] 24)).cell? ⟨w.heap.size, 0, none⟩ = some (.int .i64 a.n) := by go_simp
    have r1 : (((w.alloc (.cells #[.int .i64 a.n, .int .i64 a.r] 24)).alloc (.cells #[.int .i64 b.n, .int .i64 b.r] 24)).alloc (.cells #[.int .i64 u.n, .int .i64 u.r] 24)).cell? ⟨w.heap.size, 1, none⟩ = some (.int .i64 a.r) := by go_simp
    have r2 : (((w.alloc (.cells #[.int .i64 a.n, .int .i64 a.r] 24)).alloc (.cells #[.int .i64 b.n, .int .i64 b.r] 24)).alloc (.cells #[.int .i64 u.n, .int .i64 u.r] 24)).cell? ⟨w.heap.size + 1, 0, none⟩ = some (.int .i64 b.n) := by go_simp
    have r3 : (((w.alloc (.cells #[.int .i64 a.n, .int .i64 a.r] 24)).alloc (.cells #[.int .i64 b.n, .int .i64 b.r] 24)).alloc (.cells #[.int .i64 u.n, .int .i64 u.r] 24)).cell? ⟨w.heap.size + 1, 1, none⟩ = some (.int .i64 b.r) := by go_simp
    have r4 : (((w.alloc (.cells #[.int .i64 a.n, .int .i64 a.r] 24)).alloc (.cells #[.int .i64 b.n, .int .i64 b.r] 24)).alloc (.cells #[.int .i64 u.n, .int .i64 u.r] 24)).cell? ⟨w.heap.size + 1 + 1, 0, none⟩ = some (.int .i64 u.n) := by go_simp
    have r5 : (((w.alloc (.cells #[.int .i64 a.n, .int .i64 a.r] 24)).alloc (.cells #[.int .i64 b.n, .int .i64 b.r] 24)).alloc (.cells #[.int .i64 u.n, .int .i64 u.r] 24)).cell? ⟨w.heap.size + 1 + 1, 1, none⟩ = some (.int .i64 u.r) := by go_simp
    go_enter Try.func14, Try.ntmps14
    go_wp2_with fail
    generalize ((w.alloc (.cells #[.int .i64 a.n, .int .i64 a.r] 24)).alloc (.cells #[.int .i64 b.n, .int .i64 b.r] 24)).alloc (.cells #[.int .i64 u.n, .int .i64 u.r] 24) = W3 at *
    refine (right_any _ _ _).mono ?_
    rintro e w1 ⟨rfl, c1⟩
    rw [h1']
    replace r0 := keepB c1 r0
    replace r1 := keepB c1 r1
    replace r2 := keepB c1 r2
    replace r3 := keepB c1 r3
    replace r4 := keepB c1 r4
    replace r5 := keepB c1 r5
    replace hb0 := hb0.trans (c1.mono hb0.size)
    clear c1
    go_wp2_with fail
    refine (right_any _ _ _).mono ?_
    rintro e w2 ⟨rfl, c2⟩
    rw [h2']
    replace r0 := keepB c2 r0
    replace r1 := keepB c2 r1
    replace r2 := keepB c2 r2
    replace r3 := keepB c2 r3
    replace r4 := keepB c2 r4
    replace r5 := keepB c2 r5
    replace hb0 := hb0.trans (c2.mono hb0.size)
    clear c2
    go_wp2_with fail
    refine (right_any _ _ _).mono ?_
    rintro e w3 ⟨rfl, c3⟩
    rw [h3']
    replace r0 := keepB c3 r0
    replace r1 := keepB c3 r1
    replace r2 := keepB c3 r2
    replace r3 := keepB c3 r3
    replace r4 := keepB c3 r4
    replace r5 := keepB c3 r5
    replace hb0 := hb0.trans (c3.mono hb0.size)
    clear c3
    go_wp2_with fail
    have hT3 := hT.below (hb0)
    have hv0 := cell_of hT3.blk
    refine (find_any t v l a.n a.r _ hv0 (hT3.own.slice Mv.len) hT3.rising (by omega)).mono ?_
    rintro e w5 ⟨i, is, rfl, hi1, hi2, hi3, b5⟩
    have his := find_out hi3 hin
    subst his
    replace r0 := keepB b5 r0
    replace r1 := keepB b5 r1
    replace r2 := keepB b5 r2
    replace r3 := keepB b5 r3
    replace r4 := keepB b5 r4
    replace r5 := keepB b5 r5
    have hT5 := hT3.below b5
    replace hb0 := hb0.trans (b5.mono hb0.size)
    obtain ⟨va, vc, rfl, hcap, hmax, _⟩ := hT.own.slice Mv.len
    unfold maxLen at hmax
    have t0 := cell_of hT5.blk
    have t1 := cell_of1 hT5.blk
    have HT := Lib.hid hT
    have HT5 := Lib.hid hT5
    have HI2 := Lib.hid hi2
    have HIN := Lib.hid hin
    clear hT hT5 hT3 hi2 hi3 hin hv0 b5 h1 h2
    obtain ⟨ne1, ne2, ne3⟩ := HT5.out.ne
    go_wp2_with fail
    go_loopg [13] (l.length - i) (fun g kv wx => ∃ j : Nat, g = j - i ∧ i ≤ j ∧ j ≤ l.length ∧ kv = .int .i64 ((j : Int) - 1) ∧ Hid (∃ hlj, MapIs St.val Ch.val wx mh hlj ∧ Agree hlj (play (kids (l.take j)))) ∧ wx.cell? ⟨t, 0, none⟩ = some (.slice va l.length vc) ∧ wx.cell? ⟨t, 1, none⟩ = some (.map (some mh)) ∧ Hid (Ext (· = mh) w5 wx))
    case atStart => exact ⟨l.length, rfl, hi1, Nat.le_refl _, rfl, ⟨hl, HT5.out.map, by rw [List.take_length]; exact HT5.out.agree⟩, t0, t1, Ext.refl _ _⟩
    case round =>
      obtain ⟨j, hg, hij, hjl, rfl, hmj, q0, q1, hx⟩ := hrel
      have HG := Lib.hid hg
      clear hg
      by_cases hlt : i < j
      · obtain ⟨k, rfl⟩ : ∃ k, j = k + 1 := ⟨j - 1, by omega⟩
        have hk1 : ((k + 1 : Nat) : Int) - 1 = (k : Int) := by omega
        rw [hk1]
        have hkl : k < l.length := by omega
        have hik : i ≤ k := by omega
        obtain ⟨m, hm⟩ : ∃ m, l[k]? = some m := ⟨_, List.getElem?_eq_getElem hkl⟩
        rcases HT5.out.own.eq_slice with ⟨_, e0⟩ | ⟨gg, cap, e0, _, _⟩
        · rw [e0] at hkl; simp at hkl
        · cases e0
          obtain ⟨hlj, hmp, hag⟩ := hmj.out
          have hS := undo_step t mh gg (k * 9) base m hlj (play (kids (l.take k))) wr q1 hmp (MvAt.of (HT5.out.own.ext hx.out (fun b hb => (ne2 b hb).1)) hm) ((HT5.out.noted k m hm).ext hx.out (fun b c hb => (ne3 b c hb).1)) (by rw [← play_take l k m hm]; exact hag)
          have HS := Lib.hid hS
          clear hmp hag hm hmj hk1 hS
          go_wp2_with fail
          refine Calls.mono HS.out ?_
          rintro e w6 ⟨⟨v6, rfl⟩, hl6, hm6, ha6, hx6⟩
          have h0 := hx6.keep q0 ne1
          have h1 := hx6.keep q1 ne1
          have HX := Lib.hid (hx.out.trans hx6)
          have HM6 : Hid (∃ hlj, MapIs St.val Ch.val w6 mh hlj ∧ Agree hlj (play (kids (l.take k)))) := ⟨hl6, hm6, ha6⟩
          clear HS hm6 ha6 hx6 hx q0 q1
          go_wp2_with fail
          go_roundg (k - i)
          case measure => rw [HG.out]; omega
          case rel => exact ⟨k, rfl, hik, by omega, by go_num, HM6, h0, h1, HX⟩
      · obtain rfl : i = j := by omega
        obtain ⟨hlj, hmp, hag⟩ := hmj.out
        have xw := hx.out
        have hmw : mh < w.heap.size := HT.out.map.lt
        have htw : t < w.heap.size := (Array.getElem?_eq_some_iff.1 HT.out.blk).1
        have hOwn := HT5.out.own.ext xw (fun b hb => (ne2 b hb).1)
        have hbt := (xw.block t (Array.getElem?_eq_some_iff.1 HT5.out.blk).1 ne1).trans HT5.out.blk
        have f0 : wr.frozen? ⟨t, 0, none⟩ = false := by simp [World.frozen?, hbt]
        have HBT := Lib.hid hbt
        have HMP : Hid (∃ hlj, MapIs St.val Ch.val wr mh hlj ∧ Agree hlj (play (kids (l.take i)))) := ⟨hlj, hmp, hag⟩
        replace r0 := xw.keep r0 (by omega)
        replace r1 := xw.keep r1 (by omega)
        replace r2 := xw.keep r2 (by omega)
        replace r3 := xw.keep r3 (by omega)
        replace r4 := xw.keep r4 (by omega)
        replace r5 := xw.keep r5 (by omega)
        have HOWN := Lib.hid hOwn
        have hsw := xw.size
        have hw5 : w.heap.size + 2 < wr.heap.size := by have := cell_lt r5; omega
        have hbr : base ≤ wr.heap.size := by have := hb0.size; omega
        clear hbt hmj hmp hag xw hOwn
        go_wp2_with fail
        -- INSERTED
        have hins : ∀ c, _ := fun c => insert_any base _ l i ⟨a, ⟨b, ⟨u.n, u.r⟩, key⟩, false, none⟩ wr.heap.size c (wr.drew.alloc (.cells (Mv.cells ⟨a, ⟨b, ⟨u.n, u.r⟩, key⟩, false, none⟩).toArray 66)) (HOWN.out.drew.alloc _) (by show base ≤ (wr.drew.alloc (.cells (Mv.cells ⟨a, ⟨b, ⟨u.n, u.r⟩, key⟩, false, none⟩).toArray 66)).heap.size; simp; omega) hi1 (by omega) (World.alloc_heap_new wr.drew _) (fun e => absurd (HOWN.out.blk _ e).2 (Nat.lt_irrefl _))
        have HINS := Lib.hid hins
        clear hins
        have n0 : ¬ (Value.slice va l.length vc).ownBlock = some t := fun e => (ne2 t e).2 rfl
        have n1 : ¬ (Value.slice va l.length vc).ownBlock = some (w.heap.size) := fun e => absurd (HT.out.own.blk _ e).2 (by omega)
        have n2 : ¬ (Value.slice va l.length vc).ownBlock = some (w.heap.size) := fun e => absurd (HT.out.own.blk _ e).2 (by omega)
        have n3 : ¬ (Value.slice va l.length vc).ownBlock = some (w.heap.size + 1) := fun e => absurd (HT.out.own.blk _ e).2 (by omega)
        have n4 : ¬ (Value.slice va l.length vc).ownBlock = some (w.heap.size + 1) := fun e => absurd (HT.out.own.blk _ e).2 (by omega)
        have n5 : ¬ (Value.slice va l.length vc).ownBlock = some (w.heap.size + 1 + 1) := fun e => absurd (HT.out.own.blk _ e).2 (by omega)
        have n6 : ¬ (Value.slice va l.length vc).ownBlock = some (w.heap.size + 1 + 1) := fun e => absurd (HT.out.own.blk _ e).2 (by omega)
        have s0 : ¬ t = wr.heap.size := by omega
        have s1 : ¬ w.heap.size = wr.heap.size := by omega
        have s2 : ¬ w.heap.size + 1 = wr.heap.size := by omega
        have s3 : ¬ w.heap.size + 1 + 1 = wr.heap.size := by omega
        refine wp_region_z (z := 16) (S := fun W => W.cell? ⟨t, 0, none⟩ = some (.slice va l.length vc) ∧ W.cell? ⟨w.heap.size, 0, none⟩ = some (.int .i64 a.n) ∧ W.cell? ⟨w.heap.size, 1, none⟩ = some (.int .i64 a.r) ∧ W.cell? ⟨w.heap.size + 1, 0, none⟩ = some (.int .i64 b.n) ∧ W.cell? ⟨w.heap.size + 1, 1, none⟩ = some (.int .i64 b.r) ∧ W.cell? ⟨w.heap.size + 1 + 1, 0, none⟩ = some (.int .i64 u.n) ∧ W.cell? ⟨w.heap.size + 1 + 1, 1, none⟩ = some (.int .i64 u.r) ∧ W.frozen? ⟨t, 0, none⟩ = false) (by kernel_rfl) ?_
        have hS0 : (fun W => W.cell? ⟨t, 0, none⟩ = some (.slice va l.length vc) ∧ W.cell? ⟨w.heap.size, 0, none⟩ = some (.int .i64 a.n) ∧ W.cell? ⟨w.heap.size, 1, none⟩ = some (.int .i64 a.r) ∧ W.cell? ⟨w.heap.size + 1, 0, none⟩ = some (.int .i64 b.n) ∧ W.cell? ⟨w.heap.size + 1, 1, none⟩ = some (.int .i64 b.r) ∧ W.cell? ⟨w.heap.size + 1 + 1, 0, none⟩ = some (.int .i64 u.n) ∧ W.cell? ⟨w.heap.size + 1 + 1, 1, none⟩ = some (.int .i64 u.r) ∧ W.frozen? ⟨t, 0, none⟩ = false) wr.drew := ⟨q0, r0, r1, r2, r3, r4, r5, f0⟩
        refine wpAnyZ_take (i := 0) rfl rfl (by decide) (by decide) (by kernel_rfl) (by kernel_rfl) (by kernel_rfl) (fun _ _ _ h => h) (.inl ⟨by simp [Region.wanted], fun W hW => by go_simp; rfl⟩) hS0 ?_
        refine wpAnyZ_take (i := 1) rfl rfl (by decide) (by decide) (by kernel_rfl) (by kernel_rfl) (by kernel_rfl) (fun _ _ _ h => h) (.inl ⟨by simp [Region.wanted], fun W hW => by go_simp; rfl⟩) hS0 ?_
        refine wpAnyZ_take (i := 2) rfl rfl (by decide) (by decide) (by kernel_rfl) (by kernel_rfl) (by kernel_rfl) (fun _ _ _ h => h) (.inl ⟨by simp [Region.wanted], fun W hW => by go_simp; rfl⟩) hS0 ?_
        refine wpAnyZ_take (i := 3) rfl rfl (by decide) (by decide) (by kernel_rfl) (by kernel_rfl) (by kernel_rfl) (fun _ _ _ h => h) (.inl ⟨by simp [Region.wanted], fun W hW => by go_simp; rfl⟩) hS0 ?_
        refine wpAnyZ_take (i := 4) rfl rfl (by decide) (by decide) (by kernel_rfl) (by kernel_rfl) (by kernel_rfl) (fun _ _ _ h => h) (.inl ⟨by simp [Region.wanted], fun W hW => by obtain ⟨z0, z1, z2, z3, z4, z5, z6, _⟩ := hW; go_simp; rfl⟩) hS0 ?_
        refine wpAnyZ_take (i := 5) rfl rfl (by decide) (by decide) (by kernel_rfl) (by kernel_rfl) (by kernel_rfl) (fun _ _ _ h => h) (.inl ⟨by simp [Region.wanted], fun W hW => by go_simp; rfl⟩) hS0 ?_
        refine wpAnyZ_take (i := 6) rfl rfl (by decide) (by decide) (by kernel_rfl) (by kernel_rfl) (by kernel_rfl) (fun _ _ _ h => h) (.inl ⟨by simp [Region.wanted], fun W hW => by obtain ⟨z0, z1, z2, z3, z4, z5, z6, _⟩ := hW; go_simp; rfl⟩) hS0 ?_
        refine wpAnyZ_take (i := 7) rfl rfl (by decide) (by decide) (by kernel_rfl) (by kernel_rfl) (by kernel_rfl) (fun _ _ _ h => h) (.inl ⟨by simp [Region.wanted], fun W hW => by obtain ⟨z0, z1, z2, z3, z4, z5, z6, _⟩ := hW; go_simp; rfl⟩) hS0 ?_
        refine wpAnyZ_take (i := 8) rfl rfl (by decide) (by decide) (by kernel_rfl) (by kernel_rfl) (by kernel_rfl) (fun _ _ _ h => h) (.inl ⟨by simp [Region.wanted], fun W hW => by obtain ⟨z0, z1, z2, z3, z4, z5, z6, _⟩ := hW; go_simp; rfl⟩) hS0 ?_
        refine wpAnyZ_take (i := 9) rfl rfl (by decide) (by decide) (by kernel_rfl) (by kernel_rfl) (by kernel_rfl) (fun _ _ _ h => h) (.inl ⟨by simp [Region.wanted], fun W hW => by go_simp; rfl⟩) hS0 ?_
        refine wpAnyZ_take (i := 10) rfl rfl (by decide) (by decide) (by kernel_rfl) (by kernel_rfl) (by kernel_rfl) (fun _ _ _ h => h) (.inl ⟨by simp [Region.wanted], fun W hW => by go_simp; rfl⟩) hS0 ?_
        refine wpAnyZ_take (i := 11) rfl rfl (by decide) (by decide) (by kernel_rfl) (by kernel_rfl) (by kernel_rfl) (fun _ _ _ h => h) (.inl ⟨by simp [Region.wanted], fun W hW => by go_simp; rfl⟩) hS0 ?_
        have hS1 : (fun W => W.cell? ⟨t, 0, none⟩ = some (.slice va l.length vc) ∧ W.cell? ⟨w.heap.size, 0, none⟩ = some (.int .i64 a.n) ∧ W.cell? ⟨w.heap.size, 1, none⟩ = some (.int .i64 a.r) ∧ W.cell? ⟨w.heap.size + 1, 0, none⟩ = some (.int .i64 b.n) ∧ W.cell? ⟨w.heap.size + 1, 1, none⟩ = some (.int .i64 b.r) ∧ W.cell? ⟨w.heap.size + 1 + 1, 0, none⟩ = some (.int .i64 u.n) ∧ W.cell? ⟨w.heap.size + 1 + 1, 1, none⟩ = some (.int .i64 u.r) ∧ W.frozen? ⟨t, 0, none⟩ = false) (wr.drew.alloc (.cells (Mv.cells ⟨a, ⟨b, ⟨u.n, u.r⟩, key⟩, false, none⟩).toArray 66)) := ⟨cell_alloc q0 _, cell_alloc r0 _, cell_alloc r1 _, cell_alloc r2 _, cell_alloc r3 _, cell_alloc r4 _, cell_alloc r5 _, (frozen_alloc f0 _ q0)⟩
        refine wpAnyZ_ran (i := 12) (by kernel_rfl) rfl (by simp [Region.wanted]) (by go_simp; first | rfl | exact ⟨rfl, rfl⟩ | exact ⟨⟨rfl, rfl⟩, rfl⟩) (fun _ => hS1) ?_
        refine wpAnyZ_call (i := 13) (by kernel_rfl) rfl (by simp [Region.wanted]) (by go_simp; first | rfl | exact ⟨rfl, rfl⟩ | exact ⟨⟨rfl, rfl⟩, rfl⟩) ?_
        refine Calls.mono (HINS.out _) ?_
        rintro e w7 ⟨v7, rfl, hown7, x7⟩
        obtain ⟨g, cap, hl8, rfl, hD8, xA⟩ := loop_start HT5.out ne1 ne2 ne3 hx.out HBT.out HMP.out _ x7 hown7 hi1
        have c80 := cell_of hD8.blk
        rw [insM_length l i _ hi1] at c80
        have hcap8 : l.length + 1 ≤ cap ∧ cap ≤ maxLen := by obtain ⟨_, _, e, h1, h2, _⟩ := hown7.slice Mv.len; rw [insM_length l i _ hi1] at e h1; injection e with _ _ e3; subst e3; exact ⟨h1, h2⟩
        unfold maxLen at hcap8
        obtain ⟨hcap8, hcap9⟩ := hcap8
        have hS7 : (fun W => W.cell? ⟨t, 0, none⟩ = some (.slice va l.length vc) ∧ W.cell? ⟨w.heap.size, 0, none⟩ = some (.int .i64 a.n) ∧ W.cell? ⟨w.heap.size, 1, none⟩ = some (.int .i64 a.r) ∧ W.cell? ⟨w.heap.size + 1, 0, none⟩ = some (.int .i64 b.n) ∧ W.cell? ⟨w.heap.size + 1, 1, none⟩ = some (.int .i64 b.r) ∧ W.cell? ⟨w.heap.size + 1 + 1, 0, none⟩ = some (.int .i64 u.n) ∧ W.cell? ⟨w.heap.size + 1 + 1, 1, none⟩ = some (.int .i64 u.r) ∧ W.frozen? ⟨t, 0, none⟩ = false) w7 := ⟨x7.keep (cell_alloc q0 _) n0, x7.keep (cell_alloc r0 _) n1, x7.keep (cell_alloc r1 _) n2, x7.keep (cell_alloc r2 _) n3, x7.keep (cell_alloc r3 _) n4, x7.keep (cell_alloc r4 _) n5, x7.keep (cell_alloc r5 _) n6, (x7.frozen (p := ⟨t, 0, none⟩) (cell_lt (cell_alloc q0 _)) n0).trans (frozen_alloc f0 _ q0)⟩
        have t7 := hS7.1
        have g7 := hS7.2.2.2.2.2.2.2
        refine ⟨_, rfl, fun _ => hS7, ?_⟩
        clear hown7 x7
        refine wpAnyZ_ran (i := 14) (by kernel_rfl) rfl (by simp [Region.wanted]) (by go_simp; first | rfl | exact ⟨rfl, rfl⟩ | exact ⟨⟨rfl, rfl⟩, rfl⟩) (fun _ => hS7) ?_
        refine wpAnyZ_ran (i := 15) (by kernel_rfl) rfl (by simp [Region.wanted]) (by go_simp; first | rfl | exact ⟨rfl, rfl⟩ | exact ⟨⟨rfl, rfl⟩, rfl⟩) (fun _ => hS7) ?_
        refine wpAnyZ_mute (i := 16) (by kernel_rfl) rfl (by simp [Region.wanted]) (by go_simp; first | rfl | exact ⟨rfl, rfl⟩ | exact ⟨⟨rfl, rfl⟩, rfl⟩) (fun e => absurd rfl e) ?_
        refine wpAnyZ_done (by kernel_rfl) ?_ _
        clear hS7 hS1 hS0 HINS HBT HMP HOWN t7 g7 r0 r1 r2 r3 r4 r5 q0 q1 f0 t0 t1
        generalize w7.setCell ⟨t, 0, none⟩ (.slice (some ⟨g, 0, none⟩) (l.length + 1) cap) = w8 at *
        have HD8 := Lib.hid hD8
        have HXA := Lib.hid xA
        clear hD8 xA
        go_wp2_with fail
        go_loopg [14] (l.length + 1 - i) (fun gg kv wx => ∃ k : Nat, gg = l.length + 1 - k ∧ i ≤ k ∧ k ≤ l.length + 1 ∧ kv = .int .i64 k ∧ wx.cell? ⟨t, 0, none⟩ = some (.slice (some ⟨g, 0, none⟩) (l.length + 1) cap) ∧ Hid (∃ lk hlk, lk.length = l.length + 1 ∧ DoInv base wx t mh g cap ((insM l i ⟨a, ⟨b, ⟨u.n, u.r⟩, key⟩, false, none⟩).map Mv.core) k lk hlk) ∧ Hid (Ext (fun b => b = g ∨ b = mh) w8 wx))
        case atStart => exact ⟨i, rfl, Nat.le_refl _, by omega, rfl, c80, ⟨_, _, insM_length l i _ hi1, HD8.out⟩, Ext.refl _ _⟩
        case round =>
          obtain ⟨k, hg, hik, hkl, rfl, p0, hDk, hxk⟩ := hrel
          have HG2 := Lib.hid hg
          clear hg c80
          by_cases hlt2 : k < l.length + 1
          · obtain ⟨lk, hlk, hlen, hD⟩ := hDk.out
            obtain ⟨m, hm⟩ : ∃ m, lk[k]? = some m := ⟨_, List.getElem?_eq_getElem (by omega)⟩
            have hS := hD.step hm
            have HS := Lib.hid hS
            clear hS hD hm
            go_wp2_with fail
            refine Calls.mono HS.out ?_
            rintro e w9 ⟨⟨v9, rfl⟩, ⟨l9, hl9, hD9, hlen9⟩, x9⟩
            have p9 := cell_of hD9.blk
            rw [hlen9, hlen] at p9
            have HD9 : Hid (∃ lk hlk, lk.length = l.length + 1 ∧ DoInv base w9 t mh g cap ((insM l i ⟨a, ⟨b, ⟨u.n, u.r⟩, key⟩, false, none⟩).map Mv.core) (k + 1) lk hlk) := ⟨l9, hl9, hlen9.trans hlen, hD9⟩
            have HX9 := Lib.hid (hxk.out.trans x9)
            clear HS hD9 x9 hxk hDk p0 hlen hlen9
            go_wp2_with fail
            go_roundg (l.length + 1 - (k + 1))
            case measure => rw [HG2.out]; omega
            case rel => exact ⟨k + 1, rfl, by omega, by omega, by go_num, p9, HD9, HX9⟩
          · obtain ⟨lk, hlk, hlen, hD⟩ := hDk.out
            have hF := loop_end HT.out hb0 HXA.out HD8.out hxk.out hD (by omega) hi1 HI2.out HIN.out rfl
            have HF := Lib.hid hF
            have HSM := Lib.hid hD.same
            clear hF hD
            go_wp2_with fail
            go_ret
            exact ⟨rfl, _, lk, hlk, i, _, HF.out.1, hi1, HI2.out, rfl, HSM.out, HF.out.2⟩

end Go.Proofs.Ytilonmpcifohiaa
