/- Contracts of package registers: New, Set, Get. -/
import Derived.Test.YtkkffnejgbhbmaaKeysReg
import Derived.BigQuiet
import Derived.Deep.QuietTactic
import Derived.Deep.RegionHeld3
namespace Go.Proofs.Ytkkffnejgbhbmaa
open Go.RowKit
set_option linter.unusedSimpArgs false
set_option linter.unusedVariables false

/-- What was written last: when, and what. -/
structure Wr where
  at_ : St
  value : ByteArray
  deriving DecidableEq
def Wr.val (x : Wr) : Value := .agg #[.int .i64 x.at_.n, .int .i64 x.at_.r, .string x.value]

/-- A pointer's block r is a Registers. -/
structure RegIs (w : World) (r mv ma : Nat) (vs : List (Pl × Wr)) (ats : List (St × Bool)) : Prop where
  c0 : w.cell? ⟨r, 0, none⟩ = some (.map (some mv))
  c1 : w.cell? ⟨r, 1, none⟩ = some (.map (some ma))
  hv : MapIs Pl.val Wr.val w mv vs
  ha : MapIs St.val Value.bool w ma ats
  ne : mv ≠ ma

theorem zero_bool (w : World) : (zeroValue 4).run Try.prog w = .ok (.bool false) w := by kernel_rfl
theorem zero_written (w : World) : (zeroValue 56).run Try.prog w = .ok (.agg #[.int .i64 0, .int .i64 0, .string ⟨#[]⟩]) w := by kernel_rfl
theorem und_ats : Try.prog.underlying 48 = some (.map 30 4) := by kernel_rfl
theorem und_vals : Try.prog.underlying 47 = some (.map 53 56) := by kernel_rfl

set_option maxHeartbeats 400000 in
theorem new_any (w : World) : Calls Try.prog 7 #[] w fun e w' =>
    e = .returned (.pointer (some ⟨w.heap.size + 2, 0, none⟩)) ∧ w' = ((w.alloc (.map #[] 0)).alloc (.map #[] 0)).alloc (.cells #[.map (some w.heap.size), .map (some (w.heap.size + 1))] 50) := by
  have hmm := @run_makeMap Try.prog
  go_enter Try.func7, Try.ntmps7
  go_wp2
  go_ret
  exact ⟨rfl, rfl⟩

attribute [local go_sem] MapIs.alloc MapIs.drew MapIs.setCell

set_option maxHeartbeats 400000 in
theorem set_bad (r mv ma : Nat) (vs : List (Pl × Wr)) (ats : List (St × Bool)) (an ar bn br : Int) (nm vl : ByteArray) (w : World) (h : RegIs w r mv ma vs ats) (hr : rightB ⟨an, ar⟩ = false) :
    Calls Try.prog 9 #[.pointer (some ⟨r, 0, none⟩), .agg #[.int .i64 an, .int .i64 ar], .agg #[.int .i64 bn, .int .i64 br], .string nm, .string vl] w
      fun e w' => e = .returned (.int .i64 1) ∧ Below w.heap.size w w' := by
  clear h
  go_enter Try.func9, Try.ntmps9
  go_wp2_with (go_at_call 16; refine (right_any _ _ _).mono ?_; rintro e w' ⟨rfl, hb⟩)
  go_ret
  exact ⟨rfl, ((((Below.refl _ _).alloc (Nat.le_refl _) _).alloc (by simp) _).trans (hb.mono (by simp <;> omega)))⟩

set_option maxHeartbeats 400000 in
theorem set_twice (r mv ma : Nat) (vs : List (Pl × Wr)) (ats : List (St × Bool)) (an ar bn br : Int) (nm vl : ByteArray) (w : World) (h : RegIs w r mv ma vs ats) (hr : rightB ⟨an, ar⟩ = true)
    (ht : (aget ats ⟨an, ar⟩).getD false = true) :
    Calls Try.prog 9 #[.pointer (some ⟨r, 0, none⟩), .agg #[.int .i64 an, .int .i64 ar], .agg #[.int .i64 bn, .int .i64 br], .string nm, .string vl] w
      fun e w' => e = .returned (.int .i64 151) ∧ Below w.heap.size w w' := by
  obtain ⟨c0, c1, h2, h3, h4⟩ := h
  have hl : ∀ W, MapIs St.val Value.bool W ma ats → (Instr.lookup 48 (.map (some ma)) (.agg #[.int .i64 an, .int .i64 ar]) false).run Try.prog W = .ok (.bool true) W := fun W hW => by
    have := hW.lookup key_stamp und_ats zero_bool ⟨an, ar⟩
    simp only [St.val] at this
    rw [this]
    cases hg : aget ats ⟨an, ar⟩ with
    | none => rw [hg] at ht; cases ht
    | some x => rw [hg] at ht; simp at ht; subst ht; rfl
  clear ht
  go_enter Try.func9, Try.ntmps9
  go_wp2_with (go_at_call 16; refine (right_any _ _ _).mono ?_; rintro e w' ⟨rfl, hb⟩)
  have hm : MapIs St.val Value.bool w' ma ats := ((h3.alloc _).alloc _).below hb
  have k1 := keepB hb (cell_alloc (cell_alloc c1 _) _)
  have k2 : w'.cell? ⟨w.heap.size, 0, none⟩ = some (.int .i64 an) := keepB hb (by go_simp)
  have k3 : w'.cell? ⟨w.heap.size, 1, none⟩ = some (.int .i64 ar) := keepB hb (by go_simp)
  go_region_held3 (fun W => W.cell? ⟨r, 1, none⟩ = some (.map (some ma)) ∧ W.cell? ⟨w.heap.size, 0, none⟩ = some (.int .i64 an) ∧ W.cell? ⟨w.heap.size, 1, none⟩ = some (.int .i64 ar) ∧ MapIs St.val Value.bool W ma ats) (simp [*, MapIs.drew]) (fail)
  go_wp2
  go_ret
  exact ⟨rfl, ((((Below.refl _ _).alloc (Nat.le_refl _) _).alloc (by simp) _).trans (hb.mono (by simp <;> omega))).drew⟩

attribute [local go_sem] mapPut_cell mapPut_frozen mapPut_size mapPut_drew

def atOf (x : Option Wr) : St := match x with | some y => y.at_ | none => ⟨0, 0⟩

set_option maxHeartbeats 1000000 in
theorem set_less (r mv ma : Nat) (vs : List (Pl × Wr)) (ats : List (St × Bool)) (an ar bn br : Int) (nm vl : ByteArray) (w : World) (h : RegIs w r mv ma vs ats) (hr : rightB ⟨an, ar⟩ = true)
    (ht : (aget ats ⟨an, ar⟩).getD false = false) (hc : cmpS (atOf (aget vs ⟨⟨bn, br⟩, nm⟩)) ⟨an, ar⟩ < 0) :
    Calls Try.prog 9 #[.pointer (some ⟨r, 0, none⟩), .agg #[.int .i64 an, .int .i64 ar], .agg #[.int .i64 bn, .int .i64 br], .string nm, .string vl] w
      fun e w' => e = .returned (.int .i64 0) ∧ RegIs w' r mv ma (aset vs ⟨⟨bn, br⟩, nm⟩ ⟨⟨an, ar⟩, vl⟩) (aset ats ⟨an, ar⟩ true) ∧ Ext (fun k => k = mv ∨ k = ma) w w' := by
  obtain ⟨c0, c1, h2, h3, h4⟩ := h
  have hl : ∀ W, MapIs St.val Value.bool W ma ats → (Instr.lookup 48 (.map (some ma)) (.agg #[.int .i64 an, .int .i64 ar]) false).run Try.prog W = .ok (.bool false) W := fun W hW => by
    have := hW.lookup key_stamp und_ats zero_bool ⟨an, ar⟩
    simp only [St.val] at this
    rw [this]
    cases hg : aget ats ⟨an, ar⟩ with
    | none => rfl
    | some x => rw [hg] at ht; simp at ht; subst ht; rfl
  clear ht
  have hu : ∀ W, MapIs St.val Value.bool W ma ats → (Instr.mapUpdate 48 (.map (some ma)) (.agg #[.int .i64 an, .int .i64 ar]) (.bool true)).run Try.prog W = .ok () (mapPut W ma (aidx ats ⟨an, ar⟩) (.agg #[.int .i64 an, .int .i64 ar]) (.bool true)) :=
    fun W hW => hW.update key_stamp und_ats ⟨an, ar⟩ (.bool true)
  obtain ⟨a1, a2, hat⟩ : ∃ a1 a2, atOf (aget vs ⟨⟨bn, br⟩, nm⟩) = ⟨a1, a2⟩ := ⟨_, _, rfl⟩
  rw [hat] at hc
  obtain ⟨x3, hl2⟩ : ∃ x3, ∀ W, MapIs Pl.val Wr.val W mv vs → (Instr.lookup 47 (.map (some mv)) (.agg #[.int .i64 bn, .int .i64 br, .string nm]) false).run Try.prog W = .ok (.agg #[.int .i64 a1, .int .i64 a2, .string x3]) W := by
    cases hg : aget vs ⟨⟨bn, br⟩, nm⟩ with
    | none =>
      rw [hg] at hat
      cases hat
      refine ⟨⟨#[]⟩, fun W hW => ?_⟩
      have := hW.lookup key_place und_vals zero_written ⟨⟨bn, br⟩, nm⟩
      rw [hg] at this
      exact this
    | some x =>
      rw [hg] at hat
      obtain ⟨⟨y1, y2⟩, y3⟩ := x
      cases hat
      refine ⟨y3, fun W hW => ?_⟩
      have := hW.lookup key_place und_vals zero_written ⟨⟨bn, br⟩, nm⟩
      rw [hg] at this
      exact this
  clear hat
  have hu2 : ∀ W, MapIs Pl.val Wr.val W mv vs → (Instr.mapUpdate 47 (.map (some mv)) (.agg #[.int .i64 bn, .int .i64 br, .string nm]) (.agg #[.int .i64 an, .int .i64 ar, .string vl])).run Try.prog W = .ok () (mapPut W mv (aidx vs ⟨⟨bn, br⟩, nm⟩) (.agg #[.int .i64 bn, .int .i64 br, .string nm]) (.agg #[.int .i64 an, .int .i64 ar, .string vl])) :=
    fun W hW => hW.update key_place und_vals ⟨⟨bn, br⟩, nm⟩ _
  have hfd : ∀ W, (Instr.field 56 (.agg #[.int .i64 a1, .int .i64 a2, .string x3]) 0).run Try.prog W = .ok (.agg #[.int .i64 a1, .int .i64 a2]) W := fun _ => by kernel_rfl
  go_enter Try.func9, Try.ntmps9
  go_wp2_with (go_at_call 16; refine (right_any _ _ _).mono ?_; rintro e w' ⟨rfl, hb⟩)
  have hm : MapIs St.val Value.bool w' ma ats := ((h3.alloc _).alloc _).below hb
  have hm2 : MapIs Pl.val Wr.val w' mv vs := ((h2.alloc _).alloc _).below hb
  have k0 := keepB hb (cell_alloc (cell_alloc c0 _) _)
  have k1 := keepB hb (cell_alloc (cell_alloc c1 _) _)
  have k2 : w'.cell? ⟨w.heap.size, 0, none⟩ = some (.int .i64 an) := keepB hb (by go_simp)
  have k3 : w'.cell? ⟨w.heap.size, 1, none⟩ = some (.int .i64 ar) := keepB hb (by go_simp)
  have k4 : w'.cell? ⟨w.heap.size + 1, 0, none⟩ = some (.int .i64 bn) := keepB hb (by go_simp)
  have k5 : w'.cell? ⟨w.heap.size + 1, 1, none⟩ = some (.int .i64 br) := keepB hb (by go_simp)
  have hx : Ext (fun k => k = mv ∨ k = ma) w w' := ((((Ext.refl _ _).alloc _).alloc _).then_below hb)
  have z1 := cell_lt k0
  have z2 := cell_lt k4
  clear hb
  go_region_held3 (fun W => W.cell? ⟨r, 1, none⟩ = some (.map (some ma)) ∧ W.cell? ⟨w.heap.size, 0, none⟩ = some (.int .i64 an) ∧ W.cell? ⟨w.heap.size, 1, none⟩ = some (.int .i64 ar) ∧ MapIs St.val Value.bool W ma ats) (simp [*, MapIs.drew]) (fail)
  go_wp2
  go_region_held3 (fun W => W.cell? ⟨r, 1, none⟩ = some (.map (some ma)) ∧ W.cell? ⟨w.heap.size, 0, none⟩ = some (.int .i64 an) ∧ W.cell? ⟨w.heap.size, 1, none⟩ = some (.int .i64 ar)) (simp [*, MapIs.drew, mapPut_cell]) (fail)
  go_wp2
  have q1 : MapIs Pl.val Wr.val (mapPut w' ma (aidx ats ⟨an, ar⟩) (.agg #[.int .i64 an, .int .i64 ar]) (.bool true)) mv vs := hm2.put_other _ _ _ h4
  have q2 : MapIs St.val Value.bool (mapPut w' ma (aidx ats ⟨an, ar⟩) (.agg #[.int .i64 an, .int .i64 ar]) (.bool true)) ma (aset ats ⟨an, ar⟩ true) := hm.put ⟨an, ar⟩ true
  have q3 := hx.mapPut (b := ma) (.inl (.inr rfl)) (aidx ats ⟨an, ar⟩) (.agg #[.int .i64 an, .int .i64 ar]) (.bool true)
  have j0 := (mapPut_cell w' ma (aidx ats ⟨an, ar⟩) (.agg #[.int .i64 an, .int .i64 ar]) (.bool true) ⟨r, 0, none⟩).trans k0
  have j1 := (mapPut_cell w' ma (aidx ats ⟨an, ar⟩) (.agg #[.int .i64 an, .int .i64 ar]) (.bool true) ⟨r, 1, none⟩).trans k1
  have j2 := (mapPut_cell w' ma (aidx ats ⟨an, ar⟩) (.agg #[.int .i64 an, .int .i64 ar]) (.bool true) ⟨w.heap.size, 0, none⟩).trans k2
  have j3 := (mapPut_cell w' ma (aidx ats ⟨an, ar⟩) (.agg #[.int .i64 an, .int .i64 ar]) (.bool true) ⟨w.heap.size, 1, none⟩).trans k3
  rw [← mapPut_size w' ma (aidx ats ⟨an, ar⟩) (.agg #[.int .i64 an, .int .i64 ar]) (.bool true)]
  clear hm hm2 k0 k1 k2 k3 k4 k5 hx hl hu z1 z2
  generalize mapPut w' ma (aidx ats ⟨an, ar⟩) (.agg #[.int .i64 an, .int .i64 ar]) (.bool true) = w2 at *
  have i4 : (w2.alloc (.cells #[.int .i64 bn, .int .i64 br, .string nm] 53)).cell? ⟨w2.heap.size, 0, none⟩ = some (.int .i64 bn) := by go_simp
  have i5 : (w2.alloc (.cells #[.int .i64 bn, .int .i64 br, .string nm] 53)).cell? ⟨w2.heap.size, 1, none⟩ = some (.int .i64 br) := by go_simp
  have i6 : (w2.alloc (.cells #[.int .i64 bn, .int .i64 br, .string nm] 53)).cell? ⟨w2.heap.size, 2, none⟩ = some (.string nm) := by go_simp
  have i0 := cell_alloc j0 (.cells #[.int .i64 bn, .int .i64 br, .string nm] 53)
  have i1 := cell_alloc j1 (.cells #[.int .i64 bn, .int .i64 br, .string nm] 53)
  have i2 := cell_alloc j2 (.cells #[.int .i64 bn, .int .i64 br, .string nm] 53)
  have i3 := cell_alloc j3 (.cells #[.int .i64 bn, .int .i64 br, .string nm] 53)
  have p1 := q1.alloc (.cells #[.int .i64 bn, .int .i64 br, .string nm] 53)
  have p2 := q2.alloc (.cells #[.int .i64 bn, .int .i64 br, .string nm] 53)
  have p3 := q3.alloc (.cells #[.int .i64 bn, .int .i64 br, .string nm] 53)
  clear j0 j1 j2 j3 q1 q2 q3
  generalize w2.heap.size = N2 at *
  generalize w2.alloc (.cells #[.int .i64 bn, .int .i64 br, .string nm] 53) = w3 at *
  go_region_held3 (fun W => W.cell? ⟨r, 0, none⟩ = some (.map (some mv)) ∧ W.cell? ⟨w.heap.size, 0, none⟩ = some (.int .i64 an) ∧ W.cell? ⟨w.heap.size, 1, none⟩ = some (.int .i64 ar) ∧ W.cell? ⟨N2, 0, none⟩ = some (.int .i64 bn) ∧ W.cell? ⟨N2, 1, none⟩ = some (.int .i64 br) ∧ W.cell? ⟨N2, 2, none⟩ = some (.string nm) ∧ MapIs Pl.val Wr.val W mv vs) (first | exact ⟨i0, i2, i3, i4, i5, i6, p1⟩ | exact ⟨keepB hb4 i0, keepB hb4 i2, keepB hb4 i3, keepB hb4 i4, keepB hb4 i5, keepB hb4 i6, p1.below hb4⟩) ((go_at_call 17; refine (compare_any _ _ _ _ _).mono ?_; rintro e w4 ⟨rfl, hb4⟩; simp only [heap_drew, below_drew] at hb4))
  go_wp2
  replace i0 := keepB hb4 i0
  replace i1 := keepB hb4 i1
  replace i2 := keepB hb4 i2
  replace i3 := keepB hb4 i3
  replace i4 := keepB hb4 i4
  replace i5 := keepB hb4 i5
  replace i6 := keepB hb4 i6
  replace p1 := p1.below hb4
  replace p2 := p2.below hb4
  replace p3 := p3.then_below hb4
  clear hb4 hl2 hfd
  go_region_held3 (fun W => W.cell? ⟨r, 0, none⟩ = some (.map (some mv)) ∧ W.cell? ⟨w.heap.size, 0, none⟩ = some (.int .i64 an) ∧ W.cell? ⟨w.heap.size, 1, none⟩ = some (.int .i64 ar) ∧ W.cell? ⟨N2, 0, none⟩ = some (.int .i64 bn) ∧ W.cell? ⟨N2, 1, none⟩ = some (.int .i64 br) ∧ W.cell? ⟨N2, 2, none⟩ = some (.string nm)) (first | exact ⟨i0, i2, i3, i4, i5, i6⟩ | simp [*, mapPut_cell]) (fail)
  go_wp2
  go_ret
  exact ⟨rfl, ⟨(mapPut_cell _ _ _ _ _ _).trans i0, (mapPut_cell _ _ _ _ _ _).trans i1, p1.put ⟨⟨bn, br⟩, nm⟩ ⟨⟨an, ar⟩, vl⟩, p2.put_other _ _ _ (Ne.symm h4), h4⟩, (p3.mapPut (.inl (.inl rfl)) _ _ _).drew⟩

set_option maxHeartbeats 1000000 in
theorem set_geq (r mv ma : Nat) (vs : List (Pl × Wr)) (ats : List (St × Bool)) (an ar bn br : Int) (nm vl : ByteArray) (w : World) (h : RegIs w r mv ma vs ats) (hr : rightB ⟨an, ar⟩ = true)
    (ht : (aget ats ⟨an, ar⟩).getD false = false) (hc : decide (cmpS (atOf (aget vs ⟨⟨bn, br⟩, nm⟩)) ⟨an, ar⟩ < 0) = false) :
    Calls Try.prog 9 #[.pointer (some ⟨r, 0, none⟩), .agg #[.int .i64 an, .int .i64 ar], .agg #[.int .i64 bn, .int .i64 br], .string nm, .string vl] w
      fun e w' => e = .returned (.int .i64 0) ∧ RegIs w' r mv ma vs (aset ats ⟨an, ar⟩ true) ∧ Ext (fun k => k = mv ∨ k = ma) w w' := by
  obtain ⟨c0, c1, h2, h3, h4⟩ := h
  have hl : ∀ W, MapIs St.val Value.bool W ma ats → (Instr.lookup 48 (.map (some ma)) (.agg #[.int .i64 an, .int .i64 ar]) false).run Try.prog W = .ok (.bool false) W := fun W hW => by
    have := hW.lookup key_stamp und_ats zero_bool ⟨an, ar⟩
    simp only [St.val] at this
    rw [this]
    cases hg : aget ats ⟨an, ar⟩ with
    | none => rfl
    | some x => rw [hg] at ht; simp at ht; subst ht; rfl
  clear ht
  have hu : ∀ W, MapIs St.val Value.bool W ma ats → (Instr.mapUpdate 48 (.map (some ma)) (.agg #[.int .i64 an, .int .i64 ar]) (.bool true)).run Try.prog W = .ok () (mapPut W ma (aidx ats ⟨an, ar⟩) (.agg #[.int .i64 an, .int .i64 ar]) (.bool true)) :=
    fun W hW => hW.update key_stamp und_ats ⟨an, ar⟩ (.bool true)
  obtain ⟨a1, a2, hat⟩ : ∃ a1 a2, atOf (aget vs ⟨⟨bn, br⟩, nm⟩) = ⟨a1, a2⟩ := ⟨_, _, rfl⟩
  rw [hat] at hc
  obtain ⟨x3, hl2⟩ : ∃ x3, ∀ W, MapIs Pl.val Wr.val W mv vs → (Instr.lookup 47 (.map (some mv)) (.agg #[.int .i64 bn, .int .i64 br, .string nm]) false).run Try.prog W = .ok (.agg #[.int .i64 a1, .int .i64 a2, .string x3]) W := by
    cases hg : aget vs ⟨⟨bn, br⟩, nm⟩ with
    | none =>
      rw [hg] at hat
      cases hat
      refine ⟨⟨#[]⟩, fun W hW => ?_⟩
      have := hW.lookup key_place und_vals zero_written ⟨⟨bn, br⟩, nm⟩
      rw [hg] at this
      exact this
    | some x =>
      rw [hg] at hat
      obtain ⟨⟨y1, y2⟩, y3⟩ := x
      cases hat
      refine ⟨y3, fun W hW => ?_⟩
      have := hW.lookup key_place und_vals zero_written ⟨⟨bn, br⟩, nm⟩
      rw [hg] at this
      exact this
  clear hat
  have hfd : ∀ W, (Instr.field 56 (.agg #[.int .i64 a1, .int .i64 a2, .string x3]) 0).run Try.prog W = .ok (.agg #[.int .i64 a1, .int .i64 a2]) W := fun _ => by kernel_rfl
  go_enter Try.func9, Try.ntmps9
  go_wp2_with (go_at_call 16; refine (right_any _ _ _).mono ?_; rintro e w' ⟨rfl, hb⟩)
  have hm : MapIs St.val Value.bool w' ma ats := ((h3.alloc _).alloc _).below hb
  have hm2 : MapIs Pl.val Wr.val w' mv vs := ((h2.alloc _).alloc _).below hb
  have k0 := keepB hb (cell_alloc (cell_alloc c0 _) _)
  have k1 := keepB hb (cell_alloc (cell_alloc c1 _) _)
  have k2 : w'.cell? ⟨w.heap.size, 0, none⟩ = some (.int .i64 an) := keepB hb (by go_simp)
  have k3 : w'.cell? ⟨w.heap.size, 1, none⟩ = some (.int .i64 ar) := keepB hb (by go_simp)
  have k4 : w'.cell? ⟨w.heap.size + 1, 0, none⟩ = some (.int .i64 bn) := keepB hb (by go_simp)
  have k5 : w'.cell? ⟨w.heap.size + 1, 1, none⟩ = some (.int .i64 br) := keepB hb (by go_simp)
  have hx : Ext (fun k => k = mv ∨ k = ma) w w' := ((((Ext.refl _ _).alloc _).alloc _).then_below hb)
  have z1 := cell_lt k0
  have z2 := cell_lt k4
  clear hb
  go_region_held3 (fun W => W.cell? ⟨r, 1, none⟩ = some (.map (some ma)) ∧ W.cell? ⟨w.heap.size, 0, none⟩ = some (.int .i64 an) ∧ W.cell? ⟨w.heap.size, 1, none⟩ = some (.int .i64 ar) ∧ MapIs St.val Value.bool W ma ats) (simp [*, MapIs.drew]) (fail)
  go_wp2
  go_region_held3 (fun W => W.cell? ⟨r, 1, none⟩ = some (.map (some ma)) ∧ W.cell? ⟨w.heap.size, 0, none⟩ = some (.int .i64 an) ∧ W.cell? ⟨w.heap.size, 1, none⟩ = some (.int .i64 ar)) (simp [*, MapIs.drew, mapPut_cell]) (fail)
  go_wp2
  have q1 : MapIs Pl.val Wr.val (mapPut w' ma (aidx ats ⟨an, ar⟩) (.agg #[.int .i64 an, .int .i64 ar]) (.bool true)) mv vs := hm2.put_other _ _ _ h4
  have q2 : MapIs St.val Value.bool (mapPut w' ma (aidx ats ⟨an, ar⟩) (.agg #[.int .i64 an, .int .i64 ar]) (.bool true)) ma (aset ats ⟨an, ar⟩ true) := hm.put ⟨an, ar⟩ true
  have q3 := hx.mapPut (b := ma) (.inl (.inr rfl)) (aidx ats ⟨an, ar⟩) (.agg #[.int .i64 an, .int .i64 ar]) (.bool true)
  have j0 := (mapPut_cell w' ma (aidx ats ⟨an, ar⟩) (.agg #[.int .i64 an, .int .i64 ar]) (.bool true) ⟨r, 0, none⟩).trans k0
  have j1 := (mapPut_cell w' ma (aidx ats ⟨an, ar⟩) (.agg #[.int .i64 an, .int .i64 ar]) (.bool true) ⟨r, 1, none⟩).trans k1
  have j2 := (mapPut_cell w' ma (aidx ats ⟨an, ar⟩) (.agg #[.int .i64 an, .int .i64 ar]) (.bool true) ⟨w.heap.size, 0, none⟩).trans k2
  have j3 := (mapPut_cell w' ma (aidx ats ⟨an, ar⟩) (.agg #[.int .i64 an, .int .i64 ar]) (.bool true) ⟨w.heap.size, 1, none⟩).trans k3
  rw [← mapPut_size w' ma (aidx ats ⟨an, ar⟩) (.agg #[.int .i64 an, .int .i64 ar]) (.bool true)]
  clear hm hm2 k0 k1 k2 k3 k4 k5 hx hl hu z1 z2
  generalize mapPut w' ma (aidx ats ⟨an, ar⟩) (.agg #[.int .i64 an, .int .i64 ar]) (.bool true) = w2 at *
  have i4 : (w2.alloc (.cells #[.int .i64 bn, .int .i64 br, .string nm] 53)).cell? ⟨w2.heap.size, 0, none⟩ = some (.int .i64 bn) := by go_simp
  have i5 : (w2.alloc (.cells #[.int .i64 bn, .int .i64 br, .string nm] 53)).cell? ⟨w2.heap.size, 1, none⟩ = some (.int .i64 br) := by go_simp
  have i6 : (w2.alloc (.cells #[.int .i64 bn, .int .i64 br, .string nm] 53)).cell? ⟨w2.heap.size, 2, none⟩ = some (.string nm) := by go_simp
  have i0 := cell_alloc j0 (.cells #[.int .i64 bn, .int .i64 br, .string nm] 53)
  have i1 := cell_alloc j1 (.cells #[.int .i64 bn, .int .i64 br, .string nm] 53)
  have i2 := cell_alloc j2 (.cells #[.int .i64 bn, .int .i64 br, .string nm] 53)
  have i3 := cell_alloc j3 (.cells #[.int .i64 bn, .int .i64 br, .string nm] 53)
  have p1 := q1.alloc (.cells #[.int .i64 bn, .int .i64 br, .string nm] 53)
  have p2 := q2.alloc (.cells #[.int .i64 bn, .int .i64 br, .string nm] 53)
  have p3 := q3.alloc (.cells #[.int .i64 bn, .int .i64 br, .string nm] 53)
  clear j0 j1 j2 j3 q1 q2 q3
  generalize w2.heap.size = N2 at *
  generalize w2.alloc (.cells #[.int .i64 bn, .int .i64 br, .string nm] 53) = w3 at *
  go_region_held3 (fun W => W.cell? ⟨r, 0, none⟩ = some (.map (some mv)) ∧ W.cell? ⟨w.heap.size, 0, none⟩ = some (.int .i64 an) ∧ W.cell? ⟨w.heap.size, 1, none⟩ = some (.int .i64 ar) ∧ W.cell? ⟨N2, 0, none⟩ = some (.int .i64 bn) ∧ W.cell? ⟨N2, 1, none⟩ = some (.int .i64 br) ∧ W.cell? ⟨N2, 2, none⟩ = some (.string nm) ∧ MapIs Pl.val Wr.val W mv vs) (first | exact ⟨i0, i2, i3, i4, i5, i6, p1⟩ | exact ⟨keepB hb4 i0, keepB hb4 i2, keepB hb4 i3, keepB hb4 i4, keepB hb4 i5, keepB hb4 i6, p1.below hb4⟩) ((go_at_call 17; refine (compare_any _ _ _ _ _).mono ?_; rintro e w4 ⟨rfl, hb4⟩; simp only [heap_drew, below_drew] at hb4))
  go_wp2
  go_ret
  exact ⟨rfl, ⟨keepB hb4 i0, keepB hb4 i1, p1.below hb4, p2.below hb4, h4⟩, p3.then_below hb4⟩


/-- What Set answers, and what it leaves. -/
def setCode (ats : List (St × Bool)) (a : St) : Int := if rightB a = false then 1 else if (aget ats a).getD false = true then 151 else 0
def setAts (ats : List (St × Bool)) (a : St) : List (St × Bool) := if setCode ats a = 0 then aset ats a true else ats
def setVals (vs : List (Pl × Wr)) (ats : List (St × Bool)) (a : St) (p : Pl) (v : ByteArray) : List (Pl × Wr) :=
  if setCode ats a = 0 ∧ cmpS (atOf (aget vs p)) a < 0 then aset vs p ⟨a, v⟩ else vs

theorem RegIs.below {w w' : World} {r mv ma : Nat} {vs : List (Pl × Wr)} {ats : List (St × Bool)} (h : RegIs w r mv ma vs ats) (hb : Below w.heap.size w w') : RegIs w' r mv ma vs ats :=
  ⟨keepB hb h.c0, keepB hb h.c1, h.hv.below hb, h.ha.below hb, h.ne⟩
theorem RegIs.ext {w w' : World} {r mv ma : Nat} {vs : List (Pl × Wr)} {ats : List (St × Bool)} (h : RegIs w r mv ma vs ats) {S : Nat → Prop} (hb : Ext S w w') (h1 : ¬ S r) (h2 : ¬ S mv) (h3 : ¬ S ma) : RegIs w' r mv ma vs ats :=
  ⟨hb.keep h.c0 h1, hb.keep h.c1 h1, h.hv.ext hb h2, h.ha.ext hb h3, h.ne⟩

theorem set_any (r mv ma : Nat) (vs : List (Pl × Wr)) (ats : List (St × Bool)) (an ar bn br : Int) (nm vl : ByteArray) (w : World) (h : RegIs w r mv ma vs ats) :
    Calls Try.prog 9 #[.pointer (some ⟨r, 0, none⟩), .agg #[.int .i64 an, .int .i64 ar], .agg #[.int .i64 bn, .int .i64 br], .string nm, .string vl] w
      fun e w' => e = .returned (.int .i64 (setCode ats ⟨an, ar⟩)) ∧ RegIs w' r mv ma (setVals vs ats ⟨an, ar⟩ ⟨⟨bn, br⟩, nm⟩ vl) (setAts ats ⟨an, ar⟩) ∧ Ext (fun k => k = mv ∨ k = ma) w w' := by
  by_cases hr : rightB ⟨an, ar⟩ = true
  · by_cases ht : (aget ats ⟨an, ar⟩).getD false = true
    · have e1 : setCode ats ⟨an, ar⟩ = 151 := by simp [setCode, hr, ht]
      rw [setVals, setAts, e1, if_neg (by simp), if_neg (by simp)]
      exact (set_twice r mv ma vs ats an ar bn br nm vl w h hr ht).mono fun e w' ⟨he, hb⟩ => ⟨he, h.below hb, Ext.of_below hb⟩
    · have ht' : (aget ats ⟨an, ar⟩).getD false = false := by simpa using ht
      have e1 : setCode ats ⟨an, ar⟩ = 0 := by simp [setCode, hr, ht']
      rw [setVals, setAts, e1, if_pos rfl]
      by_cases hc : cmpS (atOf (aget vs ⟨⟨bn, br⟩, nm⟩)) ⟨an, ar⟩ < 0
      · rw [if_pos ⟨rfl, hc⟩]
        exact set_less r mv ma vs ats an ar bn br nm vl w h hr ht' hc
      · rw [if_neg (fun x => hc x.2)]
        exact set_geq r mv ma vs ats an ar bn br nm vl w h hr ht' (by simpa using hc)
  · have hr' : rightB ⟨an, ar⟩ = false := by simpa using hr
    have e1 : setCode ats ⟨an, ar⟩ = 1 := by simp [setCode, hr']
    rw [setVals, setAts, e1, if_neg (by simp), if_neg (by simp)]
    exact (set_bad r mv ma vs ats an ar bn br nm vl w h hr').mono fun e w' ⟨he, hb⟩ => ⟨he, h.below hb, Ext.of_below hb⟩

set_option maxHeartbeats 400000 in
theorem set_nil (an ar bn br : Int) (nm vl : ByteArray) (w : World) :
    Calls Try.prog 9 #[.pointer none, .agg #[.int .i64 an, .int .i64 ar], .agg #[.int .i64 bn, .int .i64 br], .string nm, .string vl] w
      fun e w' => e = .returned (.int .i64 1) ∧ Below w.heap.size w w' := by
  go_enter Try.func9, Try.ntmps9
  go_wp2_with fail
  go_ret
  exact ⟨rfl, ((Below.refl _ _).alloc (Nat.le_refl _) _).alloc (by simp) _⟩

set_option maxHeartbeats 400000 in
theorem get_nil (bn br : Int) (nm : ByteArray) (w : World) :
    Calls Try.prog 11 #[.pointer none, .agg #[.int .i64 bn, .int .i64 br], .string nm] w
      fun e w' => e = .returned (.tuple #[.string ⟨#[]⟩, .bool false]) ∧ Below w.heap.size w w' := by
  go_enter Try.func11, Try.ntmps11
  go_wp2_with fail
  go_ret2
  exact ⟨rfl, (Below.refl _ _).alloc (Nat.le_refl _) _⟩

set_option maxHeartbeats 400000 in
theorem all_nil (bn br : Int) (w : World) :
    Calls Try.prog 14 #[.pointer none, .agg #[.int .i64 bn, .int .i64 br]] w
      fun e w' => e = .returned (.slice none 0 0) ∧ Below w.heap.size w w' := by
  go_enter Try.func14, Try.ntmps14
  go_wp2_with fail
  go_ret
  exact ⟨rfl, (Below.refl _ _).alloc (Nat.le_refl _) _⟩

def valOf (x : Option Wr) : ByteArray := match x with | some y => y.value | none => ⟨#[]⟩

set_option maxHeartbeats 1000000 in
theorem get_any (r mv ma : Nat) (vs : List (Pl × Wr)) (ats : List (St × Bool)) (bn br : Int) (nm : ByteArray) (w : World) (h : RegIs w r mv ma vs ats) :
    Calls Try.prog 11 #[.pointer (some ⟨r, 0, none⟩), .agg #[.int .i64 bn, .int .i64 br], .string nm] w
      fun e w' => e = .returned (.tuple #[.string (valOf (aget vs ⟨⟨bn, br⟩, nm⟩)), .bool (aget vs ⟨⟨bn, br⟩, nm⟩).isSome]) ∧ Below w.heap.size w w' := by
  obtain ⟨c0, c1, h2, h3, h4⟩ := h
  obtain ⟨a1, a2, a3, x, hl2, e3, e4⟩ : ∃ a1 a2 a3 x, (∀ W, MapIs Pl.val Wr.val W mv vs → (Instr.lookup 47 (.map (some mv)) (.agg #[.int .i64 bn, .int .i64 br, .string nm]) true).run Try.prog W = .ok (.tuple #[.agg #[.int .i64 a1, .int .i64 a2, .string a3], .bool x]) W) ∧ valOf (aget vs ⟨⟨bn, br⟩, nm⟩) = a3 ∧ (aget vs ⟨⟨bn, br⟩, nm⟩).isSome = x := by
    cases hg : aget vs ⟨⟨bn, br⟩, nm⟩ with
    | none =>
      refine ⟨0, 0, ⟨#[]⟩, false, fun W hW => ?_, rfl, rfl⟩
      have := hW.lookupOk key_place und_vals zero_written ⟨⟨bn, br⟩, nm⟩
      rw [hg] at this
      exact this
    | some y =>
      obtain ⟨⟨y1, y2⟩, y3⟩ := y
      refine ⟨y1, y2, y3, true, fun W hW => ?_, rfl, rfl⟩
      have := hW.lookupOk key_place und_vals zero_written ⟨⟨bn, br⟩, nm⟩
      rw [hg] at this
      exact this
  rw [e3, e4]
  clear e3 e4
  go_enter Try.func11, Try.ntmps11
  go_wp2_with fail
  have z := cell_lt c0
  have j0 := cell_alloc c0 (.cells #[.int .i64 bn, .int .i64 br] 30)
  have p1 := h2.alloc (.cells #[.int .i64 bn, .int .i64 br] 30)
  have i4 : (w.alloc (.cells #[.int .i64 bn, .int .i64 br] 30)).cell? ⟨w.heap.size, 0, none⟩ = some (.int .i64 bn) := by go_simp
  have i5 : (w.alloc (.cells #[.int .i64 bn, .int .i64 br] 30)).cell? ⟨w.heap.size, 1, none⟩ = some (.int .i64 br) := by go_simp
  have hb : Below w.heap.size w (w.alloc (.cells #[.int .i64 bn, .int .i64 br] 30)) := (Below.refl _ _).alloc (Nat.le_refl _) _
  have hz : w.heap.size < (w.alloc (.cells #[.int .i64 bn, .int .i64 br] 30)).heap.size := by simp
  clear c0 c1 h2 h3
  generalize w.alloc (.cells #[.int .i64 bn, .int .i64 br] 30) = w1 at *
  go_region_held3 (fun W => W.cell? ⟨r, 0, none⟩ = some (.map (some mv)) ∧ W.cell? ⟨w.heap.size, 0, none⟩ = some (.int .i64 bn) ∧ W.cell? ⟨w.heap.size, 1, none⟩ = some (.int .i64 br) ∧ MapIs Pl.val Wr.val W mv vs) (first | exact ⟨j0, i4, i5, p1⟩ | exact ⟨cell_alloc j0 _, cell_alloc i4 _, cell_alloc i5 _, p1.alloc _⟩ | (simp [*, World.cell?_alloc_some, World.cell?_setCell_far])) (fail)
  all_goals go_wp2
  all_goals go_ret2
  all_goals exact ⟨rfl, (hb.alloc (by omega) _).drew⟩

end Go.Proofs.Ytkkffnejgbhbmaa
