/- Contract of bytes.Clone. -/
import Derived.Test.YtmlaojfhmaamcaaStep06
import Derived.Test.YtmlaojfhmaamcaaAppend
import Derived.Lib.SliceRun
namespace Go.Proofs.Ytmlaojfhmaamcaa
open Go.RowKit Go.Deep
set_option linter.unusedSimpArgs false
set_option linter.unusedVariables false

/-- append by an equation of its run. -/
theorem wpList_append_run {P : Program} {ops : Array Oper} {rest : List Oper} {o : Oper} {a : Act} {w : World} {Q : Exit → Act → World → Prop} (hgd : o.guard = none) (s x : Operand) (t : TypeId)
    (ho : o.op = .call { callee := .builtin .append, args := #[s, x], argTypes := #[t, t] }) {v vx v' : Value} {w' : World} (hs : a.eval s = v) (hx : a.eval x = vx)
    (hr : (Builtin.append_ #[t, t] o.type #[v, vx]).run P w = .ok v' w') (h : wpList P ops Q rest (a.put o.dst v') w') : wpList P ops Q (o :: rest) a w :=
  wpList_plain hgd fun _ hK => by
    have hv : (execOp a.eval o).run P w = .ok (.value v') w' := by
      unfold execOp
      simp only [ho, resolve, invoke, builtin, Sem.run_bind, Sem.run_pure, Result.andThen_ok, List.map_toArray, List.map_cons, List.map_nil, hs, hx, hr]
    rw [Oper.wp, hv]
    exact hK _ _ h

theorem info_u8 : (Try.prog.info? 5).map (fun i => (i.zero, i.size, i.bytes)) = some (some (.int .u8 0), 1, 1) := by kernel_rfl

set_option maxRecDepth 20000 in
set_option maxHeartbeats 1000000 in
theorem clone_any {bs : List UInt8} {vx : Value} {w : World} (h : SliceIs u8c 1 w vx bs) (hl : bs.length ≤ 70368744177664) :
    Calls Try.prog 47 #[vx] w fun e w' => ∃ v', e = .returned v' ∧ Own u8c 1 5 w.heap.size w' v' bs ∧ Below w.heap.size w w' := by
  obtain ⟨i0, hi, hz0, hz1, hz2⟩ := info_parts info_u8
  have h0 := h
  obtain ⟨a, cap, rfl, hcap, hmax, hcs⟩ := h
  cases a with
  | none =>
    have hys : bs = [] := Classical.byContradiction fun hn => by obtain ⟨b, o, e, _⟩ := hcs hn; cases e
    subst hys
    clear h0 hcs
    have hnil := fun (w : World) a n c => Lib.run_eql_slice_nil (P := Try.prog) w 23 _ a n c 0 0 Try.underlying23
    go_enter Try.func47, Try.ntmps47
    go_wp2
    go_ret
    exact ⟨_, rfl, Own.nil, Below.refl _ _⟩
  | some ad =>
    have ho := Own.empty (base := w.heap.size) u8c 1 5 (w := w) (Nat.le_refl _)
    have hx := h0.below ((Below.refl w.heap.size w).alloc (Nat.le_refl _) (.cells #[] 5))
    obtain ⟨v', w', hr, hown, hx'⟩ := append_structs (P := Try.prog) 23 23 i0 _ 1 Try.underlying23 hi hz0 hz1 hz2 rfl (by omega) u8c_len u8c_one ho hx (by simp [maxLen]; omega) (by simp; omega) (by simp)
    have hB := Ext.new ((Below.refl w.heap.size w).alloc (Nat.le_refl _) (.cells #[] 5)) hx' (fun i hi _ e => by have := (ho.blk i e).1; omega) (by simp)
    have HR := Lib.hid hr
    have HO := Lib.hid hown
    have HB := Lib.hid hB
    clear h0 hcs ho hx hr hown hx' hB
    have hnil := fun (w : World) a n c => Lib.run_eql_slice_nil (P := Try.prog) w 23 _ a n c 0 0 Try.underlying23
    go_enter Try.func47, Try.ntmps47
    go_wp2_with (at_builtin; refine wpList_append_run rfl _ _ _ rfl rfl rfl HR.out ?_)
    go_ret
    exact ⟨_, rfl, HO.out, HB.out⟩

end Go.Proofs.Ytmlaojfhmaamcaa
