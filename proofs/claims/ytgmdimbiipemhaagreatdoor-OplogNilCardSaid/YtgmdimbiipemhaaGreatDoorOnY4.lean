/- OplogNil, part 4 of what the proof leans on (made short by a program). -/
import Derived.Test.YtgmdimbiipemhaaGreatDoorOnY3
import Derived.Test.YtgmdimbiipemhaaGreatDoorOnY1
import Derived.Test.YtgmdimbiipemhaaGreatDoorRows
import Derived.BigQuiet
import Derived.Deep.QuietTactic
import Derived.Deep.RegionHeld3
import Derived.IntWalk
import Derived.Deep.CutBlock
import Derived.Deep.DeepCutAuto
import Derived.ProofKit
import Derived.Lib.SmallJoins
import Derived.Deep.RegionLaw
import Derived.Laws.RangeAny
import Derived.OrdersHeld
import Derived.Deep.RegionHeld
import Derived.WalkKit
import Derived.Laws.AppendOwn
import Derived.Lib.SliceRun
import Derived.Test.YtgmdimbiipemhaaGreatDoorOnY2
import Derived.Shelf.SlIter.Nil
import Derived.Shelf.SortM.Plain
import Derived.Shelf.SortM.SortNone
import Derived.Shelf.SlMaps.Clone
import Derived.Shelf.SlGeneric
import Derived.Ground.GgzProg
import Derived.Ground.SlgmProg
import Derived.Ground.SlmcProg
import Derived.Test.YtgmdimbiipemhaaGreatDoorProg
set_option linter.unusedSimpArgs false
set_option linter.unusedVariables false
set_option linter.unusedSectionVars false
namespace Go.Proofs.YtgmdimbiipemhaaGreatDoor
open Go.RowKit Go.Extern.Stop Go.Stop Go.Extern
def atErrO09 (what : ByteArray) (n : Int) : Value := .iface 212 (.agg #[.string what, .iface 204 (.int .i64 n)])
theorem Tryz.valueOfPO09 (t : Addr) (w : World) : (ReflectliteValue.unpack (.iface 208 (.pointer (some t)))).run Tryz.prog w
    = .ok (.agg #[.pointer (some ⟨5, 208, none⟩), .pointer (some ⟨w.heap.size, 0, none⟩), .int .u64 150]) (w.alloc (.cells #[.pointer (some t)] 208)) := by kernel_rfl
theorem Tryz.typePO09 (a : Addr) (w : World) : (ReflectliteValue.methodAny (ReflectliteValue.valueError "reflectlite.Value.Type" 0) (fun t _ _ _ => ReflectliteType.toType t) #[.agg #[.pointer (some ⟨5, 208, none⟩), .pointer (some a), .int .u64 150]]).run Tryz.prog w
    = .ok (.iface 234 (.agg #[.pointer (some ⟨5, 208, none⟩)])) w := by kernel_rfl
theorem Tryz.kindPO09 (w : World) : ((ReflectliteType.abiMethod fun t => (fun a : Nat => Value.int IntKind.u8 (a : Int)) <$> Rtype.kind t) #[.pointer (some ⟨5, 208, none⟩)]).run Tryz.prog w = .ok (.int .u8 22) w := by kernel_rfl
theorem Tryz.kindFO09 (w : World) : ((ReflectliteType.abiMethod fun t => (fun a : Nat => Value.int IntKind.u8 (a : Int)) <$> Rtype.kind t) #[.pointer (some ⟨5, 204, none⟩)]).run Tryz.prog w = .ok (.int .u8 2) w := by kernel_rfl
theorem Tryz.partsPO09 (a : Addr) (w : World) : (ReflectliteValue.parts (.agg #[.pointer (some ⟨5, 208, none⟩), .pointer (some a), .int .u64 150])).run Tryz.prog w = .ok (some (208, a, 150)) w := by kernel_rfl
theorem Tryz.isNilPO09 (a p : Addr) (W : World) (ha : W.cell? a = some (.pointer (some p))) :
    (ReflectliteValue.method (ReflectliteValue.valueError "reflectlite.Value.IsNil" 0) ReflectliteValue.isNil #[.agg #[.pointer (some ⟨5, 208, none⟩), .pointer (some a), .int .u64 150]]).run Tryz.prog W = .ok (.bool false) W := by
  rw [rlm]
  simp only [Sem.run_bind, Tryz.partsPO09, Result.andThen]
  simp [ReflectliteValue.isNil, loadVar, isAgg, underlying, Tryz.underlying208, ha, Result.andThen]
theorem Tryz.elemPO09 (w : World) : (ReflectliteType.method ReflectliteType.elem #[.agg #[.pointer (some ⟨5, 208, none⟩)]]).run Tryz.prog w = .ok (.iface 234 (.agg #[.pointer (some ⟨5, 204, none⟩)])) w := by kernel_rfl
theorem Tryz.implementsFO09 (w : World) : (ReflectliteType.relation "Implements" ReflectliteType.implements_ #[.agg #[.pointer (some ⟨5, 204, none⟩)], .iface 234 (.agg #[.pointer (some ⟨5, 94, none⟩)])]).run Tryz.prog w = .ok (.bool true) w := by kernel_rfl
theorem Tryz.typeOfAO09 (v : Value) (w : World) : (ReflectliteType.typeOf #[.iface 212 v]).run Tryz.prog w = .ok (.iface 234 (.agg #[.pointer (some ⟨5, 212, none⟩)])) w := by kernel_rfl
theorem Tryz.typeOfFO09 (v : Value) (w : World) : (ReflectliteType.typeOf #[.iface 204 v]).run Tryz.prog w = .ok (.iface 234 (.agg #[.pointer (some ⟨5, 204, none⟩)])) w := by kernel_rfl
theorem Tryz.assignableAO09 (w : World) : (ReflectliteType.relation "AssignableTo" ReflectliteType.assignableTo #[.agg #[.pointer (some ⟨5, 212, none⟩)], .iface 234 (.agg #[.pointer (some ⟨5, 204, none⟩)])]).run Tryz.prog w = .ok (.bool false) w := by kernel_rfl
theorem Tryz.assignableFO09 (w : World) : (ReflectliteType.relation "AssignableTo" ReflectliteType.assignableTo #[.agg #[.pointer (some ⟨5, 204, none⟩)], .iface 234 (.agg #[.pointer (some ⟨5, 204, none⟩)])]).run Tryz.prog w = .ok (.bool true) w := by kernel_rfl
theorem Tryz.valueOfFO09 (n : Int) (w : World) : (ReflectliteValue.unpack (.iface 204 (.int .i64 n))).run Tryz.prog w
    = .ok (.agg #[.pointer (some ⟨5, 204, none⟩), .pointer (some ⟨w.heap.size, 0, none⟩), .int .u64 130]) (w.alloc (.cells #[.int .i64 n] 204)) := by kernel_rfl
theorem Tryz.elemOfPO09 (w : World) : (Rtype.elem? 208).run Tryz.prog w = .ok (some 204) w := by kernel_rfl
theorem Tryz.mkFO09 (p : Addr) (w : World) : (ReflectliteValue.mk 204 p ReflectliteValue.flagAddr).run Tryz.prog w = .ok (.agg #[.pointer (some ⟨5, 204, none⟩), .pointer (some p), .int .u64 386]) w := by kernel_rfl
theorem Tryz.elemVO09 (a p : Addr) (W : World) (ha : W.cell? a = some (.pointer (some p))) :
    (ReflectliteValue.method (ReflectliteValue.valueError "reflectlite.Value.Elem" 0) ReflectliteValue.elem #[.agg #[.pointer (some ⟨5, 208, none⟩), .pointer (some a), .int .u64 150]]).run Tryz.prog W
      = .ok (.agg #[.pointer (some ⟨5, 204, none⟩), .pointer (some p), .int .u64 386]) W := by
  rw [rlm]
  simp only [Sem.run_bind, Tryz.partsPO09, Result.andThen]
  simp [ReflectliteValue.elem, loadVar, isAgg, underlying, Tryz.underlying208, ha, Result.andThen, Tryz.elemOfPO09, Tryz.mkFO09]
theorem Tryz.partsFaO09 (a : Addr) (w : World) : (ReflectliteValue.parts (.agg #[.pointer (some ⟨5, 204, none⟩), .pointer (some a), .int .u64 386])).run Tryz.prog w = .ok (some (204, a, 386)) w := by kernel_rfl
theorem Tryz.partsFO09 (a : Addr) (w : World) : (ReflectliteValue.parts (.agg #[.pointer (some ⟨5, 204, none⟩), .pointer (some a), .int .u64 130])).run Tryz.prog w = .ok (some (204, a, 130)) w := by kernel_rfl
theorem Tryz.directFO09 (w : World) : (Rtype.directlyAssignable 204 204).run Tryz.prog w = .ok true w := by kernel_rfl
theorem Tryz.setFO09 (ta b : Addr) (n : Int) (old : Value) (W : World) (hb : W.cell? b = some (.int .i64 n)) (ht : W.cell? ta = some old) (hf : W.frozen? ta = false) :
    (ReflectliteValue.set #[.agg #[.pointer (some ⟨5, 204, none⟩), .pointer (some ta), .int .u64 386], .agg #[.pointer (some ⟨5, 204, none⟩), .pointer (some b), .int .u64 130]]).run Tryz.prog W
      = .ok (.tuple #[]) (W.setCell ta (.int .i64 n)) := by
  rw [rls]
  simp only [Sem.run_bind, Tryz.partsFaO09, Tryz.partsFO09, Result.andThen]
  simp [ReflectliteValue.flagAddr, loadVar, isAgg, underlying, Tryz.underlying204, hb, Result.andThen, Tryz.directFO09, storeVar, Value.cells, storeCells, Addr.add]
  rw [run_store Tryz.prog W ta _ _ (by rfl)]
  simp [ht, hf]
theorem Tryz.infoAtO09 : (Tryz.prog.info? 212).map (fun i => i.methods.any fun m => m.name == "As" && m.sig == 241) = some false := by kernel_rfl
theorem Tryz.noAsO09 (v : Value) (w : World) : (Instr.typeAssert (.iface 212 v) 94 239 true).run Tryz.prog w = .ok (.tuple #[.nilIface, .bool false]) w := by
  obtain ⟨i, hi, hm⟩ : ∃ i, Tryz.prog.info? 212 = some i ∧ (i.methods.any fun m => m.name == "As" && m.sig == 241) = false := by
    have h := Tryz.infoAtO09
    cases hh : Tryz.prog.info? 212 with
    | none => rw [hh] at h; cases h
    | some i => rw [hh] at h; exact ⟨i, rfl, Option.some.inj h⟩
  obtain ⟨s, hs⟩ := missing_one _ _ _ hm
  have hz := Tryz.zeroAs w
  unfold Instr.typeAssert
  simp [run_underlying Tryz.undAs, typeInfo, hi, hs, hz, Result.andThen]
theorem Tryz.hasUnO09 (v : Value) (w : World) : (Instr.typeAssert (.iface 212 v) 94 242 true).run Tryz.prog w = .ok (.tuple #[.iface 212 v, .bool true]) w := by kernel_rfl
theorem unwrap_anyO09 (what : ByteArray) (x : Value) (w : World) : Calls Tryz.prog 255 #[.agg #[.string what, x]] w fun e w' => e = .returned x ∧ w' = w.alloc (.cells #[.string what, x] 212) := by
  go_enter Tryz.func255, Tryz.ntmps255
  go_wp2
  go_ret
  exact ⟨rfl, rfl⟩
theorem Tryz.methodUnwrapO09 (n : Nat) (h : Value) (w : World) : (Go.method (n + 1) 212 h "Unwrap").run Tryz.prog w = .ok (255, h) w := by kernel_rfl
set_option maxRecDepth 20000 in
set_option maxHeartbeats 8000000 in
theorem as_inO09 (what : ByteArray) (n : Int) (t : Addr) (A0 : Nat) (old : Value) (w : World) (hA : w.cell? ⟨A0, 0, none⟩ = some (.pointer (some t))) (ht0 : w.cell? t = some old) (hf0 : w.frozen? t = false) :
    Calls Tryz.prog 102 #[.iface 212 (.agg #[.string what, .iface 204 (.int .i64 n)]), .iface 208 (.pointer (some t)), .agg #[.pointer (some ⟨5, 208, none⟩), .pointer (some ⟨A0, 0, none⟩), .int .u64 150], .iface 234 (.agg #[.pointer (some ⟨5, 204, none⟩)])] w fun ev w' => ev = .returned (.bool true) ∧ Ext (· = t.block) w w' ∧ w'.cell? t = some (.int .i64 n) := by
  have h6 := @run_callFunc_extern Tryz.prog 99 _ (fun args => ReflectliteValue.unpack (args.getD 0 (.tuple #[]))) Tryz.func99 (by kernel_rfl) (by kernel_rfl) (by kernel_rfl) (by kernel_rfl)
  have h10 := @run_callFunc_extern Tryz.prog 150 _ ReflectliteType.typeOf Tryz.func150 (by kernel_rfl) (by kernel_rfl) (by kernel_rfl) (by kernel_rfl)
  have h35 := @run_callFunc_extern Tryz.prog 258 _ (ReflectliteType.relation "AssignableTo" ReflectliteType.assignableTo) Tryz.func258 (by kernel_rfl) (by kernel_rfl) (by kernel_rfl) (by kernel_rfl)
  have h11 := @run_callFunc_extern Tryz.prog 151 _ (ReflectliteValue.method (ReflectliteValue.valueError "reflectlite.Value.Elem" 0) ReflectliteValue.elem) Tryz.func151 (by kernel_rfl) (by kernel_rfl) (by kernel_rfl) (by kernel_rfl)
  have h12 := @run_callFunc_extern Tryz.prog 152 _ ReflectliteValue.set Tryz.func152 (by kernel_rfl) (by kernel_rfl) (by kernel_rfl) (by kernel_rfl)
  have mA := Tryz.methodAssignableTo
  have mU := Tryz.methodUnwrapO09
  have tA := Tryz.typeOfAO09
  have tF := Tryz.typeOfFO09
  have aA := Tryz.assignableAO09
  have aF := Tryz.assignableFO09
  have nA := Tryz.noAsO09
  have hU := Tryz.hasUnO09
  have vF := Tryz.valueOfFO09
  have hAl : A0 < w.heap.size := cell_lt hA
  have htl : t.block < w.heap.size := by
    rcases Nat.lt_or_ge t.block w.heap.size with h | h
    · exact h
    · simp [World.cell?, Array.getElem?_eq_none h] at ht0
  have el := Tryz.elemVO09 ⟨A0, 0, none⟩ t ((w.alloc (.cells #[.pointer (some ⟨5, 208, none⟩), .pointer (some ⟨A0, 0, none⟩), .int .u64 150] 177)).alloc (.cells #[.string what, .iface 204 (.int .i64 n)] 212)) (by rw [World.cell?_alloc_lt _ _ ⟨A0, 0, none⟩ (by simp; omega), World.cell?_alloc_lt _ _ ⟨A0, 0, none⟩ hAl]; exact hA)
  have st := Tryz.setFO09 t ⟨w.heap.size + 1 + 1, 0, none⟩ n old (((w.alloc (.cells #[.pointer (some ⟨5, 208, none⟩), .pointer (some ⟨A0, 0, none⟩), .int .u64 150] 177)).alloc (.cells #[.string what, .iface 204 (.int .i64 n)] 212)).alloc (.cells #[.int .i64 n] 204)) (by rw [World.cell?_alloc_at _ _ _ _ (by simp)]; rfl)
    (by rw [World.cell?_alloc_lt _ _ t (by simp; omega), World.cell?_alloc_lt _ _ t (by simp; omega), World.cell?_alloc_lt _ _ t htl]; exact ht0)
    (by rw [World.frozen?_alloc_old _ _ t (by simp; omega), World.frozen?_alloc_old _ _ t (by simp; omega), World.frozen?_alloc_old _ _ t (Nat.ne_of_lt htl)]; exact hf0)
  have hc3 : (((w.alloc (.cells #[.pointer (some ⟨5, 208, none⟩), .pointer (some ⟨A0, 0, none⟩), .int .u64 150] 177)).alloc (.cells #[.string what, .iface 204 (.int .i64 n)] 212)).alloc (.cells #[.int .i64 n] 204)).cell? t = some old := by
    rw [World.cell?_alloc_lt _ _ t (by simp; omega), World.cell?_alloc_lt _ _ t (by simp; omega), World.cell?_alloc_lt _ _ t htl]; exact ht0
  have HC3 := Lib.hid (World.cell?_setCell_same' _ t (.int .i64 n) (by rw [hc3]; rfl))
  clear ht0 hf0 hA hc3
  go_enter Tryz.func102, Tryz.ntmps102
  go_wp2_with fail
  refine wp_loop_rounds 2 ?_
  rw [rounds_succ]
  go_wp2_with (first | (go_at_call 255; refine (unwrap_anyO09 what (.iface 204 (.int .i64 n)) _).mono ?_; rintro e w' ⟨rfl, rfl⟩))
  rw [rounds_succ]
  go_wp2_with fail
  go_ret
  refine ⟨rfl, ?_, HC3.out⟩
  exact ((((Ext.refl (· = t.block) w).alloc _).alloc _).alloc _).setCell (p := t) (.inr rfl) _
set_option maxRecDepth 20000 in
set_option maxHeartbeats 8000000 in
theorem as_hitO09 (what : ByteArray) (n : Int) (t : Addr) (old : Value) (w : World) (hg : w.cell? ⟨0, 0, none⟩ = some (.iface 234 (.agg #[.pointer (some ⟨5, 94, none⟩)]))) (ht0 : w.cell? t = some old) (hf0 : w.frozen? t = false) :
    Calls Tryz.prog 52 #[atErrO09 what n, .iface 208 (.pointer (some t))] w fun ev w' => ev = .returned (.bool true) ∧ Ext (· = t.block) w w' ∧ w'.cell? t = some (.int .i64 n) := by
  have h6 := @run_callFunc_extern Tryz.prog 99 _ (fun args => ReflectliteValue.unpack (args.getD 0 (.tuple #[]))) Tryz.func99 (by kernel_rfl) (by kernel_rfl) (by kernel_rfl) (by kernel_rfl)
  have h7 := @run_callFunc_extern Tryz.prog 100 _ (ReflectliteValue.methodAny (ReflectliteValue.valueError "reflectlite.Value.Type" 0) (fun t _ _ _ => ReflectliteType.toType t)) Tryz.func100 (by kernel_rfl) (by kernel_rfl) (by kernel_rfl) (by kernel_rfl)
  have h8 := @run_callFunc_extern Tryz.prog 101 _ (ReflectliteValue.method (ReflectliteValue.valueError "reflectlite.Value.IsNil" 0) ReflectliteValue.isNil) Tryz.func101 (by kernel_rfl) (by kernel_rfl) (by kernel_rfl) (by kernel_rfl)
  have h27 := @run_callFunc_extern Tryz.prog 241 _ (ReflectliteType.abiMethod fun t => do pure (.int .u8 (← Rtype.kind t))) Tryz.func241 (by kernel_rfl) (by kernel_rfl) (by kernel_rfl) (by kernel_rfl)
  have h37 := @run_callFunc_extern Tryz.prog 260 _ (ReflectliteType.method ReflectliteType.elem) Tryz.func260 (by kernel_rfl) (by kernel_rfl) (by kernel_rfl) (by kernel_rfl)
  have h38 := @run_callFunc_extern Tryz.prog 261 _ (ReflectliteType.relation "Implements" ReflectliteType.implements_) Tryz.func261 (by kernel_rfl) (by kernel_rfl) (by kernel_rfl) (by kernel_rfl)
  have h10 := @run_callFunc_extern Tryz.prog 150 _ ReflectliteType.typeOf Tryz.func150 (by kernel_rfl) (by kernel_rfl) (by kernel_rfl) (by kernel_rfl)
  have h35 := @run_callFunc_extern Tryz.prog 258 _ (ReflectliteType.relation "AssignableTo" ReflectliteType.assignableTo) Tryz.func258 (by kernel_rfl) (by kernel_rfl) (by kernel_rfl) (by kernel_rfl)
  have h11 := @run_callFunc_extern Tryz.prog 151 _ (ReflectliteValue.method (ReflectliteValue.valueError "reflectlite.Value.Elem" 0) ReflectliteValue.elem) Tryz.func151 (by kernel_rfl) (by kernel_rfl) (by kernel_rfl) (by kernel_rfl)
  have h12 := @run_callFunc_extern Tryz.prog 152 _ ReflectliteValue.set Tryz.func152 (by kernel_rfl) (by kernel_rfl) (by kernel_rfl) (by kernel_rfl)
  have f6 := Tryz.valueOfPO09
  have f7 := Tryz.typePO09
  have k27 := Tryz.kindPO09
  have k25 := Tryz.kindFO09
  have e27 := Tryz.elemPO09
  have i25 := Tryz.implementsFO09
  have n8 := Tryz.isNilPO09 ⟨w.heap.size, 0, none⟩ t ((w.alloc (.cells #[.pointer (some t)] 208)).alloc (.cells #[.pointer (some ⟨5, 208, none⟩), .pointer (some ⟨w.heap.size, 0, none⟩), .int .u64 150] 177)) (by simp)
  have hlt : 0 < w.heap.size := by
    rcases Nat.eq_zero_or_pos w.heap.size with h0 | h
    · simp [World.cell?, h0] at hg
    · exact h
  have htl : t.block < w.heap.size := by
    rcases Nat.lt_or_ge t.block w.heap.size with h | h
    · exact h
    · simp [World.cell?, Array.getElem?_eq_none h] at ht0
  have hg2 : ((w.alloc (.cells #[.pointer (some t)] 208)).alloc (.cells #[.pointer (some ⟨5, 208, none⟩), .pointer (some ⟨w.heap.size, 0, none⟩), .int .u64 150] 177)).cell? ⟨0, 0, none⟩ = some (.iface 234 (.agg #[.pointer (some ⟨5, 94, none⟩)])) := by
    rw [World.cell?_alloc_lt _ _ ⟨0, 0, none⟩ (by simp), World.cell?_alloc_lt _ _ ⟨0, 0, none⟩ hlt]; exact hg
  have mK := Tryz.methodKind
  have mE := Tryz.methodElem
  have mI := Tryz.methodImplements
  have mA := Tryz.methodAssignableTo
  have mU := Tryz.methodUnwrapO09
  have tA := Tryz.typeOfAO09
  have tF := Tryz.typeOfFO09
  have aA := Tryz.assignableAO09
  have aF := Tryz.assignableFO09
  have nA := Tryz.noAsO09
  have hU := Tryz.hasUnO09
  have vF := Tryz.valueOfFO09
  unfold atErrO09
  go_enter Tryz.func52, Tryz.ntmps52
  go_wp2_with fail
  refine (as_inO09 what n t w.heap.size old _ ?_ ?_ ?_).mono ?_
  · rw [World.cell?_alloc_lt _ _ ⟨w.heap.size, 0, none⟩ (by simp)]; simp
  · rw [World.cell?_alloc_lt _ _ t (by simp; omega), World.cell?_alloc_lt _ _ t htl]; exact ht0
  · rw [World.frozen?_alloc_old _ _ t (by simp; omega), World.frozen?_alloc_old _ _ t (Nat.ne_of_lt htl)]; exact hf0
  rintro e w' ⟨rfl, hx, hcn⟩
  have HX : Hid (Ext (· = t.block) w w') := Lib.hid ((((Ext.refl (· = t.block) w).alloc _).alloc _).andThen hx (fun i hi e => e))
  have HCN := Lib.hid hcn
  clear hx hcn
  go_wp2_with fail
  go_ret
  exact ⟨rfl, HX.out, HCN.out⟩
def fltV (n : Int) : Value := .iface 204 (.int .i64 n)
theorem Tryz.isComparableO (w : World) : ((ReflectliteType.method fun t => (do Rtype.noPackHeld "Comparable" t; (fun a => Value.bool a.comparable) <$> typeInfo t)) #[.agg #[.pointer (some ⟨5, 204, none⟩)]]).run Tryz.prog w = .ok (.bool true) w := by kernel_rfl
theorem Tryz.methodComparable (n : Nat) (h : Value) (w : World) : (Go.method (n + 1) 234 (.agg #[h]) "Comparable").run Tryz.prog w = .ok (259, .agg #[h]) w := by kernel_rfl
theorem Tryz.undIs : Tryz.prog.underlying 262 = some (.interface #[("Is", 264)]) := by kernel_rfl
theorem Tryz.zeroIs (w : World) : (zeroValue 262).run Tryz.prog w = .ok .nilIface w := by kernel_rfl
theorem Tryz.undUn : Tryz.prog.underlying 242 = some (.interface #[("Unwrap", 95)]) := by kernel_rfl
theorem Tryz.zeroUn (w : World) : (zeroValue 242).run Tryz.prog w = .ok .nilIface w := by kernel_rfl
theorem Tryz.undUs : Tryz.prog.underlying 243 = some (.interface #[("Unwrap", 245)]) := by kernel_rfl
theorem Tryz.zeroUs (w : World) : (zeroValue 243).run Tryz.prog w = .ok .nilIface w := by kernel_rfl
theorem no_assert (T I : Nat) (nm : String) (sg : TypeId) (v : Value) (w : World) (hu : Tryz.prog.underlying I = some (.interface #[(nm, sg)]))
    (hz : (zeroValue I).run Tryz.prog w = .ok .nilIface w)
    (h : (Tryz.prog.info? T).map (fun i => i.methods.any fun m => m.name == nm && m.sig == sg) = some false) :
    (Instr.typeAssert (.iface T v) 94 I true).run Tryz.prog w = .ok (.tuple #[.nilIface, .bool false]) w := by
  obtain ⟨i, hi, hm⟩ : ∃ i, Tryz.prog.info? T = some i ∧ (i.methods.any fun m => m.name == nm && m.sig == sg) = false := by
    cases hh : Tryz.prog.info? T with
    | none => rw [hh] at h; cases h
    | some i => rw [hh] at h; exact ⟨i, rfl, Option.some.inj h⟩
  obtain ⟨s, hs⟩ := missing_one _ _ _ hm
  unfold Instr.typeAssert
  simp [run_underlying hu, typeInfo, hi, hs, hz, Result.andThen]
theorem Tryz.noIsA (v : Value) (w : World) : (Instr.typeAssert (.iface 212 v) 94 262 true).run Tryz.prog w = .ok (.tuple #[.nilIface, .bool false]) w :=
  no_assert _ _ _ _ v w Tryz.undIs (Tryz.zeroIs w) (by kernel_rfl)
theorem Tryz.noIsF (v : Value) (w : World) : (Instr.typeAssert (.iface 204 v) 94 262 true).run Tryz.prog w = .ok (.tuple #[.nilIface, .bool false]) w :=
  no_assert _ _ _ _ v w Tryz.undIs (Tryz.zeroIs w) (by kernel_rfl)
theorem Tryz.noUnF (v : Value) (w : World) : (Instr.typeAssert (.iface 204 v) 94 242 true).run Tryz.prog w = .ok (.tuple #[.nilIface, .bool false]) w :=
  no_assert _ _ _ _ v w Tryz.undUn (Tryz.zeroUn w) (by kernel_rfl)
theorem Tryz.noUsF (v : Value) (w : World) : (Instr.typeAssert (.iface 204 v) 94 243 true).run Tryz.prog w = .ok (.tuple #[.nilIface, .bool false]) w :=
  no_assert _ _ _ _ v w Tryz.undUs (Tryz.zeroUs w) (by kernel_rfl)
theorem Tryz.neqAF (a b : Value) (w : World) : (binOp .eql 94 (.iface 212 a) (.iface 204 b)).run Tryz.prog w = .ok (.bool false) w := by
  have h : ∀ d : Nat, (Op.equalIn (d + 1) 94 (.iface 212 a) (.iface 204 b)).run Tryz.prog w = .ok false w := fun d => by simp [Op.equalIn, run_underlying Tryz.underlying94]
  simp only [binOp]
  simp [Op.equal, Op.maxDepth, h 9999]
theorem Tryz.compF : (Tryz.prog.info? 204).map (·.comparable) = some true := by kernel_rfl
theorem Tryz.eqlFF (a b : Int) (w : World) : (binOp .eql 94 (.iface 204 (.int .i64 a)) (.iface 204 (.int .i64 b))).run Tryz.prog w = .ok (.bool (a == b)) w := by
  obtain ⟨i, hi, hc⟩ := Option.map_eq_some_iff.1 Tryz.compF
  have h : ∀ d : Nat, (Op.equalIn (d + 2) 94 (.iface 204 (.int .i64 a)) (.iface 204 (.int .i64 b))).run Tryz.prog w = .ok (a == b) w := fun d => by
    simp [Op.equalIn, run_underlying Tryz.underlying94, run_underlying Tryz.underlying204, typeInfo, hi, hc]
  simp only [binOp]
  simp [Op.equal, Op.maxDepth, h 9998]
set_option maxRecDepth 20000 in
set_option maxHeartbeats 8000000 in
theorem is_in (what : ByteArray) (n m : Int) (w : World) :
    Calls Tryz.prog 165 #[atErrO09 what n, fltV m, .bool true] w fun e w' => e = .returned (.bool (n == m)) ∧ Below w.heap.size w w' := by
  have mU := Tryz.methodUnwrapO09
  have hU := Tryz.hasUnO09
  have nA := Tryz.noIsA
  have nF := Tryz.noIsF
  have uF := Tryz.noUnF
  have sF := Tryz.noUsF
  have qA := Tryz.neqAF
  have qF := fun W => Tryz.eqlFF n m W
  unfold atErrO09 fltV
  by_cases hnm : n = m
  · subst hnm
    have hb : (n == n) = true := by simp
    rw [hb]
    simp only [hb] at qF
    clear hb
    go_enter Tryz.func165, Tryz.ntmps165
    go_wp2_with fail
    refine wp_loop_rounds 2 ?_
    rw [rounds_succ]
    go_wp2_with (first | (go_at_call 255; refine (unwrap_anyO09 what (.iface 204 (.int .i64 n)) _).mono ?_; rintro e w' ⟨rfl, rfl⟩))
    rw [rounds_succ]
    go_wp2_with fail
    go_ret
    exact ⟨rfl, (Below.refl _ _).alloc (Nat.le_refl _) _⟩
  · have hb : (n == m) = false := by simp [hnm]
    rw [hb]
    simp only [hb] at qF
    clear hb hnm
    go_enter Tryz.func165, Tryz.ntmps165
    go_wp2_with fail
    refine wp_loop_rounds 2 ?_
    rw [rounds_succ]
    go_wp2_with (first | (go_at_call 255; refine (unwrap_anyO09 what (.iface 204 (.int .i64 n)) _).mono ?_; rintro e w' ⟨rfl, rfl⟩))
    rw [rounds_succ]
    go_wp2_with fail
    go_ret
    exact ⟨rfl, (Below.refl _ _).alloc (Nat.le_refl _) _⟩
set_option maxRecDepth 20000 in
set_option maxHeartbeats 8000000 in
theorem is_hit (what : ByteArray) (n m : Int) (w : World) :
    Calls Tryz.prog 119 #[atErrO09 what n, fltV m] w fun e w' => e = .returned (.bool (n == m)) ∧ Below w.heap.size w w' := by
  have h10 := @run_callFunc_extern Tryz.prog 150 _ ReflectliteType.typeOf Tryz.func150 (by kernel_rfl) (by kernel_rfl) (by kernel_rfl) (by kernel_rfl)
  have h32 := @run_callFunc_extern Tryz.prog 259 _ (ReflectliteType.method fun t => (do Rtype.noPackHeld "Comparable" t; pure (Value.bool (← typeInfo t).comparable))) Tryz.func259 (by kernel_rfl) (by kernel_rfl) (by kernel_rfl) (by kernel_rfl)
  have tF := Tryz.typeOfFO09
  have cF := Tryz.isComparableO
  have mC := Tryz.methodComparable
  unfold atErrO09 fltV
  go_enter Tryz.func119, Tryz.ntmps119
  go_wp2_with fail
  refine (is_in what n m _).mono ?_
  rintro e w' ⟨rfl, hb⟩
  have HB := Lib.hid hb
  clear hb
  go_wp2_with fail
  go_ret
  exact ⟨rfl, HB.out⟩
theorem is_none (m : Int) (w : World) :
    Calls Tryz.prog 119 #[.nilIface, fltV m] w fun e w' => e = .returned (.bool false) ∧ w' = w := by
  have hn := run_eql_iface_nil_left (P := Tryz.prog) w 204 (.int .i64 m) Tryz.underlying94
  unfold fltV
  go_enter Tryz.func119, Tryz.ntmps119
  go_wp2
  go_ret
  exact ⟨rfl, rfl⟩
end Go.Proofs.YtgmdimbiipemhaaGreatDoor
namespace Go.Proofs.YtgmdimbiipemhaaGreatDoor
open Go.RowKit
theorem run_findNow {V : Type} (k : ByteArray) : ∀ (es : List MapEntry) (l : List (ByteArray × V)) (i : Nat), es.map (·.key) = l.map (fun p => .string p.1) →
    Instr.findNow .string (.string k) es i = some ((aidx l k).map fun j => (i + j, ((es[j]?).map (·.val)).getD undef))
  | [], [], i, _ => by simp [Instr.findNow, aidx]
  | [], _ :: _, _, h => by simp at h
  | _ :: _, [], _, h => by simp at h
  | e :: es, p :: l, i, h => by
    obtain ⟨k', v⟩ := p
    simp only [List.map_cons, List.cons.injEq] at h
    obtain ⟨h1, h2⟩ := h
    have ih := run_findNow k es l (i + 1) h2
    simp only [Instr.findNow, h1, Instr.sameNow]
    by_cases hk : k' = k
    · subst hk
      simp [aidx, beq_bytes]
    · have hk' : ¬ k = k' := fun e => hk e.symm
      have : (k == k') = false := by rw [beq_bytes]; simp [hk']
      simp only [this, ih, aidx, hk, if_false]
      cases aidx l k with
      | none => rfl
      | some j => simp [Nat.add_assoc, Nat.add_comm 1 j]
theorem key_string {V : Type} : KeyTy (V := V) Tryz.prog 9 Value.string where
  check em k w := by kernel_rfl
  find k es l w h := by
    simp only [Instr.findKey, Sem.run_bind, run_underlying und_string, Result.andThen_ok, run_findNow k es l 0 h, Sem.run_pure]
    cases aidx l k <;> simp
  stays k w := by simp [Instr.keyThatStays, Instr.sameBits, beq_toListBytes]
theorem Own.slv {α : Type} {ea : α → List Value} {k : Nat} {e : TypeId} {base : Nat} {w : World} {v : Value} {l : List α} (h : Own ea k e base w v l) : ∃ s : Sl, v = s.val := by
  rcases h.eq_slice with ⟨rfl, _⟩ | ⟨g, c, rfl, _, _⟩
  · exact ⟨⟨none, 0, 0⟩, rfl⟩
  · exact ⟨⟨_, _, _⟩, rfl⟩
structure Pc where
  s : Sl
  came : Int
  safe : Int
def Pc.cells (p : Pc) : List Value := [.slice p.s.a p.s.n p.s.cap, .int .i64 p.came, .int .i64 p.safe]
theorem Pc.len (p : Pc) : p.cells.length = 3 := rfl
theorem Pc.one (p : Pc) : ∀ u ∈ p.cells, u.oneCell' = true := by
  intro u hu
  simp only [Pc.cells, List.mem_cons, List.not_mem_nil, or_false] at hu
  rcases hu with rfl | rfl | rfl <;> rfl
structure Chg where
  at_ : Int
  name : ByteArray
  old : ByteArray
  f : Option Nat
def ptrV (f : Option Nat) : Value := .pointer (f.map fun b => ⟨b, 0, none⟩)
def Chg.cells (c : Chg) : List Value := [.int .i64 c.at_, .string c.name, .string c.old, ptrV c.f]
theorem Chg.len (p : Chg) : p.cells.length = 4 := rfl
theorem Chg.one (p : Chg) : ∀ u ∈ p.cells, u.oneCell' = true := by
  intro u hu
  simp only [Chg.cells, List.mem_cons, List.not_mem_nil, or_false] at hu
  rcases hu with rfl | rfl | rfl | rfl <;> rfl
structure PcA where
  bs : List UInt8
  came : Int
  safe : Int
def PcIs (base : Nat) (w : World) (q : Pc) (p : PcA) : Prop := Own u8c 1 5 base w q.s.val p.bs ∧ q.came = p.came ∧ q.safe = p.safe
def sizeP (ps : List PcA) : Nat := (ps.map (·.bs.length)).sum
def FileIs (base : Nat) (w : World) (fb : Nat) (v : Value) (ps : List PcA) : Prop :=
  base ≤ fb ∧ w.heap[fb]? = some (.cells #[v, .int .i64 (sizeP ps)] 124 (0, 0)) ∧
    ∃ qs : List Pc, Own Pc.cells 3 131 base w v qs ∧ qs.length = ps.length ∧ ∀ (i : Nat) q p, qs[i]? = some q → ps[i]? = some p → PcIs base w q p
structure DiskA where
  files : List (ByteArray × Nat)
  base : List (ByteArray × Nat)
  chg : List Chg
  syn : List Int
  now : Int
  ids : List Nat
  fs : Nat → List PcA
structure DiskA.Ok (A : DiskA) : Prop where
  inf : ∀ n f, (n, f) ∈ A.files → f ∈ A.ids ∧ n.size ≤ 8
  inb : ∀ n f, (n, f) ∈ A.base → f ∈ A.ids ∧ n.size ≤ 8
  inc : ∀ c ∈ A.chg, ∀ f, c.f = some f → f ∈ A.ids ∧ c.name.size ≤ 8
  sz : ∀ f ∈ A.ids, sizeP (A.fs f) ≤ 1048576
structure DiskA.Small (A : DiskA) (n : Nat) : Prop where
  now0 : 0 ≤ A.now
  now : A.now ≤ n
  chg : A.chg.length ≤ n
  syn : A.syn.length ≤ n
  pcs : ∀ f ∈ A.ids, (A.fs f).length ≤ n + 1
  fil : A.files.length ≤ n
def fptr (f : Nat) : Value := .pointer (some ⟨f, 0, none⟩)
structure DSh where
  pb : Nat
  mf : Nat
  mb : Nat
  vc : Value
  vs : Value
  rv : Nat → Value
structure DiskIs (base : Nat) (w : World) (D : DSh) (A : DiskA) : Prop where
  blk : w.heap[D.pb]? = some (.cells #[.map (some D.mf), .map (some D.mb), D.vc, D.vs, .int .i64 A.now] 118 (0, 0))
  lo : base ≤ D.pb
  lof : base ≤ D.mf
  lob : base ≤ D.mb
  ne : D.mf ≠ D.mb
  mfiles : MapIs Value.string fptr w D.mf A.files
  mbase : MapIs Value.string fptr w D.mb A.base
  ochg : Own Chg.cells 4 126 base w D.vc A.chg
  osyn : Own intc 1 3 base w D.vs A.syn
  file : ∀ f, f ∈ A.ids → FileIs base w f (D.rv f) (A.fs f)
  apart : ∀ f g, f ∈ A.ids → g ∈ A.ids → f ≠ g → ∀ b, (D.rv f).ownBlock = some b → (D.rv g).ownBlock ≠ some b
  ok : A.Ok
theorem ext_set (w : World) (r i : Nat) (v : Value) : Ext (· = r) w (w.setCell ⟨r, i, none⟩ v) := (Ext.refl (fun k => k = r) w).setCell (p := ⟨r, i, none⟩) (.inr rfl) v
def tagOf (w : World) (b : Nat) : Option TypeId := match w.heap[b]? with | some (.cells _ T _) => some T | _ => none
theorem tag_cells {w : World} {b : Nat} {c : Array Value} {T : TypeId} {q : Nat × Nat} (h : w.heap[b]? = some (.cells c T q)) : tagOf w b = some T := by simp [tagOf, h]
theorem tag_own {α : Type} {ea : α → List Value} {k : Nat} {e : TypeId} {base : Nat} {w : World} {v : Value} {l : List α} (h : Own ea k e base w v l) {b : Nat} (hb : v.ownBlock = some b) : tagOf w b = some e := by
  obtain ⟨c, hc⟩ := h.tag hb
  exact tag_cells hc
theorem tag_map {w : World} {b : Nat} {K V : Type} [DecidableEq K] {ek : K → Value} {ev : V → Value} {l : List (K × V)} (h : MapIs ek ev w b l) : tagOf w b = none := by
  obtain ⟨_, es, cl, h2, _⟩ := h
  simp [tagOf, h2]
theorem tag_lt {w : World} {b : Nat} {T : TypeId} (h : tagOf w b = some T) : b < w.heap.size := by
  unfold tagOf at h
  cases hb : w.heap[b]? with
  | none => rw [hb] at h; cases h
  | some o => exact (Array.getElem?_eq_some_iff.1 hb).1
theorem tag_ne {w : World} {a b : Nat} {x y : Option TypeId} (h : tagOf w a = x) (k : tagOf w b = y) (hxy : x ≠ y) : a ≠ b := by
  rintro rfl
  exact hxy (h.symm.trans k)
def Foot (D : DSh) (A : DiskA) (b : Nat) : Prop :=
  b = D.pb ∨ b = D.mf ∨ b = D.mb ∨ D.vc.ownBlock = some b ∨ D.vs.ownBlock = some b ∨ ∃ f ∈ A.ids, b = f ∨ (D.rv f).ownBlock = some b
section
variable {base : Nat} {w w' : World} {D : DSh} {A : DiskA} {S : Nat → Prop}
theorem PcIs.ext {q : Pc} {p : PcA} (h : PcIs base w q p) (hx : Ext S w w') (hn : ∀ b, base ≤ b → tagOf w b = some 5 → ¬ S b) : PcIs base w' q p :=
  ⟨h.1.ext hx (fun b hb => hn b (h.1.blk b hb).1 (tag_own h.1 hb)), h.2⟩
theorem FileIs.tag {fb : Nat} {v : Value} {ps : List PcA} (h : FileIs base w fb v ps) : tagOf w fb = some 124 := tag_cells h.2.1
theorem FileIs.row {fb : Nat} {v : Value} {ps : List PcA} (h : FileIs base w fb v ps) {b : Nat} (hb : v.ownBlock = some b) : tagOf w b = some 131 ∧ base ≤ b := by
  obtain ⟨_, _, qs, ho, _⟩ := h
  exact ⟨tag_own ho hb, (ho.blk b hb).1⟩
theorem FileIs.lt {fb : Nat} {v : Value} {ps : List PcA} (h : FileIs base w fb v ps) : fb < w.heap.size := tag_lt h.tag
theorem FileIs.ext {fb : Nat} {v : Value} {ps : List PcA} (h : FileIs base w fb v ps) (hx : Ext S w w') (h1 : ¬ S fb) (h2 : ∀ b, v.ownBlock = some b → ¬ S b) (h3 : ∀ b, base ≤ b → tagOf w b = some 5 → ¬ S b) : FileIs base w' fb v ps := by
  obtain ⟨hl, hb, qs, ho, hn, hp⟩ := h
  exact ⟨hl, (hx.block fb (Array.getElem?_eq_some_iff.1 hb).1 h1).trans hb, qs, ho.ext hx h2, hn, fun i q p hq hp' => (hp i q p hq hp').ext hx h3⟩
theorem DiskIs.tpb (h : DiskIs base w D A) : tagOf w D.pb = some 118 := tag_cells h.blk
theorem DiskIs.lpb (h : DiskIs base w D A) : D.pb < w.heap.size := tag_lt h.tpb
theorem DiskIs.lmf (h : DiskIs base w D A) : D.mf < w.heap.size := h.mfiles.lt
theorem DiskIs.lmb (h : DiskIs base w D A) : D.mb < w.heap.size := h.mbase.lt
theorem DiskIs.foot (h : DiskIs base w D A) {b : Nat} (hb : Foot D A b) : base ≤ b ∧ b < w.heap.size ∧ tagOf w b ≠ some 5 := by
  rcases hb with rfl | rfl | rfl | hb | hb | ⟨f, hf, rfl | hb⟩
  · exact ⟨h.lo, h.lpb, by rw [h.tpb]; decide⟩
  · exact ⟨h.lof, h.lmf, by rw [tag_map h.mfiles]; decide⟩
  · exact ⟨h.lob, h.lmb, by rw [tag_map h.mbase]; decide⟩
  · exact ⟨(h.ochg.blk b hb).1, (h.ochg.blk b hb).2, by rw [tag_own h.ochg hb]; decide⟩
  · exact ⟨(h.osyn.blk b hb).1, (h.osyn.blk b hb).2, by rw [tag_own h.osyn hb]; decide⟩
  · exact ⟨(h.file b hf).1, (h.file b hf).lt, by rw [(h.file b hf).tag]; decide⟩
  · exact ⟨((h.file f hf).row hb).2, tag_lt ((h.file f hf).row hb).1, by rw [((h.file f hf).row hb).1]; decide⟩
theorem DiskIs.ext (h : DiskIs base w D A) (hx : Ext S w w') (hn : ∀ b, Foot D A b → ¬ S b) (hu : ∀ b, base ≤ b → tagOf w b = some 5 → ¬ S b) : DiskIs base w' D A where
  blk := (hx.block _ h.lpb (hn _ (.inl rfl))).trans h.blk
  lo := h.lo
  lof := h.lof
  lob := h.lob
  ne := h.ne
  mfiles := h.mfiles.ext hx (hn _ (.inr (.inl rfl)))
  mbase := h.mbase.ext hx (hn _ (.inr (.inr (.inl rfl))))
  ochg := h.ochg.ext hx (fun b hb => hn b (.inr (.inr (.inr (.inl hb)))))
  osyn := h.osyn.ext hx (fun b hb => hn b (.inr (.inr (.inr (.inr (.inl hb))))))
  file f hf := (h.file f hf).ext hx (hn _ (.inr (.inr (.inr (.inr (.inr ⟨f, hf, .inl rfl⟩)))))) (fun b hb => hn b (.inr (.inr (.inr (.inr (.inr ⟨f, hf, .inr hb⟩)))))) hu
  apart := h.apart
  ok := h.ok
theorem DiskIs.below (h : DiskIs base w D A) (hx : Below w.heap.size w w') : DiskIs base w' D A :=
  h.ext (Ext.of_below (S := fun _ => False) hx) (fun _ _ => id) (fun _ _ _ => id)
theorem DiskIs.alloc (h : DiskIs base w D A) (o : Obj) : DiskIs base (w.alloc o) D A := h.below ((Below.refl _ _).alloc (Nat.le_refl _) o)
theorem DiskIs.head (h : DiskIs base w D A) (hx : Ext S w w') (hS : ∀ b, b < w.heap.size → S b → b = D.pb ∨ D.vc.ownBlock = some b ∨ D.vs.ownBlock = some b) {vc vs : Value} {chg : List Chg} {syn : List Int} {now : Int}
    (hb : w'.heap[D.pb]? = some (.cells #[.map (some D.mf), .map (some D.mb), vc, vs, .int .i64 now] 118 (0, 0)))
    (hc : Own Chg.cells 4 126 base w' vc chg) (hs : Own intc 1 3 base w' vs syn) (hok : ∀ c ∈ chg, ∀ f, c.f = some f → f ∈ A.ids ∧ c.name.size ≤ 8) :
    DiskIs base w' { D with vc := vc, vs := vs } { A with chg := chg, syn := syn, now := now } := by
  have key : ∀ b T, tagOf w b = T → T ≠ some 118 → T ≠ some 126 → T ≠ some 3 → b < w.heap.size → ¬ S b := by
    intro b T ht h1 h2 h3 hl hsb
    rcases hS b hl hsb with rfl | e | e
    · exact h1 (ht.symm.trans h.tpb)
    · exact h2 (ht.symm.trans (tag_own h.ochg e))
    · exact h3 (ht.symm.trans (tag_own h.osyn e))
  exact {
    blk := hb
    lo := h.lo
    lof := h.lof
    lob := h.lob
    ne := h.ne
    mfiles := h.mfiles.ext hx (key _ _ (tag_map h.mfiles) (by decide) (by decide) (by decide) h.lmf)
    mbase := h.mbase.ext hx (key _ _ (tag_map h.mbase) (by decide) (by decide) (by decide) h.lmb)
    ochg := hc
    osyn := hs
    file := fun f hf => (h.file f hf).ext hx (key _ _ (h.file f hf).tag (by decide) (by decide) (by decide) (h.file f hf).lt)
      (fun b hb => key _ _ ((h.file f hf).row hb).1 (by decide) (by decide) (by decide) (tag_lt ((h.file f hf).row hb).1)) (fun b hb ht => key _ _ ht (by decide) (by decide) (by decide) (tag_lt ht))
    apart := h.apart
    ok := ⟨h.ok.inf, h.ok.inb, hok, h.ok.sz⟩ }
theorem DiskIs.names (h : DiskIs base w D A) (hx : Ext (· = D.mf) w w') {files : List (ByteArray × Nat)} (hm : MapIs Value.string fptr w' D.mf files) (hok : ∀ n f, (n, f) ∈ files → f ∈ A.ids ∧ n.size ≤ 8) :
    DiskIs base w' D { A with files := files } := by
  have key : ∀ b T, tagOf w b = some T → ¬ b = D.mf := fun b T ht => tag_ne ht (tag_map h.mfiles) (by simp)
  exact {
    blk := (hx.block _ h.lpb (key _ _ h.tpb)).trans h.blk
    lo := h.lo
    lof := h.lof
    lob := h.lob
    ne := h.ne
    mfiles := hm
    mbase := h.mbase.ext hx (fun e => h.ne e.symm)
    ochg := h.ochg.ext hx (fun b hb => key _ _ (tag_own h.ochg hb))
    osyn := h.osyn.ext hx (fun b hb => key _ _ (tag_own h.osyn hb))
    file := fun f hf => (h.file f hf).ext hx (key _ _ (h.file f hf).tag) (fun b hb => key _ _ ((h.file f hf).row hb).1) (fun b hb ht => key _ _ ht)
    apart := h.apart
    ok := ⟨hok, h.ok.inb, h.ok.inc, h.ok.sz⟩ }
theorem DiskIs.turn (h : DiskIs base w D A) (hx : Ext S w w') {f : Nat} (hf : f ∈ A.ids) (hS : ∀ b, b < w.heap.size → S b → b = f ∨ (D.rv f).ownBlock = some b) {v : Value} {ps : List PcA} (hi : FileIs base w' f v ps)
    (hv : ∀ b, v.ownBlock = some b → (D.rv f).ownBlock = some b ∨ w.heap.size ≤ b) (hz : sizeP ps ≤ 1048576) :
    DiskIs base w' { D with rv := fun g => if g = f then v else D.rv g } { A with fs := fun g => if g = f then ps else A.fs g } := by
  have key : ∀ b T, tagOf w b = T → T ≠ some 124 → T ≠ some 131 → b < w.heap.size → ¬ S b := by
    intro b T ht h1 h2 hl hsb
    rcases hS b hl hsb with rfl | e
    · exact h1 (ht.symm.trans (h.file b hf).tag)
    · exact h2 (ht.symm.trans ((h.file f hf).row e).1)
  refine {
    blk := (hx.block _ h.lpb (key _ _ h.tpb (by decide) (by decide) h.lpb)).trans h.blk
    lo := h.lo
    lof := h.lof
    lob := h.lob
    ne := h.ne
    mfiles := h.mfiles.ext hx (key _ _ (tag_map h.mfiles) (by decide) (by decide) h.lmf)
    mbase := h.mbase.ext hx (key _ _ (tag_map h.mbase) (by decide) (by decide) h.lmb)
    ochg := h.ochg.ext hx (fun b hb => key _ _ (tag_own h.ochg hb) (by decide) (by decide) (h.ochg.blk b hb).2)
    osyn := h.osyn.ext hx (fun b hb => key _ _ (tag_own h.osyn hb) (by decide) (by decide) (h.osyn.blk b hb).2)
    file := fun g hg => ?_
    apart := fun g k hg hk hne b hb hb' => ?_
    ok := ⟨h.ok.inf, h.ok.inb, h.ok.inc, fun g hg => ?_⟩ }
  · dsimp only
    split
    · rename_i e; subst e; exact hi
    · rename_i e
      refine (h.file g hg).ext hx (fun hs => ?_) (fun b hb hs => ?_) (fun b hb ht => key _ _ ht (by decide) (by decide) (tag_lt ht))
      · rcases hS g (h.file g hg).lt hs with e2 | e2
        · exact e e2
        · exact tag_ne (h.file g hg).tag ((h.file f hf).row e2).1 (by decide) rfl
      · rcases hS b (tag_lt ((h.file g hg).row hb).1) hs with rfl | e2
        · exact tag_ne ((h.file g hg).row hb).1 (h.file b hf).tag (by decide) rfl
        · exact h.apart g f hg hf e b hb e2
  · dsimp only at hb hb'
    have old : ∀ g, g ∈ A.ids → g ≠ f → ∀ b, (D.rv g).ownBlock = some b → v.ownBlock = some b → False := fun g hg hgf b hb hvb => by
      rcases hv b hvb with e | e
      · exact h.apart g f hg hf hgf b hb e
      · have := tag_lt ((h.file g hg).row hb).1; omega
    split at hb
    · rename_i e1
      rw [if_neg (fun e2 => hne (e1.trans e2.symm))] at hb'
      exact old k hk (fun e2 => hne (e1.trans e2.symm)) b hb' hb
    · rename_i e1
      split at hb'
      · exact old g hg e1 b hb hb'
      · exact h.apart g k hg hk hne b hb hb'
  · dsimp only
    split
    · exact hz
    · exact h.ok.sz g hg
theorem DiskIs.born (h : DiskIs base w D A) (hl : base ≤ w.heap.size) : DiskIs base (w.alloc (.cells #[.slice none 0 0, .int .i64 0] 124)) { D with rv := fun g => if g = w.heap.size then .slice none 0 0 else D.rv g } { A with ids := w.heap.size :: A.ids, fs := fun g => if g = w.heap.size then [] else A.fs g } := by
  have h2 := h.alloc (.cells #[.slice none 0 0, .int .i64 0] 124)
  have hn : ∀ f ∈ A.ids, f ≠ w.heap.size := fun f hf => Nat.ne_of_lt (h.file f hf).lt
  refine { h2 with file := fun g hg => ?_, apart := fun g k hg hk hne b hb hb' => ?_, ok := ?_ }
  · rcases List.mem_cons.1 hg with rfl | hg
    · dsimp only
      rw [if_pos rfl, if_pos rfl]
      exact ⟨hl, (MapKept.heap_alloc w _).1, [], Own.nil, rfl, fun i q p hq => by simp at hq⟩
    · dsimp only
      rw [if_neg (hn g hg), if_neg (hn g hg)]
      exact h2.file g hg
  · dsimp only at hb hb'
    rcases List.mem_cons.1 hg with rfl | hg
    · rw [if_pos rfl] at hb; cases hb
    · rcases List.mem_cons.1 hk with rfl | hk
      · rw [if_pos rfl] at hb'; cases hb'
      · rw [if_neg (hn g hg)] at hb
        rw [if_neg (hn k hk)] at hb'
        exact h.apart g k hg hk hne b hb hb'
  · refine ⟨fun n f hf => ⟨List.mem_cons_of_mem _ (h.ok.inf n f hf).1, (h.ok.inf n f hf).2⟩, fun n f hf => ⟨List.mem_cons_of_mem _ (h.ok.inb n f hf).1, (h.ok.inb n f hf).2⟩, fun c hc f hf => ⟨List.mem_cons_of_mem _ (h.ok.inc c hc f hf).1, (h.ok.inc c hc f hf).2⟩, fun g hg => ?_⟩
    rcases List.mem_cons.1 hg with rfl | hg
    · dsimp only
      rw [if_pos rfl]
      simp [sizeP]
    · dsimp only
      rw [if_neg (hn g hg)]
      exact h.ok.sz g hg
end
structure Turned (base : Nat) (w : World) (D : DSh) (A : DiskA) (w' : World) (D' : DSh) (A' : DiskA) : Prop where
  is_ : DiskIs base w' D' A'
  pb : D'.pb = D.pb
  ext : Ext (Foot D A) w w'
  foot : ∀ b, Foot D' A' b → Foot D A b ∨ w.heap.size ≤ b
theorem Turned.refl {base : Nat} {w : World} {D : DSh} {A : DiskA} (h : DiskIs base w D A) : Turned base w D A w D A := ⟨h, rfl, Ext.refl _ _, fun _ hb => .inl hb⟩
theorem Turned.trans {base : Nat} {w1 w2 w3 : World} {D1 D2 D3 : DSh} {A1 A2 A3 : DiskA} (h : Turned base w1 D1 A1 w2 D2 A2) (k : Turned base w2 D2 A2 w3 D3 A3) : Turned base w1 D1 A1 w3 D3 A3 where
  is_ := k.is_
  pb := k.pb.trans h.pb
  ext := h.ext.andThen k.ext (fun b hb hf => (h.foot b hf).resolve_right (by omega))
  foot b hb := by
    rcases k.foot b hb with e | e
    · exact h.foot b e
    · exact .inr (Nat.le_trans h.ext.size e)
theorem Turned.below {base : Nat} {w w' : World} {D : DSh} {A : DiskA} (h : DiskIs base w D A) (hb : Below w.heap.size w w') : Turned base w D A w' D A := ⟨h.below hb, rfl, Ext.of_below hb, fun _ hb => .inl hb⟩
theorem Turned.frame {base B : Nat} {w0 w w' : World} {D D' : DSh} {A A' : DiskA} (h : Turned base w D A w' D' A') (hi : DiskIs base w D A) (hb : Below B w0 w) (hB : B ≤ base) (hs : B ≤ w.heap.size) : Below B w0 w' :=
  Ext.new hb h.ext (fun i hi' _ hp => by have := (hi.foot hp).1; omega) hs
end Go.Proofs.YtgmdimbiipemhaaGreatDoor
namespace Go.Proofs.YtgmdimbiipemhaaGreatDoor
open Go.RowKit Go.Deep
theorem und_files : Tryz.prog.underlying 115 = some (.map 9 120) := by kernel_rfl
theorem zero_file (w : World) : (zeroValue 120).run Tryz.prog w = .ok (.pointer none) w := by kernel_rfl
def applyC (c : Chg) (l : List (ByteArray × Nat)) : List (ByteArray × Nat) :=
  match c.f with
  | none => adel l c.old
  | some f => aset (adel l c.old) c.name f
attribute [local go_sem] MapIs.alloc MapIs.drew MapIs.setCell
attribute [local go_sem] mapPut_cell mapPut_frozen mapPut_size mapPut_drew mapDel_cell mapDel_frozen mapDel_size mapDel_drew
set_option maxHeartbeats 1000000 in
theorem apply_any (c : Chg) (mf : Nat) (l : List (ByteArray × Nat)) (w : World) (h : MapIs Value.string fptr w mf l) :
    Calls Tryz.prog 118 #[.agg #[.int .i64 c.at_, .string c.name, .string c.old, ptrV c.f], .map (some mf)] w fun e w' =>
      e = .returned (.tuple #[]) ∧ MapIs Value.string fptr w' mf (applyC c l) ∧ Ext (· = mf) w w' := by
  obtain ⟨cat, nm, od, f⟩ := c
  have hdel : ∀ W, MapIs Value.string fptr W mf l → (Builtin.delete_ #[115, 9] 0 #[.map (some mf), .string od]).run Tryz.prog W = .ok (.tuple #[]) (mapDel W mf (aidx l od)) :=
    fun W hW => hW.delete key_string und_files od
  have h1 : MapIs Value.string fptr (w.alloc (.cells #[.int .i64 cat, .string nm, .string od, ptrV f] 126)) mf l := h.alloc _
  have h2 := h1.del od
  have hx : Ext (· = mf) w (mapDel (w.alloc (.cells #[.int .i64 cat, .string nm, .string od, ptrV f] 126)) mf (aidx l od)) := ((Ext.refl (fun x => x = mf) w).alloc _).mapDel (.inl rfl) _
  cases f with
  | none =>
    unfold ptrV at *
    simp only [Option.map_none] at *
    go_enter Tryz.func118, Tryz.ntmps118
    go_wp2
    go_end0
    exact ⟨rfl, h2, hx⟩
  | some f =>
    have hu : ∀ W, MapIs Value.string fptr W mf (adel l od) → (Instr.mapUpdate 115 (.map (some mf)) (.string nm) (.pointer (some ⟨f, 0, none⟩))).run Tryz.prog W = .ok () (mapPut W mf (aidx (adel l od) nm) (.string nm) (fptr f)) :=
      fun W hW => hW.update key_string und_files nm (fptr f)
    unfold ptrV at *
    simp only [Option.map_some] at *
    have h3 := h2.put nm f
    have hx3 := hx.mapPut (b := mf) (.inl rfl) (aidx (adel l od) nm) (.string nm) (fptr f)
    go_enter Tryz.func118, Tryz.ntmps118
    go_wp2
    go_end0
    exact ⟨rfl, h3, hx3⟩
def disk0 : DiskA := ⟨[], [], [], [], 0, [], fun _ => []⟩
set_option maxHeartbeats 1000000 in
theorem new_any {base : Nat} (w : World) (hb : base ≤ w.heap.size) : Calls Tryz.prog 28 #[] w fun e w' =>
    ∃ D : DSh, e = .returned (.pointer (some ⟨D.pb, 0, none⟩)) ∧ DiskIs base w' D disk0 ∧ Below w.heap.size w w' ∧ ∀ b, Foot D disk0 b → w.heap.size ≤ b := by
  have hmm := @run_makeMap Tryz.prog
  have h1 : MapIs Value.string fptr (w.alloc (.map #[] 0)) w.heap.size ([] : List (ByteArray × Nat)) := MapIs.made w
  have h2 : MapIs Value.string fptr ((w.alloc (.map #[] 0)).alloc (.map #[] 0)) (w.heap.size + 1) ([] : List (ByteArray × Nat)) := by
    have := MapIs.made (ek := Value.string) (ev := fptr) (w.alloc (.map #[] 0))
    rwa [World.size_alloc] at this
  have hB := (((Below.refl w.heap.size w).alloc (Nat.le_refl _) (.map #[] 0)).alloc (by simp) (.map #[] 0)).alloc (by simp; omega) (.cells #[.map (some w.heap.size), .map (some (w.heap.size + 1)), .slice none 0 0, .slice none 0 0, .int .i64 0] 118)
  go_enter Tryz.func28, Tryz.ntmps28
  go_wp2
  go_ret
  refine ⟨⟨w.heap.size + 2, w.heap.size, w.heap.size + 1, .slice none 0 0, .slice none 0 0, fun _ => .slice none 0 0⟩, rfl, ?_, hB, ?_⟩
  · exact {
      blk := by
        have := (MapKept.heap_alloc ((w.alloc (.map #[] 0)).alloc (.map #[] 0)) (.cells #[.map (some w.heap.size), .map (some (w.heap.size + 1)), .slice none 0 0, .slice none 0 0, .int .i64 0] 118)).1
        simp only [World.size_alloc] at this
        exact this
      lo := by dsimp only; omega
      lof := by dsimp only; omega
      lob := by dsimp only; omega
      ne := by dsimp only; omega
      mfiles := (h1.alloc _).alloc _
      mbase := h2.alloc _
      ochg := Own.nil
      osyn := Own.nil
      file := fun f hf => by cases hf
      apart := fun f g hf => by cases hf
      ok := ⟨fun n f hf => (by cases hf), fun n f hf => (by cases hf), fun c hc => (by cases hc), fun g hg => (by cases hg)⟩ }
  · intro b hb
    rcases hb with rfl | rfl | rfl | hb | hb | ⟨f, hf, _⟩
    · dsimp only; omega
    · exact Nat.le_refl _
    · dsimp only; omega
    · cases hb
    · cases hb
    · cases hf
theorem info_change : (Tryz.prog.info? 126).map (fun i => (i.zero, i.size, i.bytes)) = some (some (.agg #[.int .i64 0, .string ⟨#[]⟩, .string ⟨#[]⟩, .pointer none]), 4, 48) := by kernel_rfl
theorem applyC_mem {c : Chg} {l : List (ByteArray × Nat)} {n : ByteArray} {g : Nat} (h : (n, g) ∈ applyC c l) : (n, g) ∈ l ∨ (n = c.name ∧ c.f = some g) := by
  unfold applyC at h
  have hdel : ∀ {x}, x ∈ adel l c.old → x ∈ l := fun hx => (adel_sub l c.old).subset hx
  cases hf : c.f with
  | none => rw [hf] at h; exact .inl (hdel h)
  | some f =>
    rw [hf] at h
    dsimp only at h
    cases hi : aidx (adel l c.old) c.name with
    | none =>
      rw [aset_none hi] at h
      rcases List.mem_append.1 h with h | h
      · exact .inl (hdel h)
      · simp at h; exact .inr ⟨h.1, by rw [h.2]⟩
    | some i =>
      rw [aset_some hi] at h
      rcases List.mem_or_eq_of_mem_set h with h | h
      · exact .inl (hdel h)
      · cases h; exact .inr ⟨rfl, rfl⟩
def stepA (c : Chg) (A : DiskA) : DiskA := { A with now := A.now + 1, chg := A.chg ++ [{ c with at_ := A.now + 1 }], files := applyC c A.files }
set_option maxHeartbeats 4000000 in
theorem step_any {base : Nat} {w : World} {D : DSh} {A : DiskA} (h : DiskIs base w D A) (hbw : base ≤ w.heap.size) (c : Chg) (hc : ∀ f, c.f = some f → f ∈ A.ids ∧ c.name.size ≤ 8) (hn0 : 0 ≤ A.now) (hn1 : A.now ≤ 1000000000) (hl : A.chg.length ≤ 1000000000) :
    Calls Tryz.prog 69 #[.pointer (some ⟨D.pb, 0, none⟩), .agg #[.int .i64 c.at_, .string c.name, .string c.old, ptrV c.f]] w fun e w' =>
      e = .returned (.tuple #[]) ∧ ∃ D', Turned base w D A w' D' (stepA c A) := by
  obtain ⟨i0, hi, hz0, hz1, hz2⟩ := info_parts info_change
  obtain ⟨cat, nm, od, f⟩ := c
  obtain ⟨pv, hpv⟩ : ∃ pv, ptrV f = pv := ⟨_, rfl⟩
  rw [hpv]
  have HPV := Lib.hid hpv
  clear hpv
  have HC := Lib.hid hc
  clear hc
  dsimp only at HC ⊢
  have h1 := h.alloc (.cells #[.int .i64 cat, .string nm, .string od, pv] 126)
  have q0 : (w.alloc (.cells #[.int .i64 cat, .string nm, .string od, pv] 126)).heap[w.heap.size]? = some (.cells #[.int .i64 cat, .string nm, .string od, pv] 126 (0, 0)) := (MapKept.heap_alloc w _).1
  have hpb := h.lpb
  have HX1 := Lib.hid ((Ext.refl (Foot D A) w).alloc (.cells #[.int .i64 cat, .string nm, .string od, pv] 126))
  have HH0 := Lib.hid h
  have hs1 : (w.alloc (.cells #[.int .i64 cat, .string nm, .string od, pv] 126)).heap.size = w.heap.size + 1 := by simp
  obtain ⟨w1, hw1⟩ : ∃ w1, w.alloc (.cells #[.int .i64 cat, .string nm, .string od, pv] 126) = w1 := ⟨_, rfl⟩
  rw [hw1] at h1 q0 hs1 HX1
  have p0 := h1.blk
  have p1 := Joins.block_setCell (i := 4) p0 (.int .i64 (A.now + 1))
  have h2 : DiskIs base (w1.setCell ⟨D.pb, 4, none⟩ (.int .i64 (A.now + 1))) D { A with now := A.now + 1 } :=
    h1.head (S := (· = D.pb)) (ext_set _ _ _ _) (fun b _ hb => .inl hb) p1 (h1.ochg.ext (ext_set _ _ _ _) (fun b hb e => tag_ne (tag_own h1.ochg hb) h1.tpb (by decide) e))
      (h1.osyn.ext (ext_set _ _ _ _) (fun b hb e => tag_ne (tag_own h1.osyn hb) h1.tpb (by decide) e)) h1.ok.inc
  have q1 : (w1.setCell ⟨D.pb, 4, none⟩ (.int .i64 (A.now + 1))).heap[w.heap.size]? = some (.cells #[.int .i64 cat, .string nm, .string od, pv] 126 (0, 0)) :=
    ((ext_set w1 D.pb 4 _).block _ (by omega) (by omega)).trans q0
  have HX2 := Lib.hid (HX1.out.setCell (p := ⟨D.pb, 4, none⟩) (.inr (.inl rfl)) (.int .i64 (A.now + 1)))
  obtain ⟨w2, hw2⟩ : ∃ w2, w1.setCell ⟨D.pb, 4, none⟩ (.int .i64 (A.now + 1)) = w2 := ⟨_, rfl⟩
  have hs2 : w2.heap.size = w.heap.size + 1 := by rw [← hw2, World.size_setCell, hs1]
  rw [hw2] at p1 h2 q1 HX2
  have q2 := Joins.block_setCell (i := 0) q1 (.int .i64 (A.now + 1))
  have h3 : DiskIs base (w2.setCell ⟨w.heap.size, 0, none⟩ (.int .i64 (A.now + 1))) D { A with now := A.now + 1 } :=
    h2.ext (ext_set _ _ _ _) (fun b hb e => by
      have h9 : Foot D A b := hb
      have := (HH0.out.foot h9).2.1
      omega) (fun b hb ht e => by rw [e, tag_cells q1] at ht; cases ht)
  have HX3 := Lib.hid (HX2.out.setCell (p := ⟨w.heap.size, 0, none⟩) (.inl (Nat.le_refl _)) (.int .i64 (A.now + 1)))
  obtain ⟨w3, hw3⟩ : ∃ w3, w2.setCell ⟨w.heap.size, 0, none⟩ (.int .i64 (A.now + 1)) = w3 := ⟨_, rfl⟩
  have hs3 : w3.heap.size = w.heap.size + 1 := by rw [← hw3, World.size_setCell, hs2]
  rw [hw3] at h3 q2 HX3
  have k0 := Joins.cell_of_block p0 4
  have k1 := Joins.unfrozen_of_block p0 4
  have k2 := Joins.cell_of_block p1 4
  have k3 := Joins.cell_of_block q1 0
  have k4 := Joins.unfrozen_of_block q1 0
  have HP0 := Lib.hid p0
  have HP1 := Lib.hid p1
  have HQ1 := Lib.hid q1
  have HQ2 := Lib.hid q2
  have HH3 := Lib.hid h3
  clear h h1 h2 h3 p0 p1 q0 q1 q2
  simp only [List.getElem?_toArray, Array.getElem?_setIfInBounds, List.size_toArray, List.length_cons, List.length_nil, List.getElem?_cons_succ, List.getElem?_cons_zero, Nat.reduceAdd, Nat.reduceLT, if_true] at k0 k2 k3
  go_enter Tryz.func69, Tryz.ntmps69
  have HS3 := Lib.hid hs3
  have hbw3 : base ≤ w3.heap.size := by omega
  have hw0 : w.heap.size < w3.heap.size := by omega
  clear hs1 hs2 hs3
  go_upto_region 3 with fail
  clear k0 k1 k2 k3 k4 hw1 hw2 hw3 HP0 HP1 HQ1 HX1 HX2
  obtain ⟨va, vcap, hvc⟩ : ∃ va vcap, D.vc = .slice va A.chg.length vcap := by
    rcases HH0.out.ochg.eq_slice with ⟨e, e2⟩ | ⟨g, c, e, _⟩
    · exact ⟨none, 0, by rw [e, e2]; rfl⟩
    · exact ⟨_, _, e⟩
  have b3 := HH3.out.blk
  have c2 := Joins.cell_of_block b3 2
  have c0 := Joins.cell_of_block b3 0
  have f2 := Joins.unfrozen_of_block b3 2
  have d0 := Joins.cell_of_block HQ2.out 0
  have d1 := Joins.cell_of_block HQ2.out 1
  have d2 := Joins.cell_of_block HQ2.out 2
  have d3 := Joins.cell_of_block HQ2.out 3
  simp only [List.getElem?_toArray, Array.getElem?_setIfInBounds, List.size_toArray, List.length_cons, List.length_nil, List.getElem?_cons_succ, List.getElem?_cons_zero, Nat.reduceAdd, Nat.reduceLT, if_true, hvc] at c2 c0 d0 d1 d2 d3
  try simp only [List.setIfInBounds_toArray, List.set_cons_zero, List.getElem?_toArray, List.getElem?_cons_succ, List.getElem?_cons_zero] at d0 d1 d2 d3
  have hown3 := HH3.out.ochg
  rw [hvc] at hown3
  have hnb : ∀ j u, (Chg.cells ⟨A.now + 1, nm, od, f⟩)[j]? = some u → (w3.alloc (.cells #[.int .i64 (A.now + 1), .string nm, .string od, pv] 126)).cell? ⟨w3.heap.size, j, none⟩ = some u := by
    intro j u hj
    rw [World.cell?_alloc_at _ _ _ _ rfl, ← hj, Chg.cells]
    simp [HPV.out]
  have HNB := Lib.hid hnb
  have hown4 := hown3.alloc (.cells #[.int .i64 (A.now + 1), .string nm, .string od, pv] 126)
  have HOW := Lib.hid hown4
  have hlpb := HH3.out.lpb
  have hnr : ¬ (Value.slice va A.chg.length vcap).ownBlock = some D.pb := fun e => tag_ne (tag_own hown3 e) HH3.out.tpb (by decide) rfl
  have hnq : ¬ (Value.slice va A.chg.length vcap).ownBlock = some w.heap.size := fun e => by
    have := HH0.out.ochg.blk w.heap.size (by rw [hvc]; exact e)
    omega
  have hall : ∀ w5 w6 : World, w5.heap = (w3.alloc (.cells #[.int .i64 (A.now + 1), .string nm, .string od, pv] 126)).heap → Ext (fun b => (Value.slice va A.chg.length vcap).ownBlock = some b) w5 w6 → w6.heap[D.pb]? = some (.cells #[.map (some D.mf), .map (some D.mb), .slice va A.chg.length vcap, D.vs, .int .i64 (A.now + 1)] 118 (0, 0)) := fun w5 w6 h5 hx6 => by
    rw [hx6.block D.pb (by rw [h5]; simp; omega) hnr, h5, Below.heap_alloc _ _ _ hlpb, b3, hvc]
  have HALL := Lib.hid hall
  have HVC := Lib.hid hvc
  have HNR := Lib.hid hnr
  have HNQ := Lib.hid hnq
  clear hnb hown3 hown4 hnr hall hvc hnq b3
  go_region_law (refine step_append_struct2 (v := .slice va A.chg.length vcap) (l := A.chg) rfl (.tmp 20) (.tmp 22) 116 rfl i0 _ 48 Tryz.underlying116 hi hz0 hz1 hz2 rfl (by omega) Chg.len Chg.one rfl HOW.out ⟨A.now + 1, nm, od, f⟩ w3.heap.size 1 rfl HNB.out (by unfold maxLen; omega) (by omega) (by simp; omega) ?_; intro v' w6 hown6 hx6 hnw6; obtain ⟨g6, cp6, rfl⟩ : ∃ g c, v' = .slice (some ⟨g, 0, none⟩) (A.chg.length + 1) c := (by rcases hown6.eq_slice with ⟨_, h⟩ | ⟨g, c, h, _⟩; (simp at h); exact ⟨g, c, by simpa using h⟩); have hb6 := HALL.out _ w6 (by rfl) hx6; have g1 := Joins.unfrozen_of_block hb6 2; have g2 := Joins.cell_of_block hb6 2)
  all_goals
    have hx7 : Ext (fun b => b = D.pb ∨ D.vc.ownBlock = some b) w3 (w6.setCell ⟨D.pb, 2, none⟩ (.slice (some ⟨g6, 0, none⟩) (A.chg.length + 1) cp6)) :=
      Ext.setCell ((((Ext.refl _ w3).alloc (.cells #[.int .i64 (A.now + 1), .string nm, .string od, pv] 126))).andThen (T := fun b => (Value.slice va A.chg.length vcap).ownBlock = some b) ⟨hx6.os, hx6.tape, hx6.output, hx6.size, hx6.block⟩ (fun b _ hb => .inr (by rw [HVC.out]; exact hb))) (.inr (.inl rfl)) _
    have hblk : (w6.setCell ⟨D.pb, 2, none⟩ (.slice (some ⟨g6, 0, none⟩) (A.chg.length + 1) cp6)).heap[D.pb]? = some (.cells #[.map (some D.mf), .map (some D.mb), .slice (some ⟨g6, 0, none⟩) (A.chg.length + 1) cp6, D.vs, .int .i64 (A.now + 1)] 118 (0, 0)) := by
      rw [Joins.block_setCell hb6]; rfl
    have h7 := HH3.out.head hx7 (fun b _ hb => hb.elim .inl (fun e => .inr (.inl e))) hblk (hown6.ext (ext_set _ _ _ _) (fun b hb e => tag_ne (tag_own hown6 hb) (tag_cells hb6) (by decide) e))
      (HH3.out.osyn.ext hx7 (fun b hb hs => by
        rcases hs with rfl | e
        · exact tag_ne (tag_own HH3.out.osyn hb) HH3.out.tpb (by decide) rfl
        · exact tag_ne (tag_own HH3.out.osyn hb) (tag_own HH3.out.ochg e) (by decide) rfl))
      (fun c hc f' hf' => by
        rcases List.mem_append.1 hc with hc | hc
        · exact HH3.out.ok.inc c hc f' hf'
        · simp at hc; subst hc; exact HC.out f' hf')
    have q7 := (hx7.block w.heap.size hw0 (fun e => by
      rcases e with e | e
      · omega
      · exact HNQ.out (by rw [← HVC.out]; exact e))).trans HQ2.out
    have hg6 : ∀ b, (Value.slice (some ⟨g6, 0, none⟩) (A.chg.length + 1) cp6).ownBlock = some b → D.vc.ownBlock = some b ∨ w.heap.size ≤ b := fun b hb => by
      rcases hnw6 b hb with e | e
      · exact .inl (by rw [HVC.out]; exact e)
      · refine .inr (Nat.le_trans ?_ e)
        simp
        omega
    have hs7 := hx7.size
    obtain ⟨w7, hw7⟩ : ∃ w7, w6.setCell ⟨D.pb, 2, none⟩ (.slice (some ⟨g6, 0, none⟩) (A.chg.length + 1) cp6) = w7 := ⟨_, rfl⟩
    rw [hw7] at h7 hx7 q7 hs7 ⊢
    have HX7 := Lib.hid hx7
    have HG6 := Lib.hid hg6
    have d0 := Joins.cell_of_block q7 0
    have d1 := Joins.cell_of_block q7 1
    have d2 := Joins.cell_of_block q7 2
    have d3 := Joins.cell_of_block q7 3
    have c0 := Joins.cell_of_block h7.blk 0
    simp only [List.getElem?_toArray, Array.getElem?_setIfInBounds, List.size_toArray, List.length_cons, List.length_nil, List.getElem?_cons_succ, List.getElem?_cons_zero, Nat.reduceAdd, Nat.reduceLT, if_true] at d0 d1 d2 d3 c0
    try simp only [List.setIfInBounds_toArray, List.set_cons_zero, List.getElem?_toArray, List.getElem?_cons_succ, List.getElem?_cons_zero] at d0 d1 d2 d3
    have HM7 := Lib.hid h7.mfiles
    have H7 := Lib.hid h7
    have hap := fun W h => apply_any ⟨A.now + 1, nm, od, f⟩ D.mf A.files W h
    dsimp only at hap
    rw [HPV.out] at hap
    have HAP := Lib.hid hap
    have n1 := tag_ne h7.tpb (tag_map h7.mfiles) (by decide)
    have n2 := tag_ne (tag_cells q7) (tag_map h7.mfiles) (by decide)
    clear hw7 hx7 hg6 hown6 hx6 hnw6 hb6 g1 g2 q7 h7 hap hblk
    go_upto_region 4 with fail
    go_region_held3 (fun W => W.cell? ⟨w.heap.size, 0, none⟩ = some (.int .i64 (A.now + 1)) ∧ W.cell? ⟨w.heap.size, 1, none⟩ = some (.string nm) ∧ W.cell? ⟨w.heap.size, 2, none⟩ = some (.string od) ∧ W.cell? ⟨w.heap.size, 3, none⟩ = some pv ∧ W.cell? ⟨D.pb, 0, none⟩ = some (.map (some D.mf))) (first | exact ⟨d0, d1, d2, d3, c0⟩ | exact ⟨Ext.keep hx8 d0 n2, Ext.keep hx8 d1 n2, Ext.keep hx8 d2 n2, Ext.keep hx8 d3 n2, Ext.keep hx8 c0 n1⟩) ((go_at_call 118; ((with_reducible refine (HAP.out _ HM7.out.drew).mono ?_); rintro e w8 ⟨rfl, hm8, hx8⟩; rw [ext_drew] at hx8)))
    all_goals
      have h8 := H7.out.names hx8 hm8 (fun n g hg => by
        rcases applyC_mem hg with e | ⟨rfl, e⟩
        · exact HH0.out.ok.inf n g e
        · exact HC.out g e)
      have hT : Turned base w D A w8 { D with vc := .slice (some ⟨g6, 0, none⟩) (A.chg.length + 1) cp6, vs := D.vs } (stepA ⟨cat, nm, od, f⟩ A) := {
        is_ := h8
        pb := rfl
        ext := (HX3.out.andThen HX7.out (fun b _ hb => hb.elim .inl (fun e => .inr (.inr (.inr (.inl e)))))).andThen hx8 (fun b _ hb => .inr (.inl hb))
        foot := fun b hb => by
          rcases hb with e | e | e | e | e | ⟨g, hg, e⟩
          · exact .inl (.inl e)
          · exact .inl (.inr (.inl e))
          · exact .inl (.inr (.inr (.inl e)))
          · exact (HG6.out b e).elim (fun e => .inl (.inr (.inr (.inr (.inl e))))) .inr
          · exact .inl (.inr (.inr (.inr (.inr (.inl e)))))
          · exact .inl (.inr (.inr (.inr (.inr (.inr ⟨g, hg, e⟩))))) }
      have HT := Lib.hid hT
      clear hm8 hx8 h8 hT d0 d1 d2 d3 c0
      first
        | (go_wp2_with fail; go_end0; exact ⟨rfl, _, HT.out⟩)
        | (go_end0; exact ⟨rfl, _, HT.out⟩)
def okB (c : UInt8) : Bool := decide (97 ≤ c.toNat ∧ c.toNat ≤ 122)
def rightN (s : ByteArray) : Bool := s.data.toList.all okB && decide (1 ≤ s.size ∧ s.size ≤ 8)
theorem rightN_size {s : ByteArray} (h : rightN s = true) : s.size ≤ 8 := by
  simp [rightN] at h
  exact h.2.2
theorem okB_bad {s : ByteArray} {i : Nat} (hi : i < s.size) (h : okB (s[i]'hi) = false) : rightN s = false := by
  have : s.data.toList.all okB = false := by
    rw [List.all_eq_false]
    exact ⟨s[i]'hi, by rw [show s[i]'hi = s.data.toList[i]'(by simpa using hi) from rfl]; exact List.getElem_mem _, by simp [h]⟩
  simp [rightN, this]
theorem okB_all {s : ByteArray} (h : ∀ i (hi : i < s.size), okB (s[i]'hi) = true) : rightN s = decide (1 ≤ s.size ∧ s.size ≤ 8) := by
  have : s.data.toList.all okB = true := by
    rw [List.all_eq_true]
    intro x hx
    obtain ⟨i, hi, rfl⟩ := List.mem_iff_getElem.1 hx
    exact h i (by simpa using hi)
  simp [rightN, this]
theorem below_iter {B : Nat} {w w' : World} (h : Below B w w') (hB : B ≤ w'.heap.size) (s : ByteArray) (p : Nat) : Below B w (w'.iter s p) := h.alloc hB _
set_option maxHeartbeats 1000000 in
theorem fright_any (s : ByteArray) (w : World) : Calls Tryz.prog 68 #[.string s] w fun e w' => e = .returned (.bool (rightN s)) ∧ Below w.heap.size w w' := by
  have hrs := fun w => run_range_string (P := Tryz.prog) w 9 s und_string
  go_enter Tryz.func68, Tryz.ntmps68
  go_wp2_with fail
  go_loopg [4] s.size (fun g cv wx => ∃ k : Nat, g = s.size - k ∧ k ≤ s.size ∧ wx = w.iter s k ∧ Hid (∀ i (hi : i < s.size), i < k → okB (s[i]'hi) = true))
  case atStart => exact ⟨0, by omega, by omega, rfl, Lib.hid (fun i _ h => absurd h (by omega))⟩
  case round =>
    obtain ⟨k, hg, hk, rfl, hU⟩ := hrel
    by_cases hkl : k < s.size
    · have hb : Below w.heap.size w (w.iter s (k + (Utf8.decode s k).2)) := below_iter (Below.refl _ _) (Nat.le_refl _) _ _
      by_cases ha : (s[k]'hkl).toNat < 128
      · have hnx := fun ty => run_next_ascii (P := Tryz.prog) w s k ty hkl ha
        have hdc := decode_ascii s k hkl ha
        rw [hdc] at hb
        by_cases h1 : (s[k]'hkl).toNat < 97
        · have hr : rightN s = false := okB_bad hkl (by simp [okB]; omega)
          go_wp2
          go_ret
          exact ⟨by first | rfl | (rw [hr]; rfl), hb⟩
        · by_cases h2 : 122 < (s[k]'hkl).toNat
          · have hr : rightN s = false := okB_bad hkl (by simp [okB]; omega)
            go_wp2
            go_ret
            exact ⟨by first | rfl | (rw [hr]; rfl), hb⟩
          · have ho : okB (s[k]'hkl) = true := by simp [okB]; omega
            go_wp2
            go_roundg (s.size - (k + 1))
            case measure => omega
            case rel => exact ⟨k + 1, rfl, by omega, rfl, Lib.hid (fun i hi hik => by
              by_cases h3 : i < k
              · exact hU.out i hi h3
              · obtain rfl : i = k := by omega
                exact ho)⟩
      · have hnx := fun ty => run_next_any (P := Tryz.prog) w s k ty hkl
        have hdc := decode_high s k hkl (by omega)
        have hr : rightN s = false := okB_bad hkl (by simp [okB]; omega)
        have h1 : ¬ ((Utf8.decode s k).1 : Int) < 97 := by omega
        have h2 : (122 : Int) < ((Utf8.decode s k).1 : Int) := by omega
        go_wp2
        go_ret
        exact ⟨by first | rfl | (rw [hr]; rfl), hb⟩
    · obtain rfl : k = s.size := by omega
      have hnx := fun ty => run_next_end (P := Tryz.prog) w s s.size ty (by omega)
      have hr := okB_all (fun i hi => hU.out i hi hi)
      have hb : Below w.heap.size w (w.iter s s.size) := below_iter (Below.refl _ _) (Nat.le_refl _) _ _
      by_cases h1 : 1 ≤ s.size
      · have h3 : (1 : Int) ≤ (s.size : Int) := by omega
        by_cases h2 : s.size ≤ 8
        · have h4 : (s.size : Int) ≤ 8 := by omega
          have hr2 : rightN s = true := by rw [hr]; exact decide_eq_true ⟨h1, h2⟩
          clear hr
          go_wp2
          go_ret
          exact ⟨by first | rfl | simp [hr2, h4], hb⟩
        · have h4 : ¬ (s.size : Int) ≤ 8 := by omega
          have hr2 : rightN s = false := by rw [hr]; exact decide_eq_false (fun h => h2 h.2)
          clear hr
          go_wp2
          go_ret
          exact ⟨by first | rfl | simp [hr2, h4], hb⟩
      · have h3 : ¬ (1 : Int) ≤ (s.size : Int) := by omega
        have hr2 : rightN s = false := by rw [hr]; exact decide_eq_false (fun h => h1 h.1)
        clear hr
        go_wp2
        go_ret
        exact ⟨by first | rfl | simp [hr2, h3], hb⟩
def findV (A : DiskA) (name : ByteArray) : Value := .tuple #[ptrV (aget A.files name), .int .i64 (if (aget A.files name).isSome then 0 else 61)]
set_option maxHeartbeats 1000000 in
set_option maxRecDepth 20000 in
theorem find_any {base : Nat} {w : World} {D : DSh} {A : DiskA} (h : DiskIs base w D A) (name : ByteArray) :
    Calls Tryz.prog 70 #[.pointer (some ⟨D.pb, 0, none⟩), .string name] w fun e w' => e = .returned (findV A name) ∧ w' = w := by
  have c0 := Joins.cell_of_block h.blk 0
  simp only [List.getElem?_toArray, List.getElem?_cons_zero] at c0
  unfold findV
  cases hg : aget A.files name with
  | none =>
    have hl : (Instr.lookup 115 (.map (some D.mf)) (.string name) false).run Tryz.prog w = .ok (.pointer none) w := by
      have := h.mfiles.lookup key_string und_files zero_file name
      rw [hg] at this
      exact this
    have HH := Lib.hid h
    clear h
    go_enter Tryz.func70, Tryz.ntmps70
    go_wp2
    refine bodyPost_ret (results_tmp2 rfl _ _ _) rfl ?_
    exact ⟨rfl, rfl⟩
  | some f =>
    have hl : (Instr.lookup 115 (.map (some D.mf)) (.string name) false).run Tryz.prog w = .ok (.pointer (some ⟨f, 0, none⟩)) w := by
      have := h.mfiles.lookup key_string und_files zero_file name
      rw [hg] at this
      exact this
    have HH := Lib.hid h
    clear h
    go_enter Tryz.func70, Tryz.ntmps70
    go_wp2
    refine bodyPost_ret (results_tmp2 rfl _ _ _) rfl ?_
    exact ⟨rfl, rfl⟩
theorem MapIs.len {K V : Type} [DecidableEq K] {ek : K → Value} {ev : V → Value} {w : World} {b : Nat} {l : List (K × V)} {P : Program} {mt kt et : TypeId} (h : MapIs ek ev w b l) (hm : P.underlying mt = some (.map kt et)) (ty : TypeId) :
    (Builtin.len_ #[mt] ty #[.map (some b)]).run P w = .ok (.int .i64 l.length) w := by
  obtain ⟨hn, es, clock, h1, h2, h3, h4⟩ := h
  have hs : es.size = l.length := by
    have := congrArg List.length h2
    simpa using this
  simp [Builtin.len_, run_underlying hm, run_getObj_map' h1, goInt, Result.andThen, hs]
def makeCode (A : DiskA) (n : ByteArray) : Int := if rightN n = false then 63 else if (aget A.files n).isSome then 1 else if A.files.length = 8 then 62 else 0
def bornA (fb : Nat) (A : DiskA) : DiskA := { A with ids := fb :: A.ids, fs := fun g => if g = fb then [] else A.fs g }
theorem Turned.born {base : Nat} {w : World} {D : DSh} {A : DiskA} (h : DiskIs base w D A) (hl : base ≤ w.heap.size) :
    Turned base w D A (w.alloc (.cells #[.slice none 0 0, .int .i64 0] 124)) { D with rv := fun g => if g = w.heap.size then .slice none 0 0 else D.rv g } (bornA w.heap.size A) where
  is_ := h.born hl
  pb := rfl
  ext := (Ext.refl _ _).alloc _
  foot b hb := by
    have hn : ∀ f ∈ A.ids, f ≠ w.heap.size := fun f hf => Nat.ne_of_lt (h.file f hf).lt
    rcases hb with e | e | e | e | e | ⟨g, hg, e⟩
    · exact .inl (.inl e)
    · exact .inl (.inr (.inl e))
    · exact .inl (.inr (.inr (.inl e)))
    · exact .inl (.inr (.inr (.inr (.inl e))))
    · exact .inl (.inr (.inr (.inr (.inr (.inl e)))))
    · rcases List.mem_cons.1 hg with rfl | hg
      · dsimp only at e
        rw [if_pos rfl] at e
        rcases e with rfl | e
        · exact .inr (Nat.le_refl _)
        · cases e
      · dsimp only at e
        rw [if_neg (hn g hg)] at e
        exact .inl (.inr (.inr (.inr (.inr (.inr ⟨g, hg, e⟩)))))
set_option maxRecDepth 20000 in
set_option maxHeartbeats 1000000 in
theorem make_any {base : Nat} {w : World} {D : DSh} {A : DiskA} (h : DiskIs base w D A) (hbw : base ≤ w.heap.size) (name : ByteArray) (hn0 : 0 ≤ A.now) (hn1 : A.now ≤ 1000000000) (hl : A.chg.length ≤ 1000000000) :
    Calls Tryz.prog 29 #[.pointer (some ⟨D.pb, 0, none⟩), .string name] w fun e w' => e = .returned (.int .i64 (makeCode A name)) ∧
      ((makeCode A name ≠ 0 ∧ Turned base w D A w' D A) ∨ (makeCode A name = 0 ∧ ∃ fb D', fb ∉ A.ids ∧ Turned base w D A w' D' (stepA ⟨0, name, ⟨#[]⟩, some fb⟩ (bornA fb A)))) := by
  go_enter Tryz.func29, Tryz.ntmps29
  go_wp2_with fail
  refine (fright_any name _).mono ?_
  rintro e w1 ⟨rfl, b1⟩
  have hT1 := Turned.below h b1
  have h1 := hT1.is_
  have hb1 : base ≤ w1.heap.size := Nat.le_trans hbw b1.size
  cases hr : rightN name with
  | false =>
    have hc : makeCode A name = 63 := by simp [makeCode, hr]
    have HT := Lib.hid hT1
    clear h h1 hT1 b1
    go_wp2
    go_ret
    exact ⟨by rw [hc]; rfl, .inl ⟨by rw [hc]; decide, HT.out⟩⟩
  | true =>
    have c0 := Joins.cell_of_block h1.blk 0
    simp only [List.getElem?_toArray, List.getElem?_cons_zero] at c0
    have hl1 := h1.mfiles.lookup key_string und_files zero_file name
    cases hg : aget A.files name with
    | some f =>
      have hc : makeCode A name = 1 := by simp [makeCode, hr, hg]
      rw [hg] at hl1
      simp only [Option.map_some, Option.getD_some, fptr] at hl1
      have HT := Lib.hid hT1
      clear h h1 hT1 b1
      go_wp2
      go_ret
      exact ⟨by rw [hc]; rfl, .inl ⟨by rw [hc]; decide, HT.out⟩⟩
    | none =>
      rw [hg] at hl1
      simp only [Option.map_none, Option.getD_none] at hl1
      have hln := h1.mfiles.len und_files 3
      by_cases h8 : A.files.length = 8
      · have hc : makeCode A name = 62 := by simp [makeCode, hr, hg, h8]
        rw [h8] at hln
        have HT := Lib.hid hT1
        clear h h1 hT1 b1
        go_wp2
        go_ret
        exact ⟨by rw [hc]; rfl, .inl ⟨by rw [hc]; decide, HT.out⟩⟩
      · have hc : makeCode A name = 0 := by simp [makeCode, hr, hg, h8]
        have h9 : ¬ (A.files.length : Int) = 8 := by omega
        have hT2 := hT1.trans (Turned.born h1 hb1)
        have hs := step_any (Turned.born h1 hb1).is_ (by simp; omega) ⟨0, name, ⟨#[]⟩, some w1.heap.size⟩ (fun f hf => by cases hf; exact ⟨List.mem_cons_self, rightN_size hr⟩) hn0 hn1 hl
        have hni : w1.heap.size ∉ A.ids := fun hm => by have := (h1.file _ hm).lt; omega
        have HT2 := Lib.hid hT2
        have HS := Lib.hid hs
        clear h h1 hT1 b1 hT2 hs
        go_wp2_with fail
        refine HS.out.mono ?_
        rintro e w3 ⟨rfl, D', hT3⟩
        have HT3 := Lib.hid (HT2.out.trans hT3)
        clear hT3
        go_wp2
        go_ret
        exact ⟨by rw [hc]; rfl, .inr ⟨hc, _, D', hni, HT3.out⟩⟩
set_option maxRecDepth 20000 in
set_option maxHeartbeats 1000000 in
theorem remove_any {base : Nat} {w : World} {D : DSh} {A : DiskA} (h : DiskIs base w D A) (hbw : base ≤ w.heap.size) (name : ByteArray) (hn0 : 0 ≤ A.now) (hn1 : A.now ≤ 1000000000) (hl : A.chg.length ≤ 1000000000) :
    Calls Tryz.prog 43 #[.pointer (some ⟨D.pb, 0, none⟩), .string name] w fun e w' =>
      (aget A.files name = none ∧ e = .returned (.int .i64 61) ∧ Turned base w D A w' D A) ∨ (∃ f D', aget A.files name = some f ∧ e = .returned (.int .i64 0) ∧ Turned base w D A w' D' (stepA ⟨0, ⟨#[]⟩, name, none⟩ A)) := by
  go_enter Tryz.func43, Tryz.ntmps43
  go_wp2_with fail
  refine (find_any h name).mono ?_
  rintro e w1 ⟨rfl, rfl⟩
  have hs := step_any h hbw ⟨0, ⟨#[]⟩, name, none⟩ (fun f hf => by cases hf) hn0 hn1 hl
  have HS := Lib.hid hs
  have HH := Lib.hid h
  clear h hs
  unfold findV
  cases hg : aget A.files name with
  | none =>
    simp only [Option.isSome_none, ptrV, Option.map_none]
    go_wp2
    go_ret
    first | exact .inl ⟨hg, rfl, Turned.refl HH.out⟩ | exact ⟨rfl, Turned.refl HH.out⟩
  | some f =>
    simp only [Option.isSome_some, ptrV, Option.map_some, if_true]
    go_wp2_with fail
    refine HS.out.mono ?_
    rintro e w3 ⟨rfl, D', hT3⟩
    have HT3 := Lib.hid hT3
    clear hT3
    go_wp2
    go_ret
    exact .inr ⟨f, D', hg, rfl, HT3.out⟩
set_option maxRecDepth 20000 in
set_option maxHeartbeats 1000000 in
theorem rename_any {base : Nat} {w : World} {D : DSh} {A : DiskA} (h : DiskIs base w D A) (hbw : base ≤ w.heap.size) (old name : ByteArray) (hn0 : 0 ≤ A.now) (hn1 : A.now ≤ 1000000000) (hl : A.chg.length ≤ 1000000000) :
    Calls Tryz.prog 131 #[.pointer (some ⟨D.pb, 0, none⟩), .string old, .string name] w fun e w' =>
      (rightN name = false ∧ e = .returned (.int .i64 63) ∧ Turned base w D A w' D A) ∨ (rightN name = true ∧ aget A.files old = none ∧ e = .returned (.int .i64 61) ∧ Turned base w D A w' D A) ∨
      (∃ f D', rightN name = true ∧ aget A.files old = some f ∧ e = .returned (.int .i64 0) ∧ Turned base w D A w' D' (stepA ⟨0, name, old, some f⟩ A)) := by
  go_enter Tryz.func131, Tryz.ntmps131
  go_wp2_with fail
  refine (fright_any name _).mono ?_
  rintro e w1 ⟨rfl, b1⟩
  have hT1 := Turned.below h b1
  have h1 := hT1.is_
  have hb1 : base ≤ w1.heap.size := Nat.le_trans hbw b1.size
  cases hr : rightN name with
  | false =>
    have HT := Lib.hid hT1
    clear h h1 hT1 b1
    go_wp2
    go_ret
    exact .inl ⟨hr, rfl, HT.out⟩
  | true =>
    go_wp2_with fail
    refine (find_any h1 old).mono ?_
    rintro e w2 ⟨rfl, rfl⟩
    unfold findV
    cases hg : aget A.files old with
    | none =>
      simp only [Option.isSome_none, ptrV, Option.map_none]
      have HT := Lib.hid hT1
      clear h h1 hT1 b1
      go_wp2
      go_ret
      first | exact .inr (.inl ⟨hr, hg, rfl, HT.out⟩) | exact .inr ⟨hr, rfl, HT.out⟩ | exact ⟨rfl, HT.out⟩
    | some f =>
      simp only [Option.isSome_some, ptrV, Option.map_some, if_true]
      have hs := step_any h1 hb1 ⟨0, name, old, some f⟩ (fun g hf => by cases hf; exact ⟨(h1.ok.inf _ _ (aget_mem hg)).1, rightN_size hr⟩) hn0 hn1 hl
      have HS := Lib.hid hs
      have HT := Lib.hid hT1
      clear h h1 hT1 b1 hs
      go_wp2_with fail
      refine HS.out.mono ?_
      rintro e w3 ⟨rfl, D', hT3⟩
      have HT3 := Lib.hid (HT.out.trans hT3)
      clear hT3
      go_wp2
      go_ret
      first | exact .inr (.inr ⟨f, D', hr, hg, rfl, HT3.out⟩) | exact ⟨f, D', hr, hg, rfl, HT3.out⟩
theorem DiskIs.tick {base : Nat} {w : World} {D : DSh} {A : DiskA} (h : DiskIs base w D A) : DiskIs base (w.setCell ⟨D.pb, 4, none⟩ (.int .i64 (A.now + 1))) D { A with now := A.now + 1 } :=
  h.head (S := (· = D.pb)) (ext_set _ _ _ _) (fun b _ hb => .inl hb) (Joins.block_setCell (i := 4) h.blk (.int .i64 (A.now + 1))) (h.ochg.ext (ext_set _ _ _ _) (fun b hb e => tag_ne (tag_own h.ochg hb) h.tpb (by decide) e))
    (h.osyn.ext (ext_set _ _ _ _) (fun b hb e => tag_ne (tag_own h.osyn hb) h.tpb (by decide) e)) h.ok.inc
def synA (A : DiskA) : DiskA := { A with now := A.now + 1, syn := A.syn ++ [A.now + 1] }
set_option maxRecDepth 20000 in
set_option maxHeartbeats 4000000 in
theorem synNames_any {base : Nat} {w : World} {D : DSh} {A : DiskA} (h : DiskIs base w D A) (hbw : base ≤ w.heap.size) (hn0 : 0 ≤ A.now) (hn1 : A.now ≤ 1000000000) (hl : A.syn.length ≤ 1000000000) :
    Calls Tryz.prog 121 #[.pointer (some ⟨D.pb, 0, none⟩)] w fun e w' =>
      e = .returned (.int .i64 0) ∧ ∃ D', Turned base w D A w' D' (synA A) := by
  obtain ⟨i0, hi, hz0, hz1, hz2⟩ := info_parts info_int
  have HH0 := Lib.hid h
  have p0 := h.blk
  have h3 := h.tick
  obtain ⟨w3, hw3⟩ : ∃ w3, w.setCell ⟨D.pb, 4, none⟩ (.int .i64 (A.now + 1)) = w3 := ⟨_, rfl⟩
  have hs3 : w3.heap.size = w.heap.size := by rw [← hw3, World.size_setCell]
  have HX3 : Hid (Ext (Foot D A) w w3) := Lib.hid (by rw [← hw3]; exact (Ext.refl _ w).setCell (p := ⟨D.pb, 4, none⟩) (.inr (.inl rfl)) _)
  rw [hw3] at h3
  have b3 := h3.blk
  have k0 := Joins.cell_of_block p0 4
  have k1 := Joins.unfrozen_of_block p0 4
  have k2 := Joins.cell_of_block b3 4
  simp only [List.getElem?_toArray, List.getElem?_cons_succ, List.getElem?_cons_zero] at k0 k2
  have hbw3 : base ≤ w3.heap.size := by omega
  have HS3 := Lib.hid hs3
  have HH3 := Lib.hid h3
  clear h h3 p0 b3 hs3
  go_enter Tryz.func121, Tryz.ntmps121
  go_upto_region 4 with fail
  clear k0 k1 hw3
  obtain ⟨va, vcap, hvc⟩ : ∃ va vcap, D.vs = .slice va A.syn.length vcap := by
    rcases HH0.out.osyn.eq_slice with ⟨e, e2⟩ | ⟨g, c, e, _⟩
    · exact ⟨none, 0, by rw [e, e2]; rfl⟩
    · exact ⟨_, _, e⟩
  have b3 := HH3.out.blk
  have c2 := Joins.cell_of_block b3 3
  have f2 := Joins.unfrozen_of_block b3 3
  simp only [List.getElem?_toArray, List.getElem?_cons_succ, List.getElem?_cons_zero, hvc] at c2
  have hown3 := HH3.out.osyn
  rw [hvc] at hown3
  have hnb : ∀ j u, (intc (A.now + 1))[j]? = some u → (w3.alloc (.cells #[.int .i64 (A.now + 1)] 3)).cell? ⟨w3.heap.size, j, none⟩ = some u := by
    intro j u hj
    rw [World.cell?_alloc_at _ _ _ _ rfl, ← hj, intc]
    simp
  have HNB := Lib.hid hnb
  have hown4 := hown3.alloc (.cells #[.int .i64 (A.now + 1)] 3)
  have HOW := Lib.hid hown4
  have hlpb := HH3.out.lpb
  have hnr : ¬ (Value.slice va A.syn.length vcap).ownBlock = some D.pb := fun e => tag_ne (tag_own hown3 e) HH3.out.tpb (by decide) rfl
  have hall : ∀ w5 w6 : World, w5.heap = (w3.alloc (.cells #[.int .i64 (A.now + 1)] 3)).heap → Ext (fun b => (Value.slice va A.syn.length vcap).ownBlock = some b) w5 w6 → w6.heap[D.pb]? = some (.cells #[.map (some D.mf), .map (some D.mb), D.vc, .slice va A.syn.length vcap, .int .i64 (A.now + 1)] 118 (0, 0)) := fun w5 w6 h5 hx6 => by
    rw [hx6.block D.pb (by rw [h5]; simp; omega) hnr, h5, Below.heap_alloc _ _ _ hlpb, b3, hvc]
  have HALL := Lib.hid hall
  have HVC := Lib.hid hvc
  clear hnb hown3 hown4 hnr hall hvc b3
  go_region_law (refine step_append_struct2 (v := .slice va A.syn.length vcap) (l := A.syn) rfl (.tmp 16) (.tmp 21) 100 rfl i0 _ 8 Tryz.underlying100 hi hz0 hz1 hz2 rfl (by omega) intc_len intc_one rfl HOW.out (A.now + 1) w3.heap.size 1 rfl HNB.out (by unfold maxLen; omega) (by omega) (by simp; omega) ?_; intro v' w6 hown6 hx6 hnw6; obtain ⟨g6, cp6, rfl⟩ : ∃ g c, v' = .slice (some ⟨g, 0, none⟩) (A.syn.length + 1) c := (by rcases hown6.eq_slice with ⟨_, h⟩ | ⟨g, c, h, _⟩; (simp at h); exact ⟨g, c, by simpa using h⟩); have hb6 := HALL.out _ w6 (by rfl) hx6; have g1 := Joins.unfrozen_of_block hb6 3; have g2 := Joins.cell_of_block hb6 3)
  all_goals
    have hx7 : Ext (fun b => b = D.pb ∨ D.vs.ownBlock = some b) w3 (w6.setCell ⟨D.pb, 3, none⟩ (.slice (some ⟨g6, 0, none⟩) (A.syn.length + 1) cp6)) :=
      Ext.setCell ((((Ext.refl _ w3).alloc (.cells #[.int .i64 (A.now + 1)] 3))).andThen (T := fun b => (Value.slice va A.syn.length vcap).ownBlock = some b) ⟨hx6.os, hx6.tape, hx6.output, hx6.size, hx6.block⟩ (fun b _ hb => .inr (by rw [HVC.out]; exact hb))) (.inr (.inl rfl)) _
    have hblk : (w6.setCell ⟨D.pb, 3, none⟩ (.slice (some ⟨g6, 0, none⟩) (A.syn.length + 1) cp6)).heap[D.pb]? = some (.cells #[.map (some D.mf), .map (some D.mb), D.vc, .slice (some ⟨g6, 0, none⟩) (A.syn.length + 1) cp6, .int .i64 (A.now + 1)] 118 (0, 0)) := by
      rw [Joins.block_setCell hb6]; rfl
    have h7 := HH3.out.head hx7 (fun b _ hb => hb.elim .inl (fun e => .inr (.inr e))) hblk
      (HH3.out.ochg.ext hx7 (fun b hb hs => by
        rcases hs with rfl | e
        · exact tag_ne (tag_own HH3.out.ochg hb) HH3.out.tpb (by decide) rfl
        · exact tag_ne (tag_own HH3.out.ochg hb) (tag_own HH3.out.osyn e) (by decide) rfl))
      (hown6.ext (ext_set _ _ _ _) (fun b hb e => tag_ne (tag_own hown6 hb) (tag_cells hb6) (by decide) e))
      HH3.out.ok.inc
    have hg6 : ∀ b, (Value.slice (some ⟨g6, 0, none⟩) (A.syn.length + 1) cp6).ownBlock = some b → D.vs.ownBlock = some b ∨ w.heap.size ≤ b := fun b hb => by
      rcases hnw6 b hb with e | e
      · exact .inl (by rw [HVC.out]; exact e)
      · refine .inr (Nat.le_trans ?_ e)
        have := HS3.out
        simp
        omega
    have hT : Turned base w D A (w6.setCell ⟨D.pb, 3, none⟩ (.slice (some ⟨g6, 0, none⟩) (A.syn.length + 1) cp6)) { D with vc := D.vc, vs := .slice (some ⟨g6, 0, none⟩) (A.syn.length + 1) cp6 } (synA A) := {
      is_ := h7
      pb := rfl
      ext := HX3.out.andThen hx7 (fun b _ hb => hb.elim .inl (fun e => .inr (.inr (.inr (.inr (.inl e))))))
      foot := fun b hb => by
        rcases hb with e | e | e | e | e | ⟨g, hg, e⟩
        · exact .inl (.inl e)
        · exact .inl (.inr (.inl e))
        · exact .inl (.inr (.inr (.inl e)))
        · exact .inl (.inr (.inr (.inr (.inl e))))
        · exact (hg6 b e).elim (fun e => .inl (.inr (.inr (.inr (.inr (.inl e)))))) .inr
        · exact .inl (.inr (.inr (.inr (.inr (.inr ⟨g, hg, e⟩))))) }
    have HT := Lib.hid hT
    clear hx7 hblk h7 hg6 hT hown6 hx6 hnw6 hb6 g1 g2
    go_wp2
    go_ret
    exact ⟨rfl, _, HT.out⟩
end Go.Proofs.YtgmdimbiipemhaaGreatDoor
namespace Go.Proofs.YtgmdimbiipemhaaGreatDoor
open Go
section
variable {P : Program} {ops : Array Oper} {Q : Exit → Act → World → Prop} {md : Region.Mode} {S : World → Prop}
end
end Go.Proofs.YtgmdimbiipemhaaGreatDoor
namespace Go.Proofs.YtgmdimbiipemhaaGreatDoor
open Go.RowKit
section
variable {P : Program} {w : World} {α : Type} {ea : α → List Value} {k : Nat} {e : TypeId} {base : Nat} {v vx : Value} {l ys : List α}
theorem SliceIs.ext {S : Nat → Prop} {w' : World} (h : SliceIs ea k w v l) (hx : Ext S w w') (hn : ∀ b o n cap, v = .slice (some ⟨b, o, none⟩) n cap → ¬ S b) : SliceIs ea k w' v l := by
  obtain ⟨a, cap, rfl, h2, h3, h4⟩ := h
  refine ⟨a, cap, rfl, h2, h3, fun hl => ?_⟩
  obtain ⟨b, off, h5, h6⟩ := h4 hl
  exact ⟨b, off, h5, fun i x hi j u hj => hx.keep (h6 i x hi j u hj) (hn b off l.length cap (by rw [h5]))⟩
theorem Own.empty (ea : α → List Value) (k : Nat) (e : TypeId) {w : World} (hb : base ≤ w.heap.size) : Own ea k e base (w.alloc (.cells #[] e)) (.slice (some ⟨w.heap.size, 0, none⟩) 0 0) ([] : List α) :=
  ⟨by simp, .inr ⟨w.heap.size, 0, #[], rfl, hb, heap_alloc_new w _, Nat.le_refl _, Nat.zero_le _, by simp, by simp⟩⟩
theorem SliceIs.one (x : α) (e : TypeId) {w : World} : SliceIs ea k (w.alloc (.cells (ea x).toArray e)) (.slice (some ⟨w.heap.size, 0, none⟩) 1 1) [x] := by
  refine ⟨_, 1, rfl, Nat.le_refl _, by unfold maxLen; omega, fun _ => ⟨w.heap.size, 0, rfl, fun i y hi j u hj => ?_⟩⟩
  have hi0 : i = 0 := by
    have := (List.getElem?_eq_some_iff.1 hi).1
    simpa using this
  subst hi0
  simp only [List.getElem?_cons_zero, Option.some.injEq] at hi
  subst hi
  have := heap_alloc_new w (.cells (ea x).toArray e)
  simp only [World.cell?, this, Nat.zero_mul, Nat.zero_add]
  simpa using hj
end
section
variable {P : Program} {ops : Array Oper} {Q : Exit → Act → World → Prop} {md : Region.Mode} {S : World → Prop}
end
end Go.Proofs.YtgmdimbiipemhaaGreatDoor
namespace Go.Proofs.YtgmdimbiipemhaaGreatDoor
open Go.RowKit Go.Deep
theorem wpList_append_run {P : Program} {ops : Array Oper} {rest : List Oper} {o : Oper} {a : Act} {w : World} {Q : Exit → Act → World → Prop} (hgd : o.guard = none) (s x : Operand) (t : TypeId)
    (ho : o.op = .call { callee := .builtin .append, args := #[s, x], argTypes := #[t, t] }) {v vx v' : Value} {w' : World} (hs : a.eval s = v) (hx : a.eval x = vx)
    (hr : (Builtin.append_ #[t, t] o.type #[v, vx]).run P w = .ok v' w') (h : wpList P ops Q rest (a.put o.dst v') w') : wpList P ops Q (o :: rest) a w :=
  wpList_plain hgd fun _ hK => by
    have hv : (execOp a.eval o).run P w = .ok (.value v') w' := by
      unfold execOp
      simp only [ho, resolve, invoke, builtin, Sem.run_bind, Sem.run_pure, Result.andThen_ok, List.map_toArray, List.map_cons, List.map_nil, hs, hx, hr]
    rw [Oper.wp, hv]
    exact hK _ _ h
set_option maxRecDepth 20000 in
set_option maxHeartbeats 1000000 in
theorem bclone06_any {bs : List UInt8} {vx : Value} {w : World} (h : SliceIs u8c 1 w vx bs) (hl : bs.length ≤ 70368744177664) :
    Calls Tryz.prog 71 #[vx] w fun e w' => ∃ v', e = .returned v' ∧ Own u8c 1 5 w.heap.size w' v' bs ∧ Below w.heap.size w w' := by
  obtain ⟨i0, hi, hz0, hz1, hz2⟩ := info_parts info_u8
  have h0 := h
  obtain ⟨a, cap, rfl, hcap, hmax, hcs⟩ := h
  cases a with
  | none =>
    have hys : bs = [] := Classical.byContradiction fun hn => by obtain ⟨b, o, e, _⟩ := hcs hn; cases e
    subst hys
    clear h0 hcs
    have hnil := fun (w : World) a n c => Lib.run_eql_slice_nil (P := Tryz.prog) w 22 _ a n c 0 0 Tryz.underlying22
    go_enter Tryz.func71, Tryz.ntmps71
    go_wp2
    go_ret
    exact ⟨_, rfl, Own.nil, Below.refl _ _⟩
  | some ad =>
    have ho := Own.empty (base := w.heap.size) u8c 1 5 (w := w) (Nat.le_refl _)
    have hx := h0.below ((Below.refl w.heap.size w).alloc (Nat.le_refl _) (.cells #[] 5))
    obtain ⟨v', w', hr, hown, hx'⟩ := append_structs (P := Tryz.prog) 22 22 i0 _ 1 Tryz.underlying22 hi hz0 hz1 hz2 rfl (by omega) u8c_len u8c_one ho hx (by simp [maxLen]; omega) (by simp; omega) (by simp)
    have hB := Ext.new ((Below.refl w.heap.size w).alloc (Nat.le_refl _) (.cells #[] 5)) hx' (fun i hi _ e => by have := (ho.blk i e).1; omega) (by simp)
    have HR := Lib.hid hr
    have HO := Lib.hid hown
    have HB := Lib.hid hB
    clear h0 hcs ho hx hr hown hx' hB
    have hnil := fun (w : World) a n c => Lib.run_eql_slice_nil (P := Tryz.prog) w 22 _ a n c 0 0 Tryz.underlying22
    go_enter Tryz.func71, Tryz.ntmps71
    go_wp2_with (at_builtin; refine wpList_append_run rfl _ _ _ rfl rfl rfl HR.out ?_)
    go_ret
    exact ⟨_, rfl, HO.out, HB.out⟩
theorem info_piece : (Tryz.prog.info? 131).map (fun i => (i.zero, i.size, i.bytes)) = some (some (.agg #[.slice none 0 0, .int .i64 0, .int .i64 0]), 3, 40) := by kernel_rfl
def appA (f : Nat) (bs : List UInt8) (A : DiskA) : DiskA := { A with now := A.now + 1, fs := fun g => if g = f then A.fs f ++ [⟨bs, A.now + 1, 0⟩] else A.fs g }
theorem sizeP_snoc (ps : List PcA) (p : PcA) : sizeP (ps ++ [p]) = sizeP ps + p.bs.length := by simp [sizeP]
theorem piece_alloc (W : World) (sa : Option Addr) (sn sc : Nat) (n : Int) : ∀ j u, (Pc.cells ⟨⟨sa, sn, sc⟩, n, 0⟩)[j]? = some u → (W.alloc (.cells #[.slice sa sn sc, .int .i64 n, .int .i64 0] 131)).cell? ⟨W.heap.size, j, none⟩ = some u := by
  intro j u hj
  rw [World.cell?_alloc_at _ _ _ _ rfl, ← hj, Pc.cells]
  simp
theorem bytes_set {w : World} {v u : Value} {bs : List UInt8} {p : Addr} {n : Int} (h : SliceIs u8c 1 w v bs) (hp : w.cell? p = some (.int .i64 n)) : SliceIs u8c 1 (w.setCell p u) v bs := by
  obtain ⟨a, cap, h1, h2, h3, h4⟩ := h
  refine ⟨a, cap, h1, h2, h3, fun hl => ?_⟩
  obtain ⟨b, off, h5, h6⟩ := h4 hl
  refine ⟨b, off, h5, fun i x hi j z hj => ?_⟩
  have h7 := h6 i x hi j z hj
  rw [World.cell?_setCell_other]
  · exact h7
  · rintro rfl
    rw [hp] at h7
    cases h7
    have hj0 : j = 0 := by
      have := (List.getElem?_eq_some_iff.1 hj).1
      simp [u8c] at this
      exact this
    subst hj0
    simp [u8c] at hj
theorem append_fin {base : Nat} {w w3 w5 w6 : World} {D : DSh} {A : DiskA} {f : Nat} {bs : List UInt8} {va : Option Addr} {vcap : Nat} {qs : List Pc} {s5 : Sl} {v6 : Value} {o : Obj} (h : DiskIs base w D A) (hx3 : Ext (Foot D A) w w3) (hs3 : w3.heap.size = w.heap.size) (hbw : base ≤ w3.heap.size)
    (h3 : DiskIs base w3 D { A with now := A.now + 1 }) (hf : f ∈ A.ids) (hvc : D.rv f = .slice va qs.length vcap) (hql : qs.length = (A.fs f).length) (hqp : ∀ (i : Nat) q p, qs[i]? = some q → (A.fs f)[i]? = some p → PcIs base w3 q p)
    (b5 : Below w3.heap.size w3 w5) (own5 : Own u8c 1 5 w3.heap.size w5 s5.val bs) (hown6 : Own Pc.cells 3 131 base w6 v6 (qs ++ [⟨s5, A.now + 1, 0⟩])) (hx6 : Ext (fun b => (Value.slice va qs.length vcap).ownBlock = some b) (w5.alloc o) w6)
    (hnw6 : ∀ b, v6.ownBlock = some b → (Value.slice va qs.length vcap).ownBlock = some b ∨ (w5.alloc o).heap.size ≤ b) (hb6 : w6.heap[f]? = some (.cells #[.slice va qs.length vcap, .int .i64 (sizeP (A.fs f))] 124 (0, 0))) (hroom : sizeP (A.fs f) + bs.length ≤ 1048576) :
    Turned base w D A ((w6.setCell ⟨f, 0, none⟩ v6).setCell ⟨f, 1, none⟩ (.int .i64 ((sizeP (A.fs f) : Int) + bs.length))) { D with rv := fun g => if g = f then v6 else D.rv g } (appA f bs A) := by
  have hx9 : Ext (fun b => b = f ∨ (D.rv f).ownBlock = some b) w3 ((w6.setCell ⟨f, 0, none⟩ v6).setCell ⟨f, 1, none⟩ (.int .i64 ((sizeP (A.fs f) : Int) + bs.length))) := by
    refine Ext.setCell (Ext.setCell ?_ (.inr (.inl rfl)) _) (.inr (.inl rfl)) _
    exact ((Ext.of_below b5).alloc o).andThen hx6 (fun b _ hb => .inr (by rw [hvc]; exact hb))
  have hb9 : ((w6.setCell ⟨f, 0, none⟩ v6).setCell ⟨f, 1, none⟩ (.int .i64 ((sizeP (A.fs f) : Int) + bs.length))).heap[f]? = some (.cells #[v6, .int .i64 ((sizeP (A.fs f) : Int) + bs.length)] 124 (0, 0)) := by
    rw [Joins.block_setCell (Joins.block_setCell hb6 _)]
    rfl
  have hx69 : Ext (· = f) w6 ((w6.setCell ⟨f, 0, none⟩ v6).setCell ⟨f, 1, none⟩ (.int .i64 ((sizeP (A.fs f) : Int) + bs.length))) := (ext_set _ _ _ _).andThen (ext_set _ _ _ _) (fun _ _ => id)
  have hx59 : Ext (fun b => b = f ∨ (D.rv f).ownBlock = some b) w5 ((w6.setCell ⟨f, 0, none⟩ v6).setCell ⟨f, 1, none⟩ (.int .i64 ((sizeP (A.fs f) : Int) + bs.length))) :=
    (((Ext.refl _ w5).alloc o).andThen hx6 (fun b _ hb => .inr (by rw [hvc]; exact hb))).andThen hx69 (fun b _ hb => .inl hb)
  have tf := (h3.file f hf).tag
  have trow : ∀ b, (D.rv f).ownBlock = some b → tagOf w3 b = some 131 := fun b hb => ((h3.file f hf).row hb).1
  have hv : ∀ b, v6.ownBlock = some b → (D.rv f).ownBlock = some b ∨ w3.heap.size ≤ b := fun b hb => by
    rcases hnw6 b hb with e | e
    · exact .inl (by rw [hvc]; exact e)
    · refine .inr (Nat.le_trans b5.size (Nat.le_trans ?_ e))
      simp
  have hsz : sizeP (A.fs f ++ [⟨bs, A.now + 1, 0⟩]) ≤ 1048576 := by rw [sizeP_snoc]; exact hroom
  have hfile : FileIs base ((w6.setCell ⟨f, 0, none⟩ v6).setCell ⟨f, 1, none⟩ (.int .i64 ((sizeP (A.fs f) : Int) + bs.length))) f v6 (A.fs f ++ [⟨bs, A.now + 1, 0⟩]) := by
    refine ⟨(h3.file f hf).1, ?_, _, hown6.ext hx69 (fun b hb e => tag_ne (tag_own hown6 hb) (tag_cells hb6) (by decide) e), by simp [hql], fun i q p hq hp => ?_⟩
    · rw [hb9, sizeP_snoc]
      simp
    · by_cases hi : i < qs.length
      · rw [List.getElem?_append_left hi] at hq
        rw [List.getElem?_append_left (by omega)] at hp
        refine (hqp i q p hq hp).ext hx9 (fun b hb ht e => ?_)
        rcases e with rfl | e
        · exact tag_ne ht tf (by decide) rfl
        · exact tag_ne ht (trow b e) (by decide) rfl
      · have hi2 : i = qs.length := by
          have := (List.getElem?_eq_some_iff.1 hq).1
          simp at this
          omega
        subst hi2
        simp at hq
        rw [hql] at hp
        simp at hp
        subst hq hp
        refine ⟨(own5.ext hx59 (fun b hb e => ?_)).mono hbw, rfl, rfl⟩
        have hlb := (own5.blk b hb).1
        rcases e with rfl | e
        · have := (h3.file b hf).lt; omega
        · have := tag_lt (trow b e); omega
  have hT := h3.turn hx9 hf (fun b _ hb => hb) hfile hv hsz
  exact {
    is_ := hT
    pb := rfl
    ext := hx3.andThen hx9 (fun b _ hb => .inr (.inr (.inr (.inr (.inr ⟨f, hf, hb⟩)))))
    foot := fun b hb => by
      rcases hb with e | e | e | e | e | ⟨g, hg, e⟩
      · exact .inl (.inl e)
      · exact .inl (.inr (.inl e))
      · exact .inl (.inr (.inr (.inl e)))
      · exact .inl (.inr (.inr (.inr (.inl e))))
      · exact .inl (.inr (.inr (.inr (.inr (.inl e)))))
      · by_cases hgf : g = f
        · subst hgf
          dsimp only at e
          rw [if_pos rfl] at e
          rcases e with e | e
          · exact .inl (.inr (.inr (.inr (.inr (.inr ⟨g, hg, .inl e⟩)))))
          · rcases hv b e with e | e
            · exact .inl (.inr (.inr (.inr (.inr (.inr ⟨g, hg, .inr e⟩)))))
            · exact .inr (by omega)
        · dsimp only at e
          rw [if_neg hgf] at e
          exact .inl (.inr (.inr (.inr (.inr (.inr ⟨g, hg, e⟩))))) }
def AppPost (base : Nat) (w : World) (D : DSh) (A : DiskA) (name : ByteArray) (bs : List UInt8) (e : Ending) (w' : World) : Prop :=
  (aget A.files name = none ∧ e = .returned (.int .i64 61) ∧ Turned base w D A w' D A) ∨ (∃ f, aget A.files name = some f ∧ 1048576 < sizeP (A.fs f) + bs.length ∧ e = .returned (.int .i64 62) ∧ Turned base w D A w' D A) ∨
      (∃ f D', aget A.files name = some f ∧ sizeP (A.fs f) + bs.length ≤ 1048576 ∧ e = .returned (.int .i64 0) ∧ Turned base w D A w' D' (appA f bs A))
set_option maxRecDepth 20000 in
set_option maxHeartbeats 4000000 in
theorem append_any {base : Nat} {w : World} {D : DSh} {A : DiskA} (h : DiskIs base w D A) (hbw : base ≤ w.heap.size) (name : ByteArray) (vx : Value) (bs : List UInt8) (hvx : SliceIs u8c 1 w vx bs) (hlb : bs.length ≤ 70368744177664) {N : Nat} (hsm : A.Small N) (hN : N ≤ 1000000000) :
    Calls Tryz.prog 30 #[.pointer (some ⟨D.pb, 0, none⟩), .string name, vx] w fun e w' =>
      AppPost base w D A name bs e w' := by
  obtain ⟨i0, hi, hz0, hz1, hz2⟩ := info_parts info_piece
  obtain ⟨xa, xc, rfl, hxc, hxm, _⟩ := id hvx
  unfold maxLen at hxm
  have HVX := Lib.hid hvx
  clear hvx
  go_enter Tryz.func30, Tryz.ntmps30
  go_wp2_with fail
  refine (find_any h name).mono ?_
  rintro e w1 ⟨rfl, rfl⟩
  unfold findV
  cases hg : aget A.files name with
  | none =>
    simp only [Option.isSome_none, ptrV, Option.map_none]
    have HH := Lib.hid h
    clear h
    go_wp2
    go_ret
    exact .inl ⟨hg, rfl, Turned.refl HH.out⟩
  | some f =>
    simp only [Option.isSome_some, ptrV, Option.map_some, if_true]
    have hf := (h.ok.inf _ _ (aget_mem hg)).1
    have hsz := h.ok.sz f hf
    have hF := h.file f hf
    have fb := hF.2.1
    have s1 := Joins.cell_of_block fb 1
    simp only [List.getElem?_toArray, List.getElem?_cons_succ, List.getElem?_cons_zero] at s1
    have HG := Lib.hid hg
    have HH := Lib.hid h
    have HF := Lib.hid hf
    have HFB := Lib.hid fb
    by_cases hroom : 1048576 < sizeP (A.fs f) + bs.length
    · have h9 : (1048576 : Int) - (sizeP (A.fs f) : Int) < (bs.length : Int) := by omega
      have HR := Lib.hid hroom
      clear h hf fb hF hg hroom
      go_wp2
      go_ret
      exact .inr (.inl ⟨f, HG.out, HR.out, rfl, Turned.refl HH.out⟩)
    · have h9 : ¬ (1048576 : Int) - (sizeP (A.fs f) : Int) < (bs.length : Int) := by omega
      have hroom' : sizeP (A.fs f) + bs.length ≤ 1048576 := by omega
      have HR := Lib.hid hroom'
      have hn1 := hsm.now
      have hn0 := hsm.now0
      have k0 := Joins.cell_of_block h.blk 4
      have k1 := Joins.unfrozen_of_block h.blk 4
      simp only [List.getElem?_toArray, List.getElem?_cons_succ, List.getElem?_cons_zero] at k0
      have hfp : f ≠ D.pb := tag_ne hF.tag h.tpb (by decide)
      clear h hf fb hF hg hroom hroom'
      go_upto_region 7 with fail
      have h3 := HH.out.tick
      have hx3 : Ext (Foot D A) w1 (w1.setCell ⟨D.pb, 4, none⟩ (.int .i64 (A.now + 1))) := (Ext.refl _ w1).setCell (p := ⟨D.pb, 4, none⟩) (.inr (.inl rfl)) _
      have hvx3 : SliceIs u8c 1 (w1.setCell ⟨D.pb, 4, none⟩ (.int .i64 (A.now + 1))) (.slice xa bs.length xc) bs := bytes_set HVX.out k0
      obtain ⟨w3, hw3⟩ : ∃ w3, w1.setCell ⟨D.pb, 4, none⟩ (.int .i64 (A.now + 1)) = w3 := ⟨_, rfl⟩
      have hs3 : w3.heap.size = w1.heap.size := by rw [← hw3, World.size_setCell]
      rw [hw3] at h3 hx3 hvx3 ⊢
      have HX3 := Lib.hid hx3
      have HS3 := Lib.hid hs3
      have HVX3 := Lib.hid (hvx3.below (Below.refl _ _).drew)
      have hbw3 : base ≤ w3.heap.size := by omega
      clear hw3 hx3 hs3 hvx3 k0 k1 s1
      have hF3 := h3.file f HF.out
      obtain ⟨hbf, hfb3, qs, hqo, hql, hqp⟩ := id hF3
      obtain ⟨va, vcap, hvc⟩ : ∃ va vcap, D.rv f = .slice va qs.length vcap := by
        rcases hqo.eq_slice with ⟨e, e2⟩ | ⟨g, c, e, _⟩
        · exact ⟨none, 0, by rw [e, e2]; rfl⟩
        · exact ⟨_, _, e⟩
      have hlq : qs.length ≤ 1000000001 := by have := hsm.pcs f HF.out; dsimp only at hql; omega
      have b3 := h3.blk
      have c4 := Joins.cell_of_block b3 4
      have f0 := Joins.cell_of_block hfb3 0
      simp only [List.getElem?_toArray, List.getElem?_cons_succ, List.getElem?_cons_zero, hvc] at c4 f0
      have hown3 := hqo
      rw [hvc] at hown3
      have hfl : f < w3.heap.size := hF3.lt
      have HFB3 := Lib.hid hfb3
      have HVC := Lib.hid hvc
      have HOW := Lib.hid hown3
      have HQP := Lib.hid hqp
      have HQL := Lib.hid hql
      have H3 := Lib.hid h3
      clear h3 hF3 hfb3 hqo hql hqp hvc b3 hown3 hsm
      have HCL := Lib.hid (fun W (h : SliceIs u8c 1 W (.slice xa bs.length xc) bs) => bclone06_any h hlb)
      have hnr : ¬ (Value.slice va qs.length vcap).ownBlock = some f := fun e => tag_ne (tag_own HOW.out e) (H3.out.file f HF.out).tag (by decide) rfl
      have HNR := Lib.hid hnr
      clear hnr
      go_region_law (first
        | (refine step_call (f := 71) (args := #[.slice xa bs.length xc]) rfl (by first | (go_simp; done) | (go_simp; first | rfl | exact ⟨rfl, rfl⟩ | exact ⟨⟨rfl, rfl⟩, rfl⟩)) ?_; (with_reducible refine (HCL.out _ HVX3.out).mono ?_); rintro e w5 ⟨v5, rfl, own5, b5⟩; refine ⟨_, rfl, ?_⟩; simp only [heap_drew, below_drew] at b5 own5; obtain ⟨⟨sa, sn, sc⟩, e5⟩ := own5.slv; change v5 = .slice sa sn sc at e5; subst e5; have c45 := keepB b5 c4; have f05 := keepB b5 f0; have f06 := cell_alloc f05 (.cells #[.slice sa sn sc, .int .i64 (A.now + 1), .int .i64 0] 131); have HB5 := Lib.hid b5; have HO5 := Lib.hid own5;
           have how5 := (HOW.out.ext (Ext.of_below (S := fun _ => False) b5) (fun _ _ => id)).alloc (.cells #[.slice sa sn sc, .int .i64 (A.now + 1), .int .i64 0] 131); have HOW5 := Lib.hid how5; have hs5 := b5.size;
           have hall5 : ∀ w6, Ext (fun b => (Value.slice va qs.length vcap).ownBlock = some b) (w5.alloc (.cells #[.slice sa sn sc, .int .i64 (A.now + 1), .int .i64 0] 131)) w6 → w6.heap[f]? = some (.cells #[.slice va qs.length vcap, .int .i64 (sizeP (A.fs f))] 124 (0, 0)) := (fun w6 hx6 => by
             rw [hx6.block f (by simp; omega) HNR.out, Below.heap_alloc _ _ _ (by omega), b5.block f hfl, HFB3.out, HVC.out]); have HALL5 := Lib.hid hall5;
           clear b5 own5 how5 hall5)
        | (refine step_append_struct2 (v := .slice va qs.length vcap) (l := qs) rfl (.tmp 37) (.tmp 45) 122 rfl i0 _ 40 Tryz.underlying122 hi hz0 hz1 hz2 rfl (by omega) Pc.len Pc.one rfl HOW5.out ⟨⟨sa, sn, sc⟩, A.now + 1, 0⟩ w5.heap.size 1 rfl (piece_alloc _ _ _ _ _) (by unfold maxLen; omega) (by omega) (by simp; omega) ?_; intro v' w6 hown6 hx6 hnw6; obtain ⟨g6, cp6, rfl⟩ : ∃ g c, v' = .slice (some ⟨g, 0, none⟩) (qs.length + 1) c := (by rcases hown6.eq_slice with ⟨_, h⟩ | ⟨g, c, h, _⟩; (simp at h); exact ⟨g, c, by simpa using h⟩); have hb6 := HALL5.out w6 hx6; have g1 := Joins.unfrozen_of_block hb6 0; have g2 := Joins.cell_of_block hb6 0))
      all_goals
        have HX6 := Lib.hid hx6
        have HN6 := Lib.hid hnw6
        have HO6 := Lib.hid hown6
        have HB6 := Lib.hid hb6
        have c1 := Joins.cell_of_block hb6 1
        have c2 := Joins.unfrozen_of_block hb6 1
        clear hx6 hnw6 hown6 hb6 g1 g2
        go_wp2
        go_ret
        exact .inr (.inr ⟨f, _, HG.out, HR.out, rfl, append_fin (s5 := ⟨sa, sn, sc⟩) HH.out HX3.out HS3.out hbw3 H3.out HF.out HVC.out HQL.out HQP.out HB5.out HO5.out HO6.out HX6.out HN6.out HB6.out HR.out⟩)
section
variable {α : Type} {ea : α → List Value} {k : Nat} {e : TypeId} {base : Nat} {w : World}
end
def synP (n : Int) (p : PcA) : PcA := if p.safe = 0 then { p with safe := n } else p
def synQ (n : Int) (q : Pc) : Pc := if q.safe = 0 then { q with safe := n } else q
def synK (n : Int) (k : Nat) (qs : List Pc) : List Pc := (qs.take k).map (synQ n) ++ qs.drop k
theorem synK_len (n : Int) (k : Nat) (qs : List Pc) : (synK n k qs).length = qs.length := by
  unfold synK
  simp
  omega
theorem synK_zero (n : Int) (qs : List Pc) : synK n 0 qs = qs := by simp [synK]
theorem synK_all (n : Int) (qs : List Pc) : synK n qs.length qs = qs.map (synQ n) := by simp [synK]
theorem synK_at {n : Int} {k : Nat} {qs : List Pc} {q : Pc} (h : qs[k]? = some q) : (synK n k qs)[k]? = some q := by
  have hk := (List.getElem?_eq_some_iff.1 h).1
  unfold synK
  rw [List.getElem?_append_right (by simp; omega)]
  simp only [List.length_map, List.length_take, List.getElem?_drop]
  rw [show k + (k - min k qs.length) = k by omega]
  exact h
theorem synK_succ {n : Int} {k : Nat} {qs : List Pc} {q : Pc} (h : qs[k]? = some q) : synK n (k + 1) qs = (synK n k qs).set k (synQ n q) := by
  have hk := (List.getElem?_eq_some_iff.1 h).1
  have hq := (List.getElem?_eq_some_iff.1 h).2
  unfold synK
  rw [List.set_append_right _ _ (by simp; omega), List.take_add_one, h, Option.toList_some, List.map_append, List.append_assoc]
  congr 1
  rw [List.drop_eq_getElem_cons hk]
  simp only [List.length_map, List.length_take]
  rw [show k - min k qs.length = 0 by omega]
  rfl
def syncA (f : Nat) (A : DiskA) : DiskA := { A with now := A.now + 1, fs := fun g => if g = f then (A.fs f).map (synP (A.now + 1)) else A.fs g }
theorem sync_fin {base : Nat} {w w3 w9 : World} {D : DSh} {A : DiskA} {f : Nat} {qs : List Pc} (hx3 : Ext (Foot D A) w w3)
    (h3 : DiskIs base w3 D { A with now := A.now + 1 }) (hf : f ∈ A.ids) (hql : qs.length = (A.fs f).length) (hqp : ∀ (i : Nat) q p, qs[i]? = some q → (A.fs f)[i]? = some p → PcIs base w3 q p)
    (hx9 : Ext (fun b => (D.rv f).ownBlock = some b) w3 w9) (hown : Own Pc.cells 3 131 base w9 (D.rv f) (qs.map (synQ (A.now + 1)))) : Turned base w D A w9 D (syncA f A) := by
  have hsz : sizeP ((A.fs f).map (synP (A.now + 1))) = sizeP (A.fs f) := by
    unfold sizeP
    rw [List.map_map]
    congr 2
    funext p
    simp only [Function.comp_apply, synP]
    split <;> rfl
  have hrow := fun b (hb : (D.rv f).ownBlock = some b) => ((h3.file f hf).row hb).1
  have hfile : FileIs base w9 f (D.rv f) ((A.fs f).map (synP (A.now + 1))) := by
    refine ⟨(h3.file f hf).1, ?_, _, hown, by simp [hql], fun i q p hq hp => ?_⟩
    · rw [hsz, hx9.block f (h3.file f hf).lt (fun e => tag_ne (h3.file f hf).tag (hrow f e) (by decide) rfl)]
      exact (h3.file f hf).2.1
    · rw [List.getElem?_map] at hq hp
      cases hq0 : qs[i]? with
      | none => rw [hq0] at hq; cases hq
      | some q0 =>
        cases hp0 : (A.fs f)[i]? with
        | none => rw [hp0] at hp; cases hp
        | some p0 =>
          rw [hq0] at hq
          rw [hp0] at hp
          cases hq
          cases hp
          obtain ⟨b1, b2, b3⟩ := (hqp i q0 p0 hq0 hp0).ext hx9 (fun b hb ht e => tag_ne ht (hrow b e) (by decide) rfl)
          unfold synQ synP
          rw [b3]
          split
          · exact ⟨b1, b2, rfl⟩
          · exact ⟨b1, b2, b3⟩
  have hT := h3.turn hx9 hf (fun b _ hb => .inr hb) hfile (fun b hb => .inl hb) (by rw [hsz]; exact h3.ok.sz f hf)
  have hD : ({ D with rv := fun g => if g = f then D.rv f else D.rv g } : DSh) = D := by
    cases D
    congr 1
    funext g
    dsimp only
    split
    · rename_i e; rw [e]
    · rfl
  rw [hD] at hT
  exact ⟨hT, rfl, hx3.andThen hx9 (fun b _ hb => .inr (.inr (.inr (.inr (.inr ⟨f, hf, .inr hb⟩))))), fun b hb => .inl hb⟩
def SyncPost (base : Nat) (w : World) (D : DSh) (A : DiskA) (name : ByteArray) (e : Ending) (w' : World) : Prop :=
  (aget A.files name = none ∧ e = .returned (.int .i64 61) ∧ Turned base w D A w' D A) ∨ (∃ f, aget A.files name = some f ∧ e = .returned (.int .i64 0) ∧ Turned base w D A w' D (syncA f A))
set_option maxRecDepth 20000 in
set_option maxHeartbeats 4000000 in
theorem sync_any {base : Nat} {w : World} {D : DSh} {A : DiskA} (h : DiskIs base w D A) (name : ByteArray) {N : Nat} (hsm : A.Small N) (hN : N ≤ 1000000000) :
    Calls Tryz.prog 83 #[.pointer (some ⟨D.pb, 0, none⟩), .string name] w fun e w' => SyncPost base w D A name e w' := by
  go_enter Tryz.func83, Tryz.ntmps83
  go_wp2_with fail
  refine (find_any h name).mono ?_
  rintro e w1 ⟨rfl, rfl⟩
  unfold findV
  cases hg : aget A.files name with
  | none =>
    simp only [Option.isSome_none, ptrV, Option.map_none]
    have HH := Lib.hid h
    clear h
    go_wp2
    go_ret
    exact .inl ⟨hg, rfl, Turned.refl HH.out⟩
  | some f =>
    simp only [Option.isSome_some, ptrV, Option.map_some, if_true]
    have hf := (h.ok.inf _ _ (aget_mem hg)).1
    have HG := Lib.hid hg
    have HF := Lib.hid hf
    have hn1 := hsm.now
    have hn0 := hsm.now0
    have k0 := Joins.cell_of_block h.blk 4
    have k1 := Joins.unfrozen_of_block h.blk 4
    simp only [List.getElem?_toArray, List.getElem?_cons_succ, List.getElem?_cons_zero] at k0
    have h3 := h.tick
    have hx3 : Ext (Foot D A) w1 (w1.setCell ⟨D.pb, 4, none⟩ (.int .i64 (A.now + 1))) := (Ext.refl _ w1).setCell (p := ⟨D.pb, 4, none⟩) (.inr (.inl rfl)) _
    obtain ⟨w3, hw3⟩ : ∃ w3, w1.setCell ⟨D.pb, 4, none⟩ (.int .i64 (A.now + 1)) = w3 := ⟨_, rfl⟩
    rw [hw3] at h3 hx3
    have hF3 := h3.file f HF.out
    obtain ⟨hbf, hfb3, qs, hqo, hql, hqp⟩ := id hF3
    obtain ⟨va, vcap, hvc⟩ : ∃ va vcap, D.rv f = .slice va qs.length vcap := by
      rcases hqo.eq_slice with ⟨e, e2⟩ | ⟨g, c, e, _⟩
      · exact ⟨none, 0, by rw [e, e2]; rfl⟩
      · exact ⟨_, _, e⟩
    have hlq : qs.length ≤ 1000000001 := by have := hsm.pcs f HF.out; dsimp only at hql; omega
    have b3 := h3.blk
    have c4 := Joins.cell_of_block b3 4
    have f0 := Joins.cell_of_block hfb3 0
    simp only [List.getElem?_toArray, List.getElem?_cons_succ, List.getElem?_cons_zero, hvc] at c4 f0
    have HX3 := Lib.hid hx3
    have HVC := Lib.hid hvc
    have HQO := Lib.hid hqo
    have HQP := Lib.hid hqp
    have HQL := Lib.hid hql
    have H3 := Lib.hid h3
    clear h h3 hF3 hfb3 hqo hql hqp hvc b3 hsm hx3 hf hg
    go_wp2_with fail
    go_loopg [30] qs.length (fun g iv wr => ∃ k : Nat, g = qs.length - k ∧ k ≤ qs.length ∧ iv = .int .i64 k ∧ Hid (Own Pc.cells 3 131 base wr (D.rv f) (synK (A.now + 1) k qs) ∧ Ext (fun b => (D.rv f).ownBlock = some b) w3 wr))
    case atStart => exact ⟨0, by omega, by omega, rfl, Lib.hid ⟨by rw [synK_zero]; exact HQO.out, Ext.refl _ _⟩⟩
    case round =>
      obtain ⟨k, hg, hk, rfl, hU⟩ := hrel
      have HGG := Lib.hid hg
      clear hg
      by_cases hkl : k < qs.length
      · obtain ⟨q, hq⟩ : ∃ q, qs[k]? = some q := ⟨_, List.getElem?_eq_getElem hkl⟩
        have hlen := synK_len (A.now + 1) k qs
        obtain ⟨g, cap, e1, hgc, hcm⟩ : ∃ g cap, va = some ⟨g, 0, none⟩ ∧ qs.length ≤ vcap ∧ vcap ≤ maxLen := by
          have ho := HQO.out
          rw [HVC.out] at ho
          rcases ho.eq_slice with ⟨_, e2⟩ | ⟨g, c, e, _⟩
          · rw [e2] at hkl; simp at hkl
          · cases e
            obtain ⟨_, _, e3, e4, e5, _⟩ := ho.slice Pc.len
            cases e3
            exact ⟨g, 0, rfl, e4, e5⟩
        subst e1
        unfold maxLen at hcm
        have ho := hU.out.1
        rw [HVC.out, ← hlen] at ho
        have hrw : ∀ b, (D.rv f).ownBlock = some b → b = g := fun b hb => by rw [HVC.out] at hb; exact (Option.some.inj hb).symm
        have hgp : g ≠ D.pb := tag_ne (tag_own HQO.out (by rw [HVC.out]; rfl)) H3.out.tpb (by decide)
        have hgf : g ≠ f := tag_ne (tag_own HQO.out (by rw [HVC.out]; rfl)) (H3.out.file f HF.out).tag (by decide)
        have c4' := hU.out.2.keep c4 (fun e => hgp (hrw _ e).symm)
        have f0' := hU.out.2.keep f0 (fun e => hgf (hrw _ e).symm)
        have q2 := ho.cellAt Pc.len (synK_at hq) (j := 2) rfl
        have q3 := ho.free (k * 3 + 2)
        have hkk : (k : Int) < (qs.length : Int) := by omega
        by_cases hs : q.safe = 0
        · have hy : Pc.cells (synQ (A.now + 1) q) = (Pc.cells q).set 2 (.int .i64 (A.now + 1)) := by unfold synQ; rw [if_pos hs]; rfl
          have ho2 := ho.setAt Pc.len (synK_at hq) (j := 2) (by omega) hy
          rw [← synK_succ hq, hlen, ← HVC.out] at ho2
          have hx2 : Ext (fun b => (D.rv f).ownBlock = some b) w3 (wr.setCell ⟨g, k * 3 + 2, none⟩ (.int .i64 (A.now + 1))) := hU.out.2.setCell (.inr (by rw [HVC.out]; rfl)) _
          rw [hs] at q2
          have HO2 := Lib.hid (And.intro ho2 hx2)
          clear ho ho2 hx2 hU hrw hs hq hy hlen
          go_wp2_with fail
          go_roundg (qs.length - (k + 1))
          case measure => rw [HGG.out]; omega
          case rel => exact ⟨k + 1, rfl, by omega, by simp, HO2⟩
        · have hy : synQ (A.now + 1) q = q := by unfold synQ; rw [if_neg hs]
          have hk2 : synK (A.now + 1) (k + 1) qs = synK (A.now + 1) k qs := by
            rw [synK_succ hq, hy]
            obtain ⟨hk', e⟩ := List.getElem?_eq_some_iff.1 (synK_at (n := A.now + 1) hq)
            conv => lhs; rw [← e]
            exact List.set_getElem_self hk'
          have HO2 : Hid (Own Pc.cells 3 131 base wr (D.rv f) (synK (A.now + 1) (k + 1) qs) ∧ Ext (fun b => (D.rv f).ownBlock = some b) w3 wr) := Lib.hid (by rw [hk2]; exact hU.out)
          clear ho hU hrw hq hy hlen hk2
          go_wp2_with fail
          go_roundg (qs.length - (k + 1))
          case measure => rw [HGG.out]; omega
          case rel => exact ⟨k + 1, rfl, by omega, by simp, HO2⟩
      · obtain rfl : k = qs.length := by omega
        have HT := Lib.hid (sync_fin HX3.out H3.out HF.out HQL.out HQP.out hU.out.2 (by rw [← synK_all]; exact hU.out.1))
        clear hU
        go_wp2
        go_ret
        exact .inr ⟨f, HG.out, rfl, HT.out⟩
def bytesP (ps : List PcA) : List UInt8 := ps.flatMap (·.bs)
theorem bytesP_len (ps : List PcA) : (bytesP ps).length = sizeP ps := by simp [bytesP, sizeP, List.length_flatMap]
theorem bytesP_snoc {ps : List PcA} {k : Nat} {p : PcA} (h : ps[k]? = some p) : bytesP (ps.take (k + 1)) = bytesP (ps.take k) ++ p.bs := by
  unfold bytesP
  rw [List.take_add_one, h, Option.toList_some, List.flatMap_append]
  simp
theorem sizeP_take (ps : List PcA) (k : Nat) : sizeP (ps.take k) ≤ sizeP ps := by
  unfold sizeP
  conv => rhs; rw [← List.take_append_drop k ps]
  rw [List.map_append, List.sum_append]
  omega
theorem sizeP_mem {ps : List PcA} {k : Nat} {p : PcA} (h : ps[k]? = some p) : sizeP (ps.take k) + p.bs.length ≤ sizeP ps := by
  have := sizeP_take ps (k + 1)
  rw [List.take_add_one, h, Option.toList_some, sizeP_snoc] at this
  exact this
def ReadPost (base : Nat) (w : World) (D : DSh) (A : DiskA) (name : ByteArray) (e : Ending) (w' : World) : Prop :=
  (aget A.files name = none ∧ e = .returned (.tuple #[.slice none 0 0, .int .i64 61]) ∧ w' = w) ∨
  (∃ f v, aget A.files name = some f ∧ e = .returned (.tuple #[v, .int .i64 0]) ∧ Own u8c 1 5 w.heap.size w' v (bytesP (A.fs f)) ∧ Below w.heap.size w w')
set_option maxRecDepth 20000 in
set_option maxHeartbeats 4000000 in
theorem read_any {base : Nat} {w : World} {D : DSh} {A : DiskA} (h : DiskIs base w D A) (name : ByteArray) {N : Nat} (hsm : A.Small N) (hN : N ≤ 1000000000) :
    Calls Tryz.prog 35 #[.pointer (some ⟨D.pb, 0, none⟩), .string name] w fun e w' => ReadPost base w D A name e w' := by
  obtain ⟨i0, hi, hz0, hz1, hz2⟩ := info_parts info_u8
  go_enter Tryz.func35, Tryz.ntmps35
  go_wp2_with fail
  refine (find_any h name).mono ?_
  rintro e w1 ⟨rfl, rfl⟩
  unfold findV
  cases hg : aget A.files name with
  | none =>
    simp only [Option.isSome_none, ptrV, Option.map_none]
    have HH := Lib.hid h
    clear h
    go_wp2
    refine bodyPost_ret (results_tmp2 rfl _ _ _) rfl ?_
    exact .inl ⟨hg, rfl, rfl⟩
  | some f =>
    simp only [Option.isSome_some, ptrV, Option.map_some, if_true]
    have hf := (h.ok.inf _ _ (aget_mem hg)).1
    have hsz := h.ok.sz f hf
    have HG := Lib.hid hg
    have hF3 := h.file f hf
    obtain ⟨hbf, hfb3, qs, hqo, hql, hqp⟩ := id hF3
    obtain ⟨va, vcap, hvc⟩ : ∃ va vcap, D.rv f = .slice va qs.length vcap := by
      rcases hqo.eq_slice with ⟨e, e2⟩ | ⟨g, c, e, _⟩
      · exact ⟨none, 0, by rw [e, e2]; rfl⟩
      · exact ⟨_, _, e⟩
    have hlq : qs.length ≤ 1000000001 := by have := hsm.pcs f hf; omega
    have f0 := Joins.cell_of_block hfb3 0
    simp only [List.getElem?_toArray, List.getElem?_cons_succ, List.getElem?_cons_zero, hvc] at f0
    have HVC := Lib.hid hvc
    have HQO := Lib.hid hqo
    have HQP := Lib.hid hqp
    have HQL := Lib.hid hql
    clear h hF3 hfb3 hqo hql hqp hvc hsm hf hg
    go_wp2_with fail
    go_loopg [8, 25] qs.length (fun g vv iv wr => ∃ (k : Nat) (s : Sl), g = qs.length - k ∧ k ≤ qs.length ∧ vv = .slice s.a s.n s.cap ∧ iv = .int .i64 k ∧ Hid (Own u8c 1 5 w1.heap.size wr (.slice s.a s.n s.cap) (bytesP ((A.fs f).take k)) ∧ Below w1.heap.size w1 wr))
    case atStart => exact ⟨0, ⟨none, 0, 0⟩, by omega, by omega, rfl, rfl, Lib.hid ⟨by simp only [List.take_zero]; exact Own.nil, Below.refl _ _⟩⟩
    case round =>
      obtain ⟨k, ⟨sa, sn, sc⟩, hg, hk, rfl, rfl, hU⟩ := hrel
      dsimp only at hU ⊢
      have HGG := Lib.hid hg
      clear hg
      by_cases hkl : k < qs.length
      · obtain ⟨q, hq⟩ : ∃ q, qs[k]? = some q := ⟨_, List.getElem?_eq_getElem hkl⟩
        obtain ⟨p, hp⟩ : ∃ p, (A.fs f)[k]? = some p := ⟨_, List.getElem?_eq_getElem (by rw [← HQL.out]; exact hkl)⟩
        obtain ⟨⟨qa, qn, qc⟩, qcame, qsafe⟩ := q
        have ho := HQO.out
        rw [HVC.out] at ho
        obtain ⟨g, e1⟩ : ∃ g, va = some ⟨g, 0, none⟩ := by
          rcases ho.eq_slice with ⟨_, e2⟩ | ⟨g, c, e, _⟩
          · rw [e2] at hkl; simp at hkl
          · cases e; exact ⟨g, rfl⟩
        subst e1
        have q0 := keepB hU.out.2 (ho.cellAt Pc.len hq (j := 0) rfl)
        have q1 := keepB hU.out.2 (ho.cellAt Pc.len hq (j := 1) rfl)
        have q2 := keepB hU.out.2 (ho.cellAt Pc.len hq (j := 2) rfl)
        simp only [Nat.add_zero] at q0
        have hkk : (k : Int) < (qs.length : Int) := by omega
        have hsl := ((HQP.out k _ _ hq hp).1.slice u8c_len).below hU.out.2
        have hb1 := sizeP_mem hp
        have hal : Below wr.heap.size wr (wr.alloc (.cells #[.slice qa qn qc, .int .i64 qcame, .int .i64 qsafe] 131)) := (Below.refl _ _).alloc (Nat.le_refl _) _
        have hbl := bytesP_len ((A.fs f).take k)
        obtain ⟨v', w', hr, hown, hx'⟩ := append_structs (P := Tryz.prog) 22 22 i0 _ 1 Tryz.underlying22 hi hz0 hz1 hz2 rfl (by omega) u8c_len u8c_one (hU.out.1.alloc _) (hsl.below hal) (by unfold maxLen; omega) (by omega) (by have := hU.out.2.size; simp; omega)
        rw [← bytesP_snoc hp] at hown
        have hB := Ext.new (hU.out.2.alloc hU.out.2.size (.cells #[.slice qa qn qc, .int .i64 qcame, .int .i64 qsafe] 131)) hx' (fun i hi _ e => by have := (hU.out.1.blk i e).1; omega) (by have := hU.out.2.size; simp; omega)
        obtain ⟨s', hs'⟩ := hown.slv
        subst hs'
        change (Builtin.append_ _ _ _).run _ _ = .ok (.slice s'.a s'.n s'.cap) w' at hr
        have HR := Lib.hid hr
        have HN := Lib.hid (And.intro hown hB)
        clear ho hU hq hp hsl hb1 hal hbl hr hown hx' hB
        go_wp2_with (at_builtin; refine wpList_append_run rfl _ _ _ rfl rfl rfl HR.out ?_)
        go_roundg (qs.length - (k + 1))
        case measure => rw [HGG.out]; omega
        case rel => exact ⟨k + 1, s', rfl, by omega, rfl, by simp, HN⟩
      · obtain rfl : k = qs.length := by omega
        have hown := hU.out.1
        rw [HQL.out, List.take_length] at hown
        have HN := Lib.hid (And.intro hown hU.out.2)
        clear hU hown
        go_wp2
        refine bodyPost_ret (results_tmp2 rfl _ _ _) rfl ?_
        exact .inr ⟨f, _, HG.out, rfl, HN.out.1, HN.out.2⟩
end Go.Proofs.YtgmdimbiipemhaaGreatDoor
namespace Go.Proofs
open Go.Shelf
def Tryz.keysF_ren : Go.Shelf.Ren := ⟨fun | 7 => 80 | 10 => 127 | n => n, fun | 23 => 115 | 26 => 9 | 3 => 120 | 28 => 142 | 0 => 0 | 27 => 141 | 33 => 119 | 4 => 4 | n => n, fun | n => n⟩
theorem Tryz.keysF : Go.Proofs.SlLaysZ.n7 Tryz.prog Tryz.keysF_ren := {
  mixed := by kernel_rfl
  f7 := ⟨Tryz.f80.name, by decide, Tryz.func80.trans (congrArg some (by kernel_rfl))⟩
  f10 := ⟨Tryz.f127.name, by decide, Tryz.func127.trans (congrArg some (by kernel_rfl))⟩
  t0 := Tryz.underlying0
  a0 := Tryz.isAgg0
  z0 := Tryz.sizeOf0
  v0 := Tryz.zeroValue0
  t4 := Tryz.underlying4
  a4 := Tryz.isAgg4
  z4 := Tryz.sizeOf4
  v4 := Tryz.zeroValue4
  t23 := Tryz.underlying115
  a23 := Tryz.isAgg115
  z23 := Tryz.sizeOf115
  v23 := Tryz.zeroValue115
  t26 := Tryz.underlying9
  a26 := Tryz.isAgg9
  z26 := Tryz.sizeOf9
  v26 := Tryz.zeroValue9
  t27 := Tryz.underlying141
  a27 := Tryz.isAgg141
  z27 := Tryz.sizeOf141
  v27 := Tryz.zeroValue141
  t28 := Tryz.underlying142
  a28 := Tryz.isAgg142
  z28 := Tryz.sizeOf142
  v28 := Tryz.zeroValue142
  t33 := Tryz.underlying119
  a33 := Tryz.isAgg119
  z33 := Tryz.sizeOf119
  v33 := Tryz.zeroValue119 }
def Tryz.sortedF_ren : Go.Shelf.Ren := ⟨fun | 6 => 79 | 8 => 125 | 9 => 126 | 11 => 167 | 13 => 169 | 12 => 168 | 23 => 192 | 24 => 193 | 14 => 183 | 15 => 184 | 16 => 185 | 17 => 186 | 18 => 187 | 19 => 188 | 20 => 189 | 21 => 190 | 22 => 191 | 25 => 205 | 26 => 206 | 27 => 207 | 28 => 208 | 29 => 209 | 30 => 210 | 31 => 217 | n => n, fun | 26 => 9 | 28 => 142 | 24 => 56 | 0 => 0 | 3 => 3 | 37 => 189 | 48 => 199 | 50 => 97 | 4 => 4 | 40 => 267 | 39 => 266 | 45 => 215 | 5 => 5 | 9 => 9 | 51 => 283 | 55 => 164 | 57 => 296 | 58 => 297 | 33 => 119 | n => n, fun | n => n⟩
theorem Tryz.sortedF : Go.Proofs.SlLaysZ.n6 Tryz.prog Tryz.sortedF_ren := {
  mixed := by kernel_rfl
  f6 := ⟨Tryz.f79.name, by decide, Tryz.func79.trans (congrArg some (by kernel_rfl))⟩
  f8 := ⟨Tryz.f125.name, by decide, Tryz.func125.trans (congrArg some (by kernel_rfl))⟩
  f11 := ⟨Tryz.f167.name, by decide, Tryz.func167.trans (congrArg some (by kernel_rfl))⟩
  t0 := Tryz.underlying0
  a0 := Tryz.isAgg0
  z0 := Tryz.sizeOf0
  v0 := Tryz.zeroValue0
  t24 := Tryz.underlying56
  a24 := Tryz.isAgg56
  z24 := Tryz.sizeOf56
  v24 := Tryz.zeroValue56
  t26 := Tryz.underlying9
  a26 := Tryz.isAgg9
  z26 := Tryz.sizeOf9
  v26 := Tryz.zeroValue9
  t28 := Tryz.underlying142
  a28 := Tryz.isAgg142
  z28 := Tryz.sizeOf142
  v28 := Tryz.zeroValue142
  i26 := by kernel_rfl }
def Tryz.sortF_ren : Go.Shelf.Ren := ⟨fun | 6 => 126 | 8 => 169 | 9 => 168 | 19 => 192 | 20 => 193 | 21 => 183 | 22 => 184 | 23 => 185 | 24 => 186 | 25 => 187 | 26 => 188 | 27 => 189 | 28 => 190 | 29 => 191 | 36 => 205 | 31 => 206 | 32 => 207 | 37 => 208 | 38 => 209 | 39 => 210 | 41 => 217 | n => n, fun | 27 => 56 | 29 => 9 | 3 => 3 | 32 => 189 | 26 => 56 | 0 => 0 | 44 => 199 | 46 => 97 | 4 => 4 | 36 => 267 | 35 => 266 | 41 => 215 | 5 => 5 | 9 => 9 | 53 => 283 | 57 => 164 | 63 => 296 | 64 => 297 | n => n, fun | n => n⟩
theorem Tryz.sortF : Go.Proofs.SlLaysM.n6 Tryz.prog Tryz.sortF_ren := {
  mixed := by kernel_rfl
  f6 := ⟨Tryz.f126.name, by decide, Tryz.func126.trans (congrArg some (by kernel_rfl))⟩
  f8 := Tryz.func169.trans (congrArg some (by kernel_rfl))
  f9 := ⟨Tryz.f168.name, by decide, Tryz.func168.trans (congrArg some (by kernel_rfl))⟩
  f19 := Tryz.func192.trans (congrArg some (by kernel_rfl))
  f20 := Tryz.func193.trans (congrArg some (by kernel_rfl))
  f21 := ⟨Tryz.f183.name, by decide, Tryz.func183.trans (congrArg some (by kernel_rfl))⟩
  f22 := ⟨Tryz.f184.name, by decide, Tryz.func184.trans (congrArg some (by kernel_rfl))⟩
  f23 := ⟨Tryz.f185.name, by decide, Tryz.func185.trans (congrArg some (by kernel_rfl))⟩
  f24 := ⟨Tryz.f186.name, by decide, Tryz.func186.trans (congrArg some (by kernel_rfl))⟩
  f25 := ⟨Tryz.f187.name, by decide, Tryz.func187.trans (congrArg some (by kernel_rfl))⟩
  f26 := ⟨Tryz.f188.name, by decide, Tryz.func188.trans (congrArg some (by kernel_rfl))⟩
  f27 := ⟨Tryz.f189.name, by decide, Tryz.func189.trans (congrArg some (by kernel_rfl))⟩
  f28 := ⟨Tryz.f190.name, by decide, Tryz.func190.trans (congrArg some (by kernel_rfl))⟩
  f29 := ⟨Tryz.f191.name, by decide, Tryz.func191.trans (congrArg some (by kernel_rfl))⟩
  f31 := Tryz.func206.trans (congrArg some (by kernel_rfl))
  f32 := Tryz.func207.trans (congrArg some (by kernel_rfl))
  f36 := ⟨Tryz.f205.name, by decide, Tryz.func205.trans (congrArg some (by kernel_rfl))⟩
  f37 := ⟨Tryz.f208.name, by decide, Tryz.func208.trans (congrArg some (by kernel_rfl))⟩
  f38 := ⟨Tryz.f209.name, by decide, Tryz.func209.trans (congrArg some (by kernel_rfl))⟩
  f39 := ⟨Tryz.f210.name, by decide, Tryz.func210.trans (congrArg some (by kernel_rfl))⟩
  f41 := ⟨Tryz.f217.name, by decide, Tryz.func217.trans (congrArg some (by kernel_rfl))⟩
  t0 := Tryz.underlying0
  a0 := Tryz.isAgg0
  z0 := Tryz.sizeOf0
  v0 := Tryz.zeroValue0
  t3 := Tryz.underlying3
  a3 := Tryz.isAgg3
  z3 := Tryz.sizeOf3
  v3 := Tryz.zeroValue3
  t4 := Tryz.underlying4
  a4 := Tryz.isAgg4
  z4 := Tryz.sizeOf4
  v4 := Tryz.zeroValue4
  t5 := Tryz.underlying5
  a5 := Tryz.isAgg5
  z5 := Tryz.sizeOf5
  v5 := Tryz.zeroValue5
  t9 := Tryz.underlying9
  a9 := Tryz.isAgg9
  z9 := Tryz.sizeOf9
  v9 := Tryz.zeroValue9
  t26 := Tryz.underlying56
  a26 := Tryz.isAgg56
  z26 := Tryz.sizeOf56
  v26 := Tryz.zeroValue56
  t27 := Tryz.underlying56
  a27 := Tryz.isAgg56
  z27 := Tryz.sizeOf56
  v27 := Tryz.zeroValue56
  t29 := Tryz.underlying9
  a29 := Tryz.isAgg9
  z29 := Tryz.sizeOf9
  v29 := Tryz.zeroValue9
  t32 := Tryz.underlying189
  a32 := Tryz.isAgg189
  z32 := Tryz.sizeOf189
  v32 := Tryz.zeroValue189
  t35 := Tryz.underlying266
  a35 := Tryz.isAgg266
  z35 := Tryz.sizeOf266
  v35 := Tryz.zeroValue266
  t36 := Tryz.underlying267
  a36 := Tryz.isAgg267
  z36 := Tryz.sizeOf267
  v36 := Tryz.zeroValue267
  t41 := Tryz.underlying215
  a41 := Tryz.isAgg215
  z41 := Tryz.sizeOf215
  v41 := Tryz.zeroValue215
  t44 := Tryz.underlying199
  a44 := Tryz.isAgg199
  z44 := Tryz.sizeOf199
  v44 := Tryz.zeroValue199
  t46 := Tryz.underlying97
  a46 := Tryz.isAgg97
  z46 := Tryz.sizeOf97
  v46 := Tryz.zeroValue97
  t53 := Tryz.underlying283
  a53 := Tryz.isAgg283
  z53 := Tryz.sizeOf283
  v53 := Tryz.zeroValue283
  t57 := Tryz.underlying164
  a57 := Tryz.isAgg164
  z57 := Tryz.sizeOf164
  v57 := Tryz.zeroValue164
  t63 := Tryz.underlying296
  a63 := Tryz.isAgg296
  z63 := Tryz.sizeOf296
  v63 := Tryz.zeroValue296
  t64 := Tryz.underlying297
  a64 := Tryz.isAgg297
  z64 := Tryz.sizeOf297
  v64 := Tryz.zeroValue297 }
end Go.Proofs
namespace Go.Proofs.YtgmdimbiipemhaaGreatDoor
open Go.RowKit Go.Deep Go.Maps Go.Sort Go.Shelf
def strc (x : ByteArray) : List Value := [.string x]
theorem strc_len (x : ByteArray) : (strc x).length = 1 := rfl
theorem MapIs.owns {V : Type} {ev : V → Value} {w : World} {b : Nat} {l : List (ByteArray × V)} (h : MapIs Value.string ev w b l) (hs : ∀ p ∈ l, p.1.size ≤ maxLen) (hl : l.length ≤ maxLen) :
    ∃ D : DataW Unit, w.ownsMap Tryz.prog 9 (fun _ => some (.nil, [])) b l.length D ∧ (strKeys D).Perm (l.map fun p => p.1.data.toList) ∧ Maps.size D = l.length := by
  obtain ⟨hn, es, clock, h1, h2, h3, h4, h5⟩ := h
  have hsz : es.size = l.length := by
    have := congrArg List.length h2
    simpa using this
  have hrg : ∀ x ∈ es.toList, ∃ p ∈ l, x.key = .string p.1 ∧ WideElems.rd (H := Unit) Tryz.prog 9 (fun _ => some (.nil, [])) x = some (.string p.1.data.toList, .nil) := fun x hx => by
    obtain ⟨i, hi⟩ := List.getElem?_of_mem hx
    have hk := congrArg (fun l : List Value => l[i]?) h2
    simp only [List.getElem?_map, hi, Option.map_some] at hk
    cases hp : l[i]? with
    | none => rw [hp] at hk; cases hk
    | some p =>
      rw [hp] at hk
      simp only [Option.map_some, Option.some.injEq] at hk
      refine ⟨p, List.mem_of_getElem? hp, hk, ?_⟩
      unfold WideElems.rd
      rw [hk, WideMaps.keyOf_string_mk und_string (hs p (List.mem_of_getElem? hp))]
      rfl
  refine ⟨_, ⟨es, clock, h1, ⟨by omega, ⟨h5, ?_, ?_⟩, fun x hx => ?_⟩, by omega, rfl⟩, ?_, ?_⟩
  · rw [List.nodup_iff_pairwise_ne, List.pairwise_map]
    exact h4.imp (fun hlt e => by omega)
  · rw [h2]
    refine List.Pairwise.map _ (fun a b hab e => ?_) (List.pairwise_map.1 hn)
    exact hab (by injection e)
  · obtain ⟨p, _, _, h⟩ := hrg x hx
    exact ⟨_, h⟩
  · have e1 : ∀ (xs : List MapEntry) (ps : List (ByteArray × V)), xs.map (·.key) = ps.map (fun p => Value.string p.1) → (∀ x ∈ xs, ∃ p : ByteArray × V, x.key = .string p.1 ∧ WideElems.rd (H := Unit) Tryz.prog 9 (fun _ => some (.nil, [])) x = some (.string p.1.data.toList, .nil)) → xs.map (WideElems.rg (H := Unit) Tryz.prog 9 (fun _ => some (.nil, []))) = ps.map (fun p => (Lit.string p.1.data.toList, .nil)) := by
      intro xs
      induction xs with
      | nil => intro ps hps _; cases ps with
        | nil => rfl
        | cons p ps => simp at hps
      | cons x xs ih =>
        intro ps hps hx
        cases ps with
        | nil => simp at hps
        | cons p ps =>
          simp only [List.map_cons, List.cons.injEq] at hps ⊢
          obtain ⟨p', hk, hr⟩ := hx x List.mem_cons_self
          refine ⟨?_, ih ps hps.2 (fun y hy => hx y (List.mem_cons_of_mem _ hy))⟩
          have hpp : p'.1 = p.1 := by
            have := hk.symm.trans hps.1
            injection this
          unfold WideElems.rg
          rw [hr, hpp]
          rfl
    have e2 := e1 es.toList l h2 (fun x hx => by obtain ⟨p, _, h, h'⟩ := hrg x hx; exact ⟨p, h, h'⟩)
    rw [e2]
    have hp := WideShapes.sorted_perm (l.map fun p => (Lit.string p.1.data.toList, (DataW.nil : DataW Unit)))
    have hq := hp.map (fun q : Lit × DataW Unit => strOf q.1)
    refine List.Perm.trans hq ?_
    rw [List.map_map]
    exact List.Perm.refl _
  · simp only [Maps.size]
    rw [(WideShapes.sorted_perm _).length_eq]
    simp [hsz]
theorem sorts_any (m : Nat) : AnyZ.SortsIn Tryz.prog Tryz.sortedF_ren Fence.wide m :=
  ⟨fun blk off cap ss W hH hblk hsz => callsIn_wide.2 (AnyM.slices_Sort_string Tryz.sortF blk off cap ss W hH hblk hsz),
   fun p cap W => callsIn_wide.2 (AnyM.slices_Sort_string_none Tryz.sortF p cap W)⟩
theorem keys_any (mb : Option Nat) (W : World) : Calls Tryz.prog 80 #[.map mb] W fun e w' => e = .returned (.func (.func 127) #[] #[.pointer (some ⟨W.heap.size, 0, none⟩)]) ∧ w' = W.alloc (.cells #[.map mb] 115) :=
  callsIn_wide.1 (AnyZ.keys_in Tryz.keysF Fence.wide 5 trivial rfl mb W)
set_option maxHeartbeats 1000000 in
theorem sorted_any {H : Type} (b nn : Nat) (D0 : DataW H) (R : Value → Option (DataW H × List MemPlace)) (w : World) (hown : w.ownsMap Tryz.prog 9 R b nn D0) (hmax : Maps.size D0 ≤ maxLen) (hbytes : Maps.size D0 * 16 ≤ 140737488355328) :
    Calls Tryz.prog 79 #[.func (.func 127) #[] #[.pointer (some ⟨w.heap.size, 0, none⟩)]] (w.alloc (.cells #[.map (some b)] 115)) fun e w' => ∃ (v : Value) (ss : List (List UInt8)), e = .returned v ∧ ss.Perm (strKeys D0) ∧
      w'.ownsRow (w.alloc (.cells #[.map (some b)] 115)).heap.size 9 1 v ss.length ((ss.mergeSort (fun x y => decide (x ≤ y))).map encStr) ∧ (v = .slice none 0 0 ↔ ss = []) ∧ Below (w.alloc (.cells #[.map (some b)] 115)).heap.size (w.alloc (.cells #[.map (some b)] 115)) w' := by
  have hbl := hown.lt
  have hseq : SeqGives Fence.wide 2 Tryz.prog 127 #[.pointer (some ⟨w.heap.size, 0, none⟩)] encStr (fun ss => ss.Perm (strKeys D0)) (Maps.size D0) (w.alloc (.cells #[.map (some b)] 115)) :=
    AnyZ.keys_gives (ρ := Tryz.keysF_ren) { Tryz.keysF with } Fence.wide _ trivial rfl (by omega) w.heap.size b nn D0 _ (by simp) (by simp) (by
      obtain ⟨es, clock, hb, Ft, hs, hD⟩ := hown
      exact ⟨es, clock, (Below.heap_alloc _ _ b hbl).trans hb, Ft, hs, hD⟩)
  exact callsIn_wide.1 (AnyZ.sorted_in Tryz.sortedF Fence.wide 5 trivial trivial trivial trivial rfl (by omega) (sorts_any _) (enters_of Tryz.func126 (by kernel_rfl) rfl) 127 #[.pointer (some ⟨w.heap.size, 0, none⟩)] trivial (enters_of Tryz.func127 (by kernel_rfl) rfl) _ _ hmax hbytes _ hseq)
def sortN (l : List ByteArray) : List ByteArray := ((l.map fun n => n.data.toList).mergeSort (fun x y => decide (x ≤ y))).map fun b => ⟨b.toArray⟩
def namesA (A : DiskA) : List ByteArray := sortN (A.files.map (·.1))
theorem namesA_perm (A : DiskA) : (namesA A).Perm (A.files.map (·.1)) := by
  unfold namesA sortN
  refine ((List.mergeSort_perm _ _).map _).trans ?_
  rw [List.map_map]
  rw [show ((fun b : List UInt8 => (⟨b.toArray⟩ : ByteArray)) ∘ fun n : ByteArray => n.data.toList) = id from by funext n; cases n; simp]
  simp
theorem leB_trans (a b c : List UInt8) (h : decide (a ≤ b) = true) (k : decide (b ≤ c) = true) : decide (a ≤ c) = true := by
  rw [decide_eq_true_eq] at *
  exact List.le_trans h k
theorem leB_total (a b : List UInt8) : (decide (a ≤ b) || decide (b ≤ a)) = true := by
  rw [Bool.or_eq_true, decide_eq_true_eq, decide_eq_true_eq]
  exact List.le_total a b
theorem merge_eq {l l' : List (List UInt8)} (h : l.Perm l') : l.mergeSort (fun x y => decide (x ≤ y)) = l'.mergeSort (fun x y => decide (x ≤ y)) := by
  have hp := ((List.mergeSort_perm l (fun x y => decide (x ≤ y))).trans h).trans (List.mergeSort_perm l' (fun x y => decide (x ≤ y))).symm
  refine List.Perm.eq_of_pairwise (fun a b _ _ hab hba => ?_) (List.pairwise_mergeSort leB_trans leB_total l) (List.pairwise_mergeSort leB_trans leB_total l') hp
  rw [decide_eq_true_eq] at hab hba
  exact List.le_antisymm hab hba
set_option maxRecDepth 20000 in
set_option maxHeartbeats 1000000 in
theorem names_any {base : Nat} {w : World} {D : DSh} {A : DiskA} (h : DiskIs base w D A) (hl : A.files.length ≤ 1000000) :
    Calls Tryz.prog 38 #[.pointer (some ⟨D.pb, 0, none⟩)] w fun e w' => ∃ v, e = .returned v ∧ Own strc 1 9 w.heap.size w' v (namesA A) ∧ Below w.heap.size w w' := by
  have c0 := Joins.cell_of_block h.blk 0
  simp only [List.getElem?_toArray, List.getElem?_cons_zero] at c0
  obtain ⟨D0, hown, hperm, hsize⟩ := h.mfiles.owns (fun p hp => by have := (h.ok.inf p.1 p.2 hp).2; unfold maxLen; omega) (by unfold maxLen; omega)
  have HS := Lib.hid (sorted_any D.mf _ D0 _ w hown (by rw [hsize]; unfold maxLen; omega) (by rw [hsize]; omega))
  have HP := Lib.hid hperm
  clear h hown hperm hsize
  go_enter Tryz.func38, Tryz.ntmps38
  go_wp2_with fail
  refine (keys_any _ _).mono ?_
  rintro e w1 ⟨rfl, rfl⟩
  go_wp2_with fail
  refine HS.out.mono ?_
  rintro e w2 ⟨v, ss, rfl, hss, hrow, _, hb⟩
  have hB : Below w.heap.size w w2 := ((Below.refl _ _).alloc (Nat.le_refl _) _).trans (hb.mono (by simp))
  have hO : Own strc 1 9 w.heap.size w2 v (namesA A) := by
    have e1 : namesA A = (ss.mergeSort (fun x y => decide (x ≤ y))).map fun b => ⟨b.toArray⟩ := by
      unfold namesA sortN
      rw [merge_eq (hss.trans HP.out), List.map_map]
      rfl
    have e2 : (namesA A).flatMap strc = (ss.mergeSort (fun x y => decide (x ≤ y))).map encStr := by
      rw [e1, List.flatMap_map]
      induction (ss.mergeSort (fun x y => decide (x ≤ y))) with
      | nil => rfl
      | cons x xs ih => rw [List.flatMap_cons, ih]; rfl
    have e3 : (namesA A).length = ss.length := by rw [e1, List.length_map, (List.mergeSort_perm _ _).length_eq]
    refine Own.mono (base := (w.alloc (.cells #[.map (some D.mf)] 115)).heap.size) ?_ (by simp)
    unfold Own
    rw [e2, e3]
    exact hrow
  have HN := Lib.hid (And.intro hO hB)
  obtain ⟨s, e9⟩ := hO.slv
  change v = .slice s.a s.n s.cap at e9
  subst e9
  clear hss hrow hb hB hO
  go_wp2
  go_ret
  exact ⟨_, rfl, HN.out.1, HN.out.2⟩
end Go.Proofs.YtgmdimbiipemhaaGreatDoor
namespace Go.Proofs.YtgmdimbiipemhaaGreatDoor
open Go.RowKit Go.Deep
def mixG (f : Nat → OpD → OpD) (i : Nat) (ls : List OpD) : List OpD := ls.mapIdx fun j o => if j < i then f j o else o
theorem mixG_len (f : Nat → OpD → OpD) (i : Nat) (ls : List OpD) : (mixG f i ls).length = ls.length := by simp [mixG]
theorem mixG_zero (f : Nat → OpD → OpD) (ls : List OpD) : mixG f 0 ls = ls := by
  apply List.ext_getElem?
  intro j
  simp [mixG]
theorem mixG_at (f : Nat → OpD → OpD) (i : Nat) {ls : List OpD} {x : OpD} (h : ls[i]? = some x) : (mixG f i ls)[i]? = some x := by simp [mixG, h]
theorem mixG_succ (f g : Nat → OpD → OpD) (i : Nat) {ls : List OpD} {x : OpD} (h : ls[i]? = some x) (hfg : ∀ j, j < i → f j = g j) : mixG g (i + 1) ls = (mixG f i ls).set i (g i x) := by
  apply List.ext_getElem?
  intro j
  have hi := (List.getElem?_eq_some_iff.1 h).1
  by_cases e : j = i
  · subst e
    rw [List.getElem?_set_self (by rw [mixG_len]; exact hi)]
    simp [mixG, h]
  · rw [List.getElem?_set_ne (Ne.symm e)]
    simp only [mixG, List.getElem?_mapIdx]
    congr 1
    funext o
    by_cases h1 : j < i
    · rw [if_pos h1, if_pos (by omega), hfg j h1]
    · rw [if_neg h1, if_neg (by omega)]
theorem mixN_G (L : List (List Int)) (i : Nat) (ls : List OpD) : mixN L i ls = mixG (fun j o => o.withF (colF L j)) i ls := rfl
def OpD.setT (o : OpD) (c : Nat) (v : Bool) : OpD := if c = 0 then { o with fa := v } else { o with ta := v }
def OpD.setX (o : OpD) (c : Nat) (s : ByteArray) : OpD := if c = 0 then { o with key := s } else if c = 1 then { o with name := s } else { o with value := s }
def offT (c : Nat) : Nat := if c = 0 then 22 else 25
def offX (c : Nat) : Nat := if c = 0 then 17 else if c = 1 then 18 else 19
theorem offT_lt (c : Nat) : offT c < 26 := by unfold offT; split <;> omega
theorem offX_lt (c : Nat) : offX c < 26 := by unfold offX; split <;> (try split) <;> omega
theorem setT_cells (o : OpD) (c : Nat) (v : Bool) : (o.setT c v).cells = o.cells.set (offT c) (.bool v) := by
  unfold OpD.setT offT
  split <;> rfl
theorem setX_cells (o : OpD) (c : Nat) (s : ByteArray) : (o.setX c s).cells = o.cells.set (offX c) (.string s) := by
  unfold OpD.setX offX
  split
  · rfl
  · split <;> rfl
def mixT (c : Nat) (V : List Bool) (i : Nat) (ls : List OpD) : List OpD := mixG (fun j o => o.setT c (V.getD j false)) i ls
noncomputable def tkT (n : Nat) : Nat → List OpD × List UInt8 → Option (List OpD × List UInt8)
  | 0, p => some p
  | c + 1, p => (tkT n c p).bind fun q => (decT n false true q.2).map fun t => (mixT c t.1 n q.1, q.2.drop t.2)
theorem tkT_step {n c : Nat} {p q : List OpD × List UInt8} {V : List Bool} {u : Nat} (h : tkT n c p = some q) (k : decT n false true q.2 = some (V, u)) : tkT n (c + 1) p = some (mixT c V n q.1, q.2.drop u) := by
  simp [tkT, h, k]
theorem tkT_none {n c : Nat} {p : List OpD × List UInt8} (h : tkT n c p = none) : ∀ d, tkT n (c + d) p = none
  | 0 => h
  | d + 1 => by
    show (tkT n (c + d) p).bind _ = none
    rw [tkT_none h d]
    rfl
theorem tkT_bad {n c : Nat} {p q : List OpD × List UInt8} (h : tkT n c p = some q) (k : decT n false true q.2 = none) {d : Nat} (hd : c < d) : tkT n d p = none := by
  have h1 : tkT n (c + 1) p = none := by simp [tkT, h, k]
  have := tkT_none h1 (d - (c + 1))
  rwa [show c + 1 + (d - (c + 1)) = d by omega] at this
theorem tkT_len {n : Nat} : ∀ {c : Nat} {p q : List OpD × List UInt8}, tkT n c p = some q → q.1.length = p.1.length
  | 0, p, q, h => by cases h; rfl
  | c + 1, p, q, h => by
    unfold tkT at h
    rw [Option.bind_eq_some_iff] at h
    obtain ⟨q0, h1, h2⟩ := h
    rw [Option.map_eq_some_iff] at h2
    obtain ⟨t, _, h4⟩ := h2
    rw [← h4]
    show (mixT c t.1 n q0.1).length = _
    unfold mixT
    rw [mixG_len]
    exact tkT_len h1
theorem decT_facts {n : Nat} (hn : n ≤ 65536) {b : List UInt8} {l : List Bool} {u : Nat} (h : decT n false true b = some (l, u)) : l.length = n ∧ u ≤ b.length := by
  obtain ⟨h1, _, h2, h3⟩ := (decT_iff n (by omega) false true b l u).1 h
  exact ⟨h1, by rw [h3]; exact h2.length_le⟩
def cutX (v : List Int) : Nat → List UInt8 → Option (List ByteArray × List UInt8)
  | 0, b => some ([], b)
  | i + 1, b => (cutX v i b).bind fun p => if 0 ≤ v.getD i 0 ∧ v.getD i 0 ≤ (p.2.length : Int) then some (p.1 ++ [⟨(p.2.take (v.getD i 0).toNat).toArray⟩], p.2.drop (v.getD i 0).toNat) else none
theorem cutX_step {v : List Int} {i : Nat} {b r : List UInt8} {X : List ByteArray} {m : Nat} (h : cutX v i b = some (X, r)) (hv : v[i]? = some (m : Int)) (hm : m ≤ r.length) : cutX v (i + 1) b = some (X ++ [⟨(r.take m).toArray⟩], r.drop m) := by
  have hg : v.getD i 0 = (m : Int) := by rw [List.getD_eq_getElem?_getD, hv]; rfl
  simp only [cutX, h, Option.bind_some, hg]
  rw [if_pos ⟨by omega, by omega⟩]
  rfl
theorem cutX_none {v : List Int} {i : Nat} {b : List UInt8} (h : cutX v i b = none) : ∀ d, cutX v (i + d) b = none
  | 0 => h
  | d + 1 => by
    show (cutX v (i + d) b).bind _ = none
    rw [cutX_none h d]
    rfl
theorem cutX_bad {v : List Int} {i : Nat} {b r : List UInt8} {X : List ByteArray} {m : Int} (h : cutX v i b = some (X, r)) (hv : v[i]? = some m) (hm : m < 0 ∨ (r.length : Int) < m) {d : Nat} (hd : i < d) : cutX v d b = none := by
  have hg : v.getD i 0 = m := by rw [List.getD_eq_getElem?_getD, hv]; rfl
  have h1 : cutX v (i + 1) b = none := by
    simp only [cutX, h, Option.bind_some, hg]
    rw [if_neg (by omega)]
  have := cutX_none h1 (d - (i + 1))
  rwa [show i + 1 + (d - (i + 1)) = d by omega] at this
theorem cutX_len {v : List Int} : ∀ {i : Nat} {b r : List UInt8} {X : List ByteArray}, cutX v i b = some (X, r) → X.length = i ∧ r.length ≤ b.length
  | 0, b, r, X, h => by cases h; exact ⟨rfl, Nat.le_refl _⟩
  | i + 1, b, r, X, h => by
    unfold cutX at h
    rw [Option.bind_eq_some_iff] at h
    obtain ⟨⟨X0, r0⟩, h1, h2⟩ := h
    split at h2
    · cases h2
      have h3 := cutX_len h1
      refine ⟨by rw [List.length_append, h3.1]; rfl, ?_⟩
      have h4 := h3.2
      simp only [List.length_drop]
      omega
    · cases h2
def mixX (c : Nat) (X : List ByteArray) (i : Nat) (ls : List OpD) : List OpD := mixG (fun j o => o.setX c (X.getD j noText)) i ls
noncomputable def tkX1 (n c : Nat) (p : List OpD × List UInt8) : Option (List OpD × List UInt8) := (decR n none p.2).bind fun t => (cutX t.1 n (p.2.drop t.2)).map fun x => (mixX c x.1 n p.1, x.2)
theorem TKS.setOp {w0 : World} {T g lc i j : Nat} {W : World} {tb : Value} {r : List UInt8} {ls : List OpD} {x y : OpD} {u : Value} (h : TKS w0 T W tb r (.slice (some ⟨g, 0, none⟩) ls.length lc) ls) (hx : ls[i]? = some x) (hj : j < 26) (hy : y.cells = x.cells.set j u) : TKS w0 T (W.setCell ⟨g, i * 26 + j, none⟩ u) tb r (.slice (some ⟨g, 0, none⟩) ls.length lc) (ls.set i y) := by
  have hTg : T ≠ g := fun e => by
    have h1 := h.cell
    obtain ⟨c2, h2⟩ := h.own.tag (b := g) rfl
    rw [e, h2] at h1
    cases h1
  have hgn := (h.own.blk g rfl).1
  have hx1 : Ext (· = g) W (W.setCell ⟨g, i * 26 + j, none⟩ u) := (Ext.refl (· = g) W).setCell (p := ⟨g, i * 26 + j, none⟩) (.inr rfl) _
  exact ⟨(hx1.block T (Array.getElem?_eq_some_iff.1 h.cell).1 hTg).trans h.cell, h.byt, h.own.setAt OpD.len hx hj hy, Ext.new h.bel hx1 (fun k hk _ e => by omega) h.bel.size, h.new, h.fltKeep hx1 (fun e => by
    obtain ⟨c2, h2⟩ := h.own.tag (b := g) rfl
    have h1 := h.flt
    rw [e, h2] at h1
    cases h1)⟩
theorem TKS.setB {w0 : World} {T : Nat} {W : World} {tb tb' tl : Value} {r r' : List UInt8} {ls : List OpD} (h : TKS w0 T W tb r tl ls) (hb : SliceIs u8c 1 w0 tb' r') : TKS w0 T (W.setCell ⟨T, 0, none⟩ tb') tb' r' tl ls := by
  have hx1 : Ext (· = T) W (W.setCell ⟨T, 0, none⟩ tb') := (Ext.refl (· = T) W).setCell (p := ⟨T, 0, none⟩) (.inr rfl) _
  refine ⟨?_, hb, h.own.ext hx1 (fun b hb e => ?_), Ext.new h.bel hx1 (fun k hk _ e => by have := h.new; omega) h.bel.size, h.new, h.fltKeep hx1 (fun e => by omega)⟩
  · rw [heap_setCell_same _ T 0 _ _ _ h.cell]
    rfl
  · have hc := h.cell
    obtain ⟨c1, g1⟩ := h.own.tag hb
    rw [e, hc] at g1
    cases g1
end Go.Proofs.YtgmdimbiipemhaaGreatDoor
