/- errors.As at a *fault: contracts. errors.As at a *fault: an error of the taker's is one. batch.Decode: a contract. A contract of stemmaref03.Same. A contract of stemmaref07.Same. A world that meets the rows' condition; what the condition gives. The reading of operations with the ranges of their numbers; of bytes. -/
import Derived.Test.YtgmdimbiipemhaaGreatDoorHeUA
import Derived.WalkKit
import Derived.LaidEql
import Derived.Stop.Asserts
import Derived.RowKitTokens
import Derived.Test.YtgmdimbiipemhaaGreatDoorHeUC
import Derived.Test.YtgmdimbiipemhaaGreatDoorCnv08
import Derived.Deep.DeepCutAuto
import Derived.Test.YtgmdimbiipemhaaGreatDoorEqOp08
import Derived.Test.YtgmdimbiipemhaaGreatDoorRows
import Derived.ProofKit
import Derived.LaidMore
import Derived.OpenShut
import Derived.Stop.Joined
import Derived.Lay
import Derived.LaidHandle
import Derived.LaidLaws
import Derived.Test.YtgmdimbiipemhaaGreatDoorOp08
import Derived.Test.YtgmdimbiipemhaaGreatDoorEncP08
namespace Go.Proofs.YtgmdimbiipemhaaGreatDoor
open Go.RowKit Go.Extern.Stop Go.Stop Go.Extern
set_option linter.unusedSimpArgs false
set_option linter.unusedVariables false
theorem as_nil (t : Value) (w : World) :
    Calls Tryz.prog 52 #[.nilIface, t] w fun e w' => e = .returned (.bool false) ∧ w' = w := by
  go_enter Tryz.func52, Tryz.ntmps52
  go_wp2
  go_ret
  exact ⟨rfl, rfl⟩
theorem Tryz.valueOfP (t : Addr) (w : World) : (ReflectliteValue.unpack (.iface 96 (.pointer (some t)))).run Tryz.prog w
    = .ok (.agg #[.pointer (some ⟨5, 96, none⟩), .pointer (some ⟨w.heap.size, 0, none⟩), .int .u64 150]) (w.alloc (.cells #[.pointer (some t)] 96)) := by kernel_rfl
theorem Tryz.typeP (a : Addr) (w : World) : (ReflectliteValue.methodAny (ReflectliteValue.valueError "reflectlite.Value.Type" 0) (fun t _ _ _ => ReflectliteType.toType t) #[.agg #[.pointer (some ⟨5, 96, none⟩), .pointer (some a), .int .u64 150]]).run Tryz.prog w
    = .ok (.iface 234 (.agg #[.pointer (some ⟨5, 96, none⟩)])) w := by kernel_rfl
theorem Tryz.kindP (w : World) : ((ReflectliteType.abiMethod fun t => (fun a : Nat => Value.int IntKind.u8 (a : Int)) <$> Rtype.kind t) #[.pointer (some ⟨5, 96, none⟩)]).run Tryz.prog w = .ok (.int .u8 22) w := by kernel_rfl
theorem Tryz.kindF (w : World) : ((ReflectliteType.abiMethod fun t => (fun a : Nat => Value.int IntKind.u8 (a : Int)) <$> Rtype.kind t) #[.pointer (some ⟨5, 91, none⟩)]).run Tryz.prog w = .ok (.int .u8 2) w := by kernel_rfl
theorem rlm (z : Sem Value) (f : TypeId → Addr → Nat → Nat → Sem Value) (v : Value) :
    ReflectliteValue.method z f #[v] = (do match ← ReflectliteValue.parts v with | none => z | some (t, a, fl) => f t a fl (fl % 32)) := rfl
theorem Tryz.partsP (a : Addr) (w : World) : (ReflectliteValue.parts (.agg #[.pointer (some ⟨5, 96, none⟩), .pointer (some a), .int .u64 150])).run Tryz.prog w = .ok (some (96, a, 150)) w := by kernel_rfl
theorem Tryz.isNilP (a p : Addr) (W : World) (ha : W.cell? a = some (.pointer (some p))) :
    (ReflectliteValue.method (ReflectliteValue.valueError "reflectlite.Value.IsNil" 0) ReflectliteValue.isNil #[.agg #[.pointer (some ⟨5, 96, none⟩), .pointer (some a), .int .u64 150]]).run Tryz.prog W = .ok (.bool false) W := by
  rw [rlm]
  simp only [Sem.run_bind, Tryz.partsP, Result.andThen]
  simp [ReflectliteValue.isNil, loadVar, isAgg, underlying, Tryz.underlying96, ha, Result.andThen]
theorem Tryz.elemP (w : World) : (ReflectliteType.method ReflectliteType.elem #[.agg #[.pointer (some ⟨5, 96, none⟩)]]).run Tryz.prog w = .ok (.iface 234 (.agg #[.pointer (some ⟨5, 91, none⟩)])) w := by kernel_rfl
theorem Tryz.implementsF (w : World) : (ReflectliteType.relation "Implements" ReflectliteType.implements_ #[.agg #[.pointer (some ⟨5, 91, none⟩)], .iface 234 (.agg #[.pointer (some ⟨5, 94, none⟩)])]).run Tryz.prog w = .ok (.bool true) w := by kernel_rfl
theorem Tryz.typeOfA (v : Value) (w : World) : (ReflectliteType.typeOf #[.iface 187 v]).run Tryz.prog w = .ok (.iface 234 (.agg #[.pointer (some ⟨5, 187, none⟩)])) w := by kernel_rfl
theorem Tryz.typeOfF (v : Value) (w : World) : (ReflectliteType.typeOf #[.iface 91 v]).run Tryz.prog w = .ok (.iface 234 (.agg #[.pointer (some ⟨5, 91, none⟩)])) w := by kernel_rfl
theorem Tryz.assignableA (w : World) : (ReflectliteType.relation "AssignableTo" ReflectliteType.assignableTo #[.agg #[.pointer (some ⟨5, 187, none⟩)], .iface 234 (.agg #[.pointer (some ⟨5, 91, none⟩)])]).run Tryz.prog w = .ok (.bool false) w := by kernel_rfl
theorem Tryz.assignableF (w : World) : (ReflectliteType.relation "AssignableTo" ReflectliteType.assignableTo #[.agg #[.pointer (some ⟨5, 91, none⟩)], .iface 234 (.agg #[.pointer (some ⟨5, 91, none⟩)])]).run Tryz.prog w = .ok (.bool true) w := by kernel_rfl
theorem Tryz.valueOfF (n : Int) (w : World) : (ReflectliteValue.unpack (.iface 91 (.int .i64 n))).run Tryz.prog w
    = .ok (.agg #[.pointer (some ⟨5, 91, none⟩), .pointer (some ⟨w.heap.size, 0, none⟩), .int .u64 130]) (w.alloc (.cells #[.int .i64 n] 91)) := by kernel_rfl
theorem Tryz.elemOfP (w : World) : (Rtype.elem? 96).run Tryz.prog w = .ok (some 91) w := by kernel_rfl
theorem Tryz.mkF (p : Addr) (w : World) : (ReflectliteValue.mk 91 p ReflectliteValue.flagAddr).run Tryz.prog w = .ok (.agg #[.pointer (some ⟨5, 91, none⟩), .pointer (some p), .int .u64 386]) w := by kernel_rfl
theorem Tryz.elemV (a p : Addr) (W : World) (ha : W.cell? a = some (.pointer (some p))) :
    (ReflectliteValue.method (ReflectliteValue.valueError "reflectlite.Value.Elem" 0) ReflectliteValue.elem #[.agg #[.pointer (some ⟨5, 96, none⟩), .pointer (some a), .int .u64 150]]).run Tryz.prog W
      = .ok (.agg #[.pointer (some ⟨5, 91, none⟩), .pointer (some p), .int .u64 386]) W := by
  rw [rlm]
  simp only [Sem.run_bind, Tryz.partsP, Result.andThen]
  simp [ReflectliteValue.elem, loadVar, isAgg, underlying, Tryz.underlying96, ha, Result.andThen, Tryz.elemOfP, Tryz.mkF]
theorem rls (v x : Value) : ReflectliteValue.set #[v, x] = (do
    let (some (dst, a, fl), some (src, b, _)) := (← ReflectliteValue.parts v, ← ReflectliteValue.parts x)
      | unsupported (.noEntry "extern/(internal/reflectlite.Value).Set.zeroValue")
    if fl / ReflectliteValue.flagAddr % 2 == 0 then unsupported (.noEntry "extern/(internal/reflectlite.Value).Set.unaddressable")
    let val ← loadVar src b
    if ← Rtype.directlyAssignable dst src then storeVar dst a val
    else if ← Rtype.implements dst src then
      if (← Rtype.kind src) == 20 then
        match val with
        | .nilIface => unsupported (.noEntry "extern/reflectlite: a nil value of one interface type handed on as a value of another")
        | _ => storeVar dst a val
      else storeVar dst a (.iface src val)
    else panicString ("reflectlite.Set: value of type " ++ (← Rtype.spelt src) ++ " is not assignable to type " ++ (← Rtype.spelt dst))
    pure (.tuple #[])) := rfl
theorem Tryz.partsFa (a : Addr) (w : World) : (ReflectliteValue.parts (.agg #[.pointer (some ⟨5, 91, none⟩), .pointer (some a), .int .u64 386])).run Tryz.prog w = .ok (some (91, a, 386)) w := by kernel_rfl
theorem Tryz.partsF (a : Addr) (w : World) : (ReflectliteValue.parts (.agg #[.pointer (some ⟨5, 91, none⟩), .pointer (some a), .int .u64 130])).run Tryz.prog w = .ok (some (91, a, 130)) w := by kernel_rfl
theorem Tryz.directF (w : World) : (Rtype.directlyAssignable 91 91).run Tryz.prog w = .ok true w := by kernel_rfl
theorem Tryz.setF (ta b : Addr) (n : Int) (old : Value) (W : World) (hb : W.cell? b = some (.int .i64 n)) (ht : W.cell? ta = some old) (hf : W.frozen? ta = false) :
    (ReflectliteValue.set #[.agg #[.pointer (some ⟨5, 91, none⟩), .pointer (some ta), .int .u64 386], .agg #[.pointer (some ⟨5, 91, none⟩), .pointer (some b), .int .u64 130]]).run Tryz.prog W
      = .ok (.tuple #[]) (W.setCell ta (.int .i64 n)) := by
  rw [rls]
  simp only [Sem.run_bind, Tryz.partsFa, Tryz.partsF, Result.andThen]
  simp [ReflectliteValue.flagAddr, loadVar, isAgg, underlying, Tryz.underlying91, hb, Result.andThen, Tryz.directF, storeVar, Value.cells, storeCells, Addr.add]
  rw [run_store Tryz.prog W ta _ _ (by rfl)]
  simp [ht, hf]
theorem missing_one (nm : String) (sg : TypeId) (got : Array Method) (h : (got.any fun m => m.name == nm && m.sig == sg) = false) : ∃ s, Instr.missingMethod #[(nm, sg)] got = some s := by
  unfold Instr.missingMethod
  simp only [List.filter, h, Bool.not_false, List.map]
  cases hc : nm.contains '.' with
  | true => simp [List.partition, List.partition.loop, hc, Instr.least]
  | false => simp [List.partition, List.partition.loop, hc, Instr.least]
theorem Tryz.infoAt : (Tryz.prog.info? 187).map (fun i => i.methods.any fun m => m.name == "As" && m.sig == 241) = some false := by kernel_rfl
theorem Tryz.undAs : Tryz.prog.underlying 239 = some (.interface #[("As", 241)]) := by kernel_rfl
theorem Tryz.zeroAs (w : World) : (zeroValue 239).run Tryz.prog w = .ok .nilIface w := by kernel_rfl
theorem Tryz.noAs (v : Value) (w : World) : (Instr.typeAssert (.iface 187 v) 94 239 true).run Tryz.prog w = .ok (.tuple #[.nilIface, .bool false]) w := by
  obtain ⟨i, hi, hm⟩ : ∃ i, Tryz.prog.info? 187 = some i ∧ (i.methods.any fun m => m.name == "As" && m.sig == 241) = false := by
    have h := Tryz.infoAt
    cases hh : Tryz.prog.info? 187 with
    | none => rw [hh] at h; cases h
    | some i => rw [hh] at h; exact ⟨i, rfl, Option.some.inj h⟩
  obtain ⟨s, hs⟩ := missing_one _ _ _ hm
  have hz := Tryz.zeroAs w
  unfold Instr.typeAssert
  simp [run_underlying Tryz.undAs, typeInfo, hi, hs, hz, Result.andThen]
theorem Tryz.hasUn (v : Value) (w : World) : (Instr.typeAssert (.iface 187 v) 94 242 true).run Tryz.prog w = .ok (.tuple #[.iface 187 v, .bool true]) w := by kernel_rfl
theorem unwrap_any (what : ByteArray) (x : Value) (w : World) : Calls Tryz.prog 250 #[.agg #[.string what, x]] w fun e w' => e = .returned x ∧ w' = w.alloc (.cells #[.string what, x] 187) := by
  go_enter Tryz.func250, Tryz.ntmps250
  go_wp2
  go_ret
  exact ⟨rfl, rfl⟩
theorem Tryz.methodKind (n : Nat) (h : Value) (w : World) : (Go.method (n + 1) 234 (.agg #[h]) "Kind").run Tryz.prog w = .ok (241, h) w := by kernel_rfl
theorem Tryz.methodElem (n : Nat) (h : Value) (w : World) : (Go.method (n + 1) 234 (.agg #[h]) "Elem").run Tryz.prog w = .ok (260, .agg #[h]) w := by kernel_rfl
theorem Tryz.methodImplements (n : Nat) (h : Value) (w : World) : (Go.method (n + 1) 234 (.agg #[h]) "Implements").run Tryz.prog w = .ok (261, .agg #[h]) w := by kernel_rfl
theorem Tryz.methodAssignableTo (n : Nat) (h : Value) (w : World) : (Go.method (n + 1) 234 (.agg #[h]) "AssignableTo").run Tryz.prog w = .ok (258, .agg #[h]) w := by kernel_rfl
theorem Tryz.methodUnwrap (n : Nat) (h : Value) (w : World) : (Go.method (n + 1) 187 h "Unwrap").run Tryz.prog w = .ok (250, h) w := by kernel_rfl
end Go.Proofs.YtgmdimbiipemhaaGreatDoor
namespace Go.Proofs.YtgmdimbiipemhaaGreatDoor
open Go.RowKit Go.Extern.Stop Go.Stop Go.Extern
set_option linter.unusedSimpArgs false
set_option linter.unusedVariables false
set_option maxRecDepth 20000 in
set_option maxHeartbeats 8000000 in
theorem as_in (what : ByteArray) (n : Int) (t : Addr) (A0 : Nat) (old : Value) (w : World) (hA : w.cell? ⟨A0, 0, none⟩ = some (.pointer (some t))) (ht0 : w.cell? t = some old) (hf0 : w.frozen? t = false) :
    Calls Tryz.prog 102 #[.iface 187 (.agg #[.string what, .iface 91 (.int .i64 n)]), .iface 96 (.pointer (some t)), .agg #[.pointer (some ⟨5, 96, none⟩), .pointer (some ⟨A0, 0, none⟩), .int .u64 150], .iface 234 (.agg #[.pointer (some ⟨5, 91, none⟩)])] w fun ev w' => ev = .returned (.bool true) ∧ Ext (· = t.block) w w' := by
  have h6 := @run_callFunc_extern Tryz.prog 99 _ (fun args => ReflectliteValue.unpack (args.getD 0 (.tuple #[]))) Tryz.func99 (by kernel_rfl) (by kernel_rfl) (by kernel_rfl) (by kernel_rfl)
  have h10 := @run_callFunc_extern Tryz.prog 150 _ ReflectliteType.typeOf Tryz.func150 (by kernel_rfl) (by kernel_rfl) (by kernel_rfl) (by kernel_rfl)
  have h35 := @run_callFunc_extern Tryz.prog 258 _ (ReflectliteType.relation "AssignableTo" ReflectliteType.assignableTo) Tryz.func258 (by kernel_rfl) (by kernel_rfl) (by kernel_rfl) (by kernel_rfl)
  have h11 := @run_callFunc_extern Tryz.prog 151 _ (ReflectliteValue.method (ReflectliteValue.valueError "reflectlite.Value.Elem" 0) ReflectliteValue.elem) Tryz.func151 (by kernel_rfl) (by kernel_rfl) (by kernel_rfl) (by kernel_rfl)
  have h12 := @run_callFunc_extern Tryz.prog 152 _ ReflectliteValue.set Tryz.func152 (by kernel_rfl) (by kernel_rfl) (by kernel_rfl) (by kernel_rfl)
  have mA := Tryz.methodAssignableTo
  have mU := Tryz.methodUnwrap
  have tA := Tryz.typeOfA
  have tF := Tryz.typeOfF
  have aA := Tryz.assignableA
  have aF := Tryz.assignableF
  have nA := Tryz.noAs
  have hU := Tryz.hasUn
  have vF := Tryz.valueOfF
  have hAl : A0 < w.heap.size := cell_lt hA
  have htl : t.block < w.heap.size := by
    rcases Nat.lt_or_ge t.block w.heap.size with h | h
    · exact h
    · simp [World.cell?, Array.getElem?_eq_none h] at ht0
  have el := Tryz.elemV ⟨A0, 0, none⟩ t ((w.alloc (.cells #[.pointer (some ⟨5, 96, none⟩), .pointer (some ⟨A0, 0, none⟩), .int .u64 150] 177)).alloc (.cells #[.string what, .iface 91 (.int .i64 n)] 187)) (by rw [World.cell?_alloc_lt _ _ ⟨A0, 0, none⟩ (by simp; omega), World.cell?_alloc_lt _ _ ⟨A0, 0, none⟩ hAl]; exact hA)
  have st := Tryz.setF t ⟨w.heap.size + 1 + 1, 0, none⟩ n old (((w.alloc (.cells #[.pointer (some ⟨5, 96, none⟩), .pointer (some ⟨A0, 0, none⟩), .int .u64 150] 177)).alloc (.cells #[.string what, .iface 91 (.int .i64 n)] 187)).alloc (.cells #[.int .i64 n] 91)) (by rw [World.cell?_alloc_at _ _ _ _ (by simp)]; rfl)
    (by rw [World.cell?_alloc_lt _ _ t (by simp; omega), World.cell?_alloc_lt _ _ t (by simp; omega), World.cell?_alloc_lt _ _ t htl]; exact ht0)
    (by rw [World.frozen?_alloc_old _ _ t (by simp; omega), World.frozen?_alloc_old _ _ t (by simp; omega), World.frozen?_alloc_old _ _ t (Nat.ne_of_lt htl)]; exact hf0)
  clear ht0 hf0 hA
  go_enter Tryz.func102, Tryz.ntmps102
  go_wp2_with fail
  refine wp_loop_rounds 2 ?_
  rw [rounds_succ]
  go_wp2_with (first | (go_at_call 250; refine (unwrap_any what (.iface 91 (.int .i64 n)) _).mono ?_; rintro e w' ⟨rfl, rfl⟩))
  rw [rounds_succ]
  go_wp2_with fail
  go_ret
  refine ⟨rfl, ?_⟩
  exact ((((Ext.refl (· = t.block) w).alloc _).alloc _).alloc _).setCell (p := t) (.inr rfl) _
set_option maxRecDepth 20000 in
set_option maxHeartbeats 8000000 in
theorem as_hit (what : ByteArray) (n : Int) (t : Addr) (old : Value) (w : World) (hg : w.cell? ⟨0, 0, none⟩ = some (.iface 234 (.agg #[.pointer (some ⟨5, 94, none⟩)]))) (ht0 : w.cell? t = some old) (hf0 : w.frozen? t = false) :
    Calls Tryz.prog 52 #[atErr what n, .iface 96 (.pointer (some t))] w fun ev w' => ev = .returned (.bool true) ∧ Ext (· = t.block) w w' := by
  have h6 := @run_callFunc_extern Tryz.prog 99 _ (fun args => ReflectliteValue.unpack (args.getD 0 (.tuple #[]))) Tryz.func99 (by kernel_rfl) (by kernel_rfl) (by kernel_rfl) (by kernel_rfl)
  have h7 := @run_callFunc_extern Tryz.prog 100 _ (ReflectliteValue.methodAny (ReflectliteValue.valueError "reflectlite.Value.Type" 0) (fun t _ _ _ => ReflectliteType.toType t)) Tryz.func100 (by kernel_rfl) (by kernel_rfl) (by kernel_rfl) (by kernel_rfl)
  have h8 := @run_callFunc_extern Tryz.prog 101 _ (ReflectliteValue.method (ReflectliteValue.valueError "reflectlite.Value.IsNil" 0) ReflectliteValue.isNil) Tryz.func101 (by kernel_rfl) (by kernel_rfl) (by kernel_rfl) (by kernel_rfl)
  have h27 := @run_callFunc_extern Tryz.prog 241 _ (ReflectliteType.abiMethod fun t => do pure (.int .u8 (← Rtype.kind t))) Tryz.func241 (by kernel_rfl) (by kernel_rfl) (by kernel_rfl) (by kernel_rfl)
  have h37 := @run_callFunc_extern Tryz.prog 260 _ (ReflectliteType.method ReflectliteType.elem) Tryz.func260 (by kernel_rfl) (by kernel_rfl) (by kernel_rfl) (by kernel_rfl)
  have h38 := @run_callFunc_extern Tryz.prog 261 _ (ReflectliteType.relation "Implements" ReflectliteType.implements_) Tryz.func261 (by kernel_rfl) (by kernel_rfl) (by kernel_rfl) (by kernel_rfl)
  have h10 := @run_callFunc_extern Tryz.prog 150 _ ReflectliteType.typeOf Tryz.func150 (by kernel_rfl) (by kernel_rfl) (by kernel_rfl) (by kernel_rfl)
  have h35 := @run_callFunc_extern Tryz.prog 258 _ (ReflectliteType.relation "AssignableTo" ReflectliteType.assignableTo) Tryz.func258 (by kernel_rfl) (by kernel_rfl) (by kernel_rfl) (by kernel_rfl)
  have h11 := @run_callFunc_extern Tryz.prog 151 _ (ReflectliteValue.method (ReflectliteValue.valueError "reflectlite.Value.Elem" 0) ReflectliteValue.elem) Tryz.func151 (by kernel_rfl) (by kernel_rfl) (by kernel_rfl) (by kernel_rfl)
  have h12 := @run_callFunc_extern Tryz.prog 152 _ ReflectliteValue.set Tryz.func152 (by kernel_rfl) (by kernel_rfl) (by kernel_rfl) (by kernel_rfl)
  have f6 := Tryz.valueOfP
  have f7 := Tryz.typeP
  have k27 := Tryz.kindP
  have k25 := Tryz.kindF
  have e27 := Tryz.elemP
  have i25 := Tryz.implementsF
  have n8 := Tryz.isNilP ⟨w.heap.size, 0, none⟩ t ((w.alloc (.cells #[.pointer (some t)] 96)).alloc (.cells #[.pointer (some ⟨5, 96, none⟩), .pointer (some ⟨w.heap.size, 0, none⟩), .int .u64 150] 177)) (by simp)
  have hlt : 0 < w.heap.size := by
    rcases Nat.eq_zero_or_pos w.heap.size with h0 | h
    · simp [World.cell?, h0] at hg
    · exact h
  have htl : t.block < w.heap.size := by
    rcases Nat.lt_or_ge t.block w.heap.size with h | h
    · exact h
    · simp [World.cell?, Array.getElem?_eq_none h] at ht0
  have hg2 : ((w.alloc (.cells #[.pointer (some t)] 96)).alloc (.cells #[.pointer (some ⟨5, 96, none⟩), .pointer (some ⟨w.heap.size, 0, none⟩), .int .u64 150] 177)).cell? ⟨0, 0, none⟩ = some (.iface 234 (.agg #[.pointer (some ⟨5, 94, none⟩)])) := by
    rw [World.cell?_alloc_lt _ _ ⟨0, 0, none⟩ (by simp), World.cell?_alloc_lt _ _ ⟨0, 0, none⟩ hlt]; exact hg
  have mK := Tryz.methodKind
  have mE := Tryz.methodElem
  have mI := Tryz.methodImplements
  have mA := Tryz.methodAssignableTo
  have mU := Tryz.methodUnwrap
  have tA := Tryz.typeOfA
  have tF := Tryz.typeOfF
  have aA := Tryz.assignableA
  have aF := Tryz.assignableF
  have nA := Tryz.noAs
  have hU := Tryz.hasUn
  have vF := Tryz.valueOfF
  unfold atErr
  go_enter Tryz.func52, Tryz.ntmps52
  go_wp2_with fail
  refine (as_in what n t w.heap.size old _ ?_ ?_ ?_).mono ?_
  · rw [World.cell?_alloc_lt _ _ ⟨w.heap.size, 0, none⟩ (by simp)]; simp
  · rw [World.cell?_alloc_lt _ _ t (by simp; omega), World.cell?_alloc_lt _ _ t htl]; exact ht0
  · rw [World.frozen?_alloc_old _ _ t (by simp; omega), World.frozen?_alloc_old _ _ t (Nat.ne_of_lt htl)]; exact hf0
  rintro e w' ⟨rfl, hx⟩
  have HX : Hid (Ext (· = t.block) w w') := Lib.hid ((((Ext.refl (· = t.block) w).alloc _).alloc _).andThen hx (fun i hi e => e))
  clear hx
  go_wp2_with fail
  go_ret
  exact ⟨rfl, HX.out⟩
end Go.Proofs.YtgmdimbiipemhaaGreatDoor
namespace Go.Proofs.YtgmdimbiipemhaaGreatDoor
open Go.RowKit Go.Deep
set_option linter.unusedSimpArgs false
set_option linter.unusedVariables false
def ErrTy (w : World) : Prop := w.cell? ⟨0, 0, none⟩ = some (.iface 234 (.agg #[.pointer (some ⟨5, 94, none⟩)]))
theorem ErrTy.below {w w' : World} (h : ErrTy w) (hb : Below w.heap.size w w') : ErrTy w' := (hb.cell (p := ⟨0, 0, none⟩) (cell_lt h)).trans h
def DecPost (w : World) (b : List UInt8) (e : Ending) (w' : World) : Prop :=
  (∃ l x, decB b = some l ∧ e = .returned (.tuple #[x, .int .i64 0]) ∧ Own OpD.cells 26 68 w.heap.size w' x l ∧ Below w.heap.size w w') ∨
  (decB b = none ∧ e = .returned (.tuple #[.slice none 0 0, .int .i64 81]) ∧ Below w.heap.size w w')
set_option maxRecDepth 20000 in
set_option maxHeartbeats 1000000 in
theorem decode_any (v : Value) (b : List UInt8) (w : World) (h : SliceIs u8c 1 w v b) (hg : ErrTy w) : Calls Tryz.prog 14 #[v] w fun e w' => DecPost w b e w' := by
  obtain ⟨a, cap, rfl, hcap, hmax, -⟩ := id h
  obtain ⟨W, hW⟩ : ∃ W, (w.alloc (.cells #[.slice a b.length cap, .slice none 0 0] 90)).alloc (.cells #[.int .i64 0] 91) = W := ⟨_, rfl⟩
  have HK : Hid (TKS w w.heap.size W (.slice a b.length cap) b (.slice none 0 0) []) := Lib.hid (by
    have hb : Below w.heap.size w W := by rw [← hW]; exact ((Below.refl _ _).alloc (Nat.le_refl _) _).alloc (by simp) _
    refine ⟨?_, h, Own.nil, hb, Nat.le_refl _, ?_⟩
    · rw [← hW]; exact (Below.heap_alloc _ _ _ (by simp)).trans (heap_new8 w _)
    · rw [← hW]
      have := heap_new8 (w.alloc (.cells #[.slice a b.length cap, .slice none 0 0] 90)) (.cells #[.int .i64 0] 91)
      rwa [World.size_alloc] at this)
  have HG := Lib.hid hg
  clear h hg
  go_enter Tryz.func14, Tryz.ntmps14
  go_wp2_with fail
  clear hW
  refine (takeall_any w w.heap.size W _ b HK.out).mono ?_
  rintro e w3 (⟨l, tb', tl, hdec, rfl, hk⟩ | ⟨hdec, ⟨s, m, rfl⟩, hb⟩)
  · obtain ⟨⟨la, ln, lc⟩, el⟩ := hk.own.sl
    dsimp only at el
    subst el
    have hc := hk.cell
    have c1 : w3.cell? ⟨w.heap.size, 1, none⟩ = some (.slice la ln lc) := by simp [World.cell?, hc]
    have HKK := Lib.hid hk
    clear hk hc
    go_wp2_with fail
    refine (as_nil _ _).mono ?_
    rintro e w4 ⟨rfl, rfl⟩
    go_wp2_with fail
    go_ret2
    exact Or.inl ⟨_, _, hdec, rfl, HKK.out.own, HKK.out.bel⟩
  · have HB := Lib.hid hb
    clear hb
    go_wp2_with fail
    refine (as_hit s m ⟨w.heap.size + 1, 0, none⟩ (.int .i64 0) w3 (HG.out.below HB.out.1) (cell_of_one HB.out.2) (free_of_one HB.out.2)).mono ?_
    rintro e w5 ⟨rfl, hx⟩
    have HBB : Hid (Below w.heap.size w w5) := Lib.hid (Ext.new HB.out.1 hx (fun k hk _ e => by dsimp only at e; omega) HB.out.1.size)
    clear hx
    go_wp2_with fail
    go_ret2
    exact Or.inr ⟨hdec, rfl, HBB.out⟩
end Go.Proofs.YtgmdimbiipemhaaGreatDoor
namespace Go.Proofs.YtgmdimbiipemhaaGreatDoor
open Go.RowKit Go.Deep
set_option linter.unusedSimpArgs false
set_option linter.unusedVariables false
set_option maxRecDepth 20000 in
set_option maxHeartbeats 1000000 in
theorem sameB_any {w : World} {v1 v2 : Value} {l1 l2 : List UInt8} (h1 : SliceIs u8c 1 w v1 l1) (h2 : SliceIs u8c 1 w v2 l2) :
    Calls Tryz.prog 17 #[v1, v2] w fun e w' => e = .returned (.bool (decide (l1 = l2))) ∧ w' = w := by
  have c1 := conv_bytes h1
  have c2 := conv_bytes h2
  obtain ⟨a1, k1, rfl, _⟩ := id h1
  obtain ⟨a2, k2, rfl, _⟩ := id h2
  clear h1 h2
  by_cases he : l1 = l2
  · subst he
    go_enter Tryz.func17, Tryz.ntmps17
    go_wp2
    go_ret
    exact ⟨by simp, rfl⟩
  · have hn : (⟨l1.toArray⟩ : ByteArray) ≠ ⟨l2.toArray⟩ := fun e => he (by cases e; rfl)
    obtain ⟨n1, n2⟩ := str_ne he
    have hd : decide (l1 = l2) = false := decide_eq_false he
    go_enter Tryz.func17, Tryz.ntmps17
    go_wp2
    go_ret
    exact ⟨by first | (rw [hd]; rfl) | simp [he, n1, n2], rfl⟩
end Go.Proofs.YtgmdimbiipemhaaGreatDoor
namespace Go.Proofs.YtgmdimbiipemhaaGreatDoor
open Go.RowKit Go.Deep
set_option linter.unusedSimpArgs false
set_option linter.unusedVariables false
theorem op_neq {P : Program} {o : Oper} {ρ : Operand → Value} {T T' : TypeId} {x y : Operand} {A B : Array Value} {v : Value} {W : World} (ho : o.op = .binOp .neq T x y T') (hx : ρ x = .agg A) (hy : ρ y = .agg B)
    (hg : P.eqGuardType P.depth T = false) (h : (binOp .neq T (.agg A) (.agg B)).run P W = .ok v W) : (execOp ρ o).run P W = .ok (.value v) W := by
  unfold execOp
  simp only [ho, hx, hy, eqGuard, Sem.run_bind, Sem.run_pure, Result.andThen_ok]
  simp [hg, h, Result.andThen]
theorem take_same {α : Type} {a b : List α} {k : Nat} {x : α} (h : a.take k = b.take k) (ha : a[k]? = some x) (hb : b[k]? = some x) : a.take (k + 1) = b.take (k + 1) := by
  rw [List.take_add_one, List.take_add_one, h, ha, hb]
set_option maxRecDepth 20000 in
set_option maxHeartbeats 1000000 in
theorem same7_any (va vb : Value) (la lb : List OpD) (w : World) (ha : SliceIs OpD.cells 26 w va la) (hb : SliceIs OpD.cells 26 w vb lb) :
    Calls Tryz.prog 16 #[va, vb] w fun e w' => e = .returned (.bool (decide (la = lb))) ∧ Below w.heap.size w w' := by
  obtain ⟨aa, ca, rfl, hca, hma, -⟩ := id ha
  obtain ⟨ab, cb, rfl, hcb, hmb, -⟩ := id hb
  unfold maxLen at hma hmb
  by_cases hl : la.length = lb.length
  · obtain ⟨n, hna⟩ : ∃ n, la.length = n := ⟨_, rfl⟩
    have hnb : lb.length = n := by rw [← hl]; exact hna
    rw [hna] at ha hca ⊢
    rw [hnb] at hb hcb ⊢
    have HA := Lib.hid ha
    have HB := Lib.hid hb
    have HL := Lib.hid (And.intro hna hnb)
    clear ha hb hl hna hnb
    go_enter Tryz.func16, Tryz.ntmps16
    go_wp2_with fail
    go_loopg [5] n (fun g kv wx => ∃ k : Nat, g = n - k ∧ kv = .int .i64 k ∧ k ≤ n ∧ Hid (la.take k = lb.take k ∧ Below w.heap.size w wx))
    case atStart => exact ⟨0, rfl, rfl, Nat.zero_le _, Lib.hid ⟨rfl, Below.refl _ _⟩⟩
    case round =>
      obtain ⟨k, hg, rfl, hk, HR⟩ := hrel
      have HG := Lib.hid hg
      clear hg
      by_cases hlt : k < n
      · have hk1 : (k : Int) < (n : Int) := by omega
        have hk0 : (0 : Int) ≤ (k : Int) := by omega
        obtain ⟨x, hx⟩ : ∃ x, la[k]? = some x := ⟨_, List.getElem?_eq_getElem (by rw [HL.out.1]; exact hlt)⟩
        obtain ⟨y, hy⟩ : ∃ y, lb[k]? = some y := ⟨_, List.getElem?_eq_getElem (by rw [HL.out.2]; exact hlt)⟩
        have hsa := HA.out.below HR.out.2
        have hsb := HB.out.below HR.out.2
        obtain ⟨b1, o1, rfl⟩ := hsa.some8 (by intro e; have h := HL.out.1; rw [e] at h; simp at h; omega)
        obtain ⟨b2, o2, rfl⟩ := hsb.some8 (by intro e; have h := HL.out.2; rw [e] at h; simp at h; omega)
        have hSW : (fun W : World => SliceIs OpD.cells 26 W (.slice (some ⟨b1, o1, none⟩) n ca) la ∧ SliceIs OpD.cells 26 W (.slice (some ⟨b2, o2, none⟩) n cb) lb) wr.drew := ⟨hsa.below (Below.refl _ _).drew, hsb.below (Below.refl _ _).drew⟩
        have hq := run_neq_op x y
        unfold OpD.val at hq
        have HX := Lib.hid (And.intro hx (And.intro hy hq))
        clear hsa hsb hx hy hq
        go_upto_region 6 with fail
        refine wp_region_s (fun W : World => SliceIs OpD.cells 26 W (.slice (some ⟨b1, o1, none⟩) n ca) la ∧ SliceIs OpD.cells 26 W (.slice (some ⟨b2, o2, none⟩) n cb) lb) (fun _ => false) (by kernel_rfl) ?_
        have HR1 : Hid (Below w.heap.size w wr.drew) := Lib.hid HR.out.2.drew
        generalize wr.drew = W1 at hSW HR1 ⊢
        refine wpAnyS_take (i := 0) (d := some 17) rfl rfl rfl (by kernel_rfl) (by kernel_rfl) (by kernel_rfl) (by kernel_rfl) (fun _ _ _ h => h) (.inl ⟨by rfl, fun W hW => by go_simp; try rfl⟩) hSW ?_
        try simp only [Act.put, List.setIfInBounds_toArray, List.set_cons_zero, List.set_cons_succ]
        refine wpAnyS_take (i := 1) (d := some 18) (v := .int .i64 k) rfl rfl rfl (by kernel_rfl) (by kernel_rfl) (by kernel_rfl) (by kernel_rfl) (fun _ _ _ h => h) (.inl ⟨by rfl, fun W hW => by go_simp; try rfl⟩) hSW ?_
        try simp only [Act.put, List.setIfInBounds_toArray, List.set_cons_zero, List.set_cons_succ]
        refine wpAnyS_take (i := 2) (d := some 19) (v := .pointer (some ⟨b1, o1 + k * 26, none⟩)) rfl rfl rfl (by kernel_rfl) (by kernel_rfl) (by kernel_rfl) (by kernel_rfl) (fun _ _ _ h => h) (.inl ⟨by rfl, fun W hW => by go_simp; try rfl⟩) hSW ?_
        try simp only [Act.put, List.setIfInBounds_toArray, List.set_cons_zero, List.set_cons_succ]
        refine wpAnyS_take (i := 3) (d := some 20) (v := .agg x.cells.toArray) rfl rfl rfl (by kernel_rfl) (by kernel_rfl) (by kernel_rfl) (by kernel_rfl) (fun _ _ _ h => h) (.inl ⟨by rfl, fun W hW => by exact exec_load rfl rfl (sl_load hW.1 HX.out.1)⟩) hSW ?_
        try simp only [Act.put, List.setIfInBounds_toArray, List.set_cons_zero, List.set_cons_succ]
        refine wpAnyS_take (i := 4) (d := some 21) rfl rfl rfl (by kernel_rfl) (by kernel_rfl) (by kernel_rfl) (by kernel_rfl) (fun _ _ _ h => h) (.inl ⟨by rfl, fun W hW => by go_simp; try rfl⟩) hSW ?_
        try simp only [Act.put, List.setIfInBounds_toArray, List.set_cons_zero, List.set_cons_succ]
        refine wpAnyS_take (i := 5) (d := some 22) (v := .int .i64 k) rfl rfl rfl (by kernel_rfl) (by kernel_rfl) (by kernel_rfl) (by kernel_rfl) (fun _ _ _ h => h) (.inl ⟨by rfl, fun W hW => by go_simp; try rfl⟩) hSW ?_
        try simp only [Act.put, List.setIfInBounds_toArray, List.set_cons_zero, List.set_cons_succ]
        refine wpAnyS_take (i := 6) (d := some 23) (v := .pointer (some ⟨b2, o2 + k * 26, none⟩)) rfl rfl rfl (by kernel_rfl) (by kernel_rfl) (by kernel_rfl) (by kernel_rfl) (fun _ _ _ h => h) (.inl ⟨by rfl, fun W hW => by go_simp; try rfl⟩) hSW ?_
        try simp only [Act.put, List.setIfInBounds_toArray, List.set_cons_zero, List.set_cons_succ]
        refine wpAnyS_take (i := 7) (d := some 24) (v := .agg y.cells.toArray) rfl rfl rfl (by kernel_rfl) (by kernel_rfl) (by kernel_rfl) (by kernel_rfl) (fun _ _ _ h => h) (.inl ⟨by rfl, fun W hW => by exact exec_load rfl rfl (sl_load hW.2 HX.out.2.1)⟩) hSW ?_
        try simp only [Act.put, List.setIfInBounds_toArray, List.set_cons_zero, List.set_cons_succ]
        refine wpAnyS_take (i := 8) (d := some 25) (v := .bool (!decide (x = y))) rfl rfl rfl (by kernel_rfl) (by kernel_rfl) (by kernel_rfl) (by kernel_rfl) (fun _ _ _ h => h) (.inl ⟨by rfl, fun W hW => by exact op_neq rfl rfl rfl guard_op (HX.out.2.2 W)⟩) hSW ?_
        try simp only [Act.put, List.setIfInBounds_toArray, List.set_cons_zero, List.set_cons_succ]
        refine wpAnyS_done (by kernel_rfl) ?_ _
        clear hSW
        by_cases he : x = y
        · subst he
          have HN : Hid (la.take (k + 1) = lb.take (k + 1) ∧ Below w.heap.size w W1) := Lib.hid ⟨take_same HR.out.1 HX.out.1 HX.out.2.1, HR1.out⟩
          clear HR HR1
          simp only [decide_true, Bool.not_true]
          go_wp2_with fail
          go_roundg (n - (k + 1))
          case measure => rw [HG.out]; omega
          case rel => exact ⟨k + 1, rfl, by simp, by omega, HN⟩
        · have hne : decide (la = lb) = false := decide_eq_false (by
            rintro rfl
            have h1 := HX.out.1.symm.trans HX.out.2.1
            exact he (Option.some.inj h1))
          have HNE := Lib.hid hne
          clear hne
          simp only [decide_eq_false he, Bool.not_false]
          go_wp2_with fail
          go_ret
          exact ⟨by rw [HNE.out]; rfl, HR1.out⟩
      · obtain rfl : k = n := by omega
        have hk1 : ¬ (k : Int) < (k : Int) := by omega
        have he : la = lb := by
          have h := HR.out.1
          rwa [List.take_of_length_le (by rw [HL.out.1]; exact Nat.le_refl _), List.take_of_length_le (by rw [HL.out.2]; exact Nat.le_refl _)] at h
        have hne : decide (la = lb) = true := decide_eq_true he
        have HNE := Lib.hid hne
        clear hne he
        go_wp2_with fail
        go_ret
        exact ⟨by rw [HNE.out]; rfl, HR.out.2⟩
  · have hl1 : ¬ (la.length : Int) = (lb.length : Int) := by omega
    have hne : decide (la = lb) = false := decide_eq_false (fun e => hl (by rw [e]))
    have HNE := Lib.hid hne
    clear hne ha hb
    go_enter Tryz.func16, Tryz.ntmps16
    go_wp2_with fail
    go_ret
    exact ⟨by rw [HNE.out]; rfl, Below.refl _ _⟩
end Go.Proofs.YtgmdimbiipemhaaGreatDoor
namespace Go.Proofs.YtgmdimbiipemhaaGreatDoor
open Go.ChangeShapes Go.WideShapes Go.ChangeAt Go.RowKit
set_option linter.unusedSimpArgs false
set_option linter.unusedVariables false
def laidD : List (String × DataW Unit) := [("unicode/utf8.acceptRanges", Rows.laid_unicode_utf8_acceptRanges), ("unicode/utf8.first", Rows.laid_unicode_utf8_first)]
def laidE : List (String × DataW Unit) := [("errors.errorType", Rows.laid_errors_errorType)]
def laidL : List (String × DataW Unit) := [("unicode/utf8.acceptRanges", Rows.laid_unicode_utf8_acceptRanges), ("errors.errorType", Rows.laid_errors_errorType), ("unicode/utf8.first", Rows.laid_unicode_utf8_first)]
theorem laid_data : (laidL.filter fun x => x.2.handleName?.isNone) = laidD := by kernel_rfl
theorem laid_hand : (laidL.filter fun x => x.2.handleName?.isSome) = laidE := by kernel_rfl
theorem Tryz.et : Tryz.prog.globalNamed "errors.errorType" = some 0 := by kernel_rfl
theorem Tryz.rt : (Tryz.prog.cutTypes.find? (·.1 == "internal/reflectlite.rtype")).map (·.2) = some 234 := by kernel_rfl
theorem Tryz.oneRow : ((List.range Tryz.prog.types.size).filter fun t => Tryz.prog.rowNamed t [101, 114, 114, 111, 114]) = [94] := by kernel_rfl
theorem errTy_of_laid {W : World} (h : laidMetH Tryz.prog laidL W) : ErrTy W := by
  have h2 : handlesMet Tryz.prog laidE W := by
    unfold laidMetH at h
    rw [laid_hand, laid_data] at h
    exact h.2
  obtain ⟨name, u, ty, e1, e2, e3, e4, e5⟩ := h2 _ (List.mem_singleton.2 rfl)
  have en : name = [101, 114, 114, 111, 114] := (Option.some.inj e1).symm
  subst en
  obtain rfl := Option.some.inj (Tryz.rt.symm.trans e2)
  have hm : ty ∈ (List.range Tryz.prog.types.size).filter fun t => Tryz.prog.rowNamed t [101, 114, 114, 111, 114] := List.mem_filter.2 ⟨List.mem_range.2 e3, e4⟩
  rw [Tryz.oneRow] at hm
  obtain rfl := List.mem_singleton.1 hm
  have hh : typeHandle Tryz.prog 94 = .pointer (some ⟨5, 94, none⟩) := by kernel_rfl
  rw [hh] at e5
  unfold ErrTy
  simpa using World.var?_cell Tryz.et e5 0
noncomputable def worldE (os : Os) : World :=
  let w0 := World.holding Tryz.prog os ⟨#[], #[], []⟩
  { w0 with heap := w0.heap.modify 0 fun
      | .cells _ t frozen => .cells #[.iface 234 (.agg #[.pointer (some ⟨5, 94, none⟩)])] t frozen
      | o => o }
noncomputable def worldL (os : Os) : World := (worldE os).layVars Tryz.prog laidD
theorem worldL_os (os : Os) : (worldL os).os = os := World.layVars_os _ _ _
theorem worldL_met (os : Os) (args : Array Value) : laidMetH Tryz.prog laidL ((worldL os).forCall (fun _ _ => 0) ⟨#[], args, []⟩).memory := by
  refine laidMetH_of_parts ?_ (by rw [laid_hand]; kernel_rfl)
  rw [laid_data]
  have e1 : (laidD.filter fun x => (laidD.map (·.1)).contains x.1) = laidD := List.filter_eq_self.2 fun x hx => List.contains_iff_mem.2 (List.mem_map.2 ⟨x, hx, rfl⟩)
  have e2 : (laidD.filter fun x => !(laidD.map (·.1)).contains x.1) = [] := List.filter_eq_nil_iff.2 fun x hx => by rw [List.contains_iff_mem.2 (List.mem_map.2 ⟨x, hx, rfl⟩)]; simp
  have h : laidMet Tryz.prog laidD (worldL os) := laidMet_layVars (w0 := worldE os) (laidD.map (·.1)) [] (by rw [e1]; rfl) (by rw [e1]; kernel_rfl) (by rw [e1]; kernel_rfl) (by rw [e2]; exact LaidIn.none)
  exact h.of_heap (by simp [World.memory, World.forCall, Input.heap])
end Go.Proofs.YtgmdimbiipemhaaGreatDoor
namespace Go.Proofs.YtgmdimbiipemhaaGreatDoor
open Go.ChangeShapes Go.WideShapes Go.RowKit Go.Deep
set_option linter.unusedSimpArgs false
set_option linter.unusedVariables false
section
variable {H : Type} {enc : TypeId × Value → H} {P : Program} {w : World} {base : Nat} {spare : Nat → Bool} {held : Bool}
theorem open_slice_p {α : Type} {ea : α → List Value} {k : Nat} {t e : TypeId} {fuel : Nat} {cs : List Value} {x : DataW H × List MemPlace} {p : α → Prop} (ht : P.underlying t = some (.slice e)) (hk : P.cellsOf e = k) (hk0 : 0 < k) (hlen : ∀ x, (ea x).length = k)
    (hel : ∀ fuel cs x, DataW.trod enc P w base spare held fuel e cs = some x → ∃ y, cs = ea y ∧ p y) (h : DataW.trod enc P w base spare held fuel t cs = some x) : ∃ v l, cs = [v] ∧ SliceIs ea k w v l ∧ ∀ y ∈ l, p y := by
  rcases open_slice ht h with ⟨hcs, _⟩ | ⟨a, len0, cap0, m, n, D, Pl, hcs, hb, hl, hm, hmm, hx, hi⟩
  · exact ⟨_, [], hcs, ⟨none, 0, rfl, Nat.le_refl _, Nat.zero_le _, fun hn => absurd rfl hn⟩, fun y hy => by cases hy⟩
  · have hlm : len0 ≤ m := by rw [hmm]; split <;> omega
    obtain ⟨l, h1, h2⟩ := list_of_all (p := fun i (x : α) => (∀ j u, (ea x)[j]? = some u → w.cell? (a.add (i * k + j)) = some u) ∧ p x) len0 (fun i hi' => by
      obtain ⟨cs', hc, ht'⟩ := hi i (by omega)
      obtain ⟨y, rfl, hp⟩ := hel _ _ _ ht'
      refine ⟨y, fun j u hj => ?_, hp⟩
      obtain ⟨_, hcl, hat⟩ := World.cells?_some hc
      have hjl := (List.getElem?_eq_some_iff.1 hj).1
      rw [hlen] at hjl
      have := hat j (by rw [hk]; exact hjl)
      rw [hk, Go.Deep.add_add, hj] at this
      exact this)
    subst h1
    refine ⟨_, l, hcs, ⟨some a, cap0, rfl, hl, hm, fun hne => ?_⟩, fun y hy => ?_⟩
    · obtain ⟨x0, hx0⟩ : ∃ x0, l[0]? = some x0 := by
        cases l with
        | nil => exact absurd rfl hne
        | cons x r => exact ⟨x, rfl⟩
      obtain ⟨u0, hu0⟩ : ∃ u0, (ea x0)[0]? = some u0 := by
        have := hlen x0
        cases hq : ea x0 with
        | nil => rw [hq] at this; simp at this; omega
        | cons x r => exact ⟨x, rfl⟩
      have hz := (h2 0 x0 hx0).1 0 u0 hu0
      obtain ⟨b, off, spot⟩ := a
      have hspot : spot = none := by
        simp [Addr.add, World.cell?] at hz
        cases spot with
        | none => rfl
        | some s => simp at hz; split at hz <;> simp at hz
      subst hspot
      refine ⟨b, off, rfl, fun i x hi' j u hj => ?_⟩
      have := (h2 i x hi').1 j u hj
      have e : (Addr.add ⟨b, off, none⟩ (i * k + j)) = ⟨b, off + i * k + j, none⟩ := by
        unfold Addr.add
        split
        · rename_i h0; have : i * k = 0 ∧ j = 0 := by omega
          simp [this.1, this.2]
        · simp [Nat.add_assoc]
      rw [e] at this
      exact this
    · obtain ⟨i, hi'⟩ := List.getElem?_of_mem hy
      exact (h2 i y hi').2
end
section
variable {H : Type} {enc : TypeId × Value → H} {w : World} {base : Nat} {spare : Nat → Bool} {held : Bool}
theorem trod_u8 {fuel : Nat} {cs : List Value} {x : DataW H × List MemPlace} (h : DataW.trod enc Tryz.prog w base spare held fuel 5 cs = some x) : ∃ y : UInt8, cs = u8c y ∧ True := by
  obtain ⟨p, hp, _, hw⟩ := DataW.trod_int (k := .u8) (by kernel_rfl : Tryz.prog.underlying 5 = some (.int .u8)) h
  have hb : 0 ≤ p ∧ p < 256 := by
    have e1 : IntKind.u8.min = 0 := by decide
    have e2 : IntKind.u8.max = 255 := by decide
    simp [Lit.wf, e1, e2] at hw
    omega
  refine ⟨UInt8.ofNat p.toNat, ?_, trivial⟩
  rw [hp, u8c]
  congr 2
  simp
  omega
set_option maxRecDepth 100000 in
theorem open_bytes8 {r : Reach} {b0 : Nat} {v : Value} {d : DataW H} {p : List MemPlace} (hv : Value.okWide Tryz.prog w r b0 22 v) (h : DataW.Trod enc Tryz.prog w base spare held 22 v d p) : ∃ l, SliceIs u8c 1 w v l := by
  obtain ⟨a0, len0, cap0, rfl⟩ := okWide_slice Tryz.underlying22 hv
  obtain ⟨fuel, hf⟩ := h
  obtain ⟨v', l, hcs, hl, hp⟩ := open_slice_p (ea := u8c) (k := 1) (p := fun _ => True) Tryz.underlying22 (by kernel_rfl) (by omega) u8c_len (fun _ _ _ h => trod_u8 h) hf
  simp [Value.cells] at hcs
  subst hcs
  exact ⟨l, hl⟩
end
end Go.Proofs.YtgmdimbiipemhaaGreatDoor
