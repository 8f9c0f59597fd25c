/- Contract of (*registers.Registers).All: the block's names and values, by rising names. -/
import Derived.Test.YtkkffnejgbhbmaaRegs
import Derived.Test.YtkkffnejgbhbmaaIter
import Derived.Test.YtkkffnejgbhbmaaRow
import Derived.Test.YtkkffnejgbhbmaaSort
import Derived.Sort.Walk0
import Derived.Deep.LoopGhost
namespace Go.Proofs.Ytkkffnejgbhbmaa
open Go.RowKit Go.Sort Go.Shelf
set_option linter.unusedSimpArgs false
set_option linter.unusedVariables false

/-- A name and its value. -/
structure Atr where
  name : ByteArray
  value : ByteArray
  deriving DecidableEq
instance : Inhabited Atr := ⟨⟨⟨#[]⟩, ⟨#[]⟩⟩⟩
def Atr.cells (x : Atr) : List Value := [.string x.name, .string x.value]

def cmpB (a b : ByteArray) : Int := if Op.bytesLess a.toList b.toList = true then -1 else if (a.toList == b.toList) = true then 0 else 1

set_option maxHeartbeats 400000 in
theorem cmpStr_any (a b : ByteArray) (w : World) :
    Calls Try.prog 22 #[.string a, .string b] w fun e w' => e = .returned (.int .i64 (cmpB a b)) ∧ w = w' := by
  by_cases h1 : Op.bytesLess a.toList b.toList = true
  · go_enter Try.func22, Try.ntmps22
    go_wp2
    go_ret
    exact ⟨by simp [cmpB, h1], rfl⟩
  · have h1 : Op.bytesLess a.toList b.toList = false := by simpa using h1
    by_cases h2 : (a.toList == b.toList) = true
    · go_enter Try.func22, Try.ntmps22
      go_wp2
      go_ret
      exact ⟨by simp [cmpB, h1, h2], rfl⟩
    · have h2 : (a.toList == b.toList) = false := by simpa using h2
      go_enter Try.func22, Try.ntmps22
      go_wp2
      go_ret
      exact ⟨by simp [cmpB, h1, h2], rfl⟩

theorem ltB (a b : ByteArray) : decide (cmpB a b < 0) = decide (a.toList < b.toList) := by
  unfold cmpB
  rw [bytesLess_eq]
  by_cases h : a.toList < b.toList
  · simp [h]
  · simp only [h, decide_false, Bool.false_eq_true, if_false]
    split <;> simp

theorem list_total (a b : List UInt8) (h1 : ¬ a < b) (h2 : ¬ b < a) : a = b := List.le_antisymm h2 h1

theorem swo_name : SWO (ltOf fun x y : Atr => cmpB x.name y.name) where
  irrefl x := by simp only [ltOf, ltB]; simp [List.lt_irrefl]
  trans x y z h1 h2 := by simp only [ltOf, ltB, decide_eq_true_eq] at *; exact List.lt_trans h1 h2
  ntrans x y z h1 h2 := by
    simp only [ltOf, ltB, decide_eq_false_iff_not] at *
    intro h
    exact (List.le_trans h2 h1) h

set_option maxHeartbeats 400000 in
theorem all1_any (x y : Atr) (w : World) :
    Calls Try.prog 21 #[.agg x.cells.toArray, .agg y.cells.toArray] w fun e w' => e = .returned (.int .i64 (cmpB x.name y.name)) ∧ ∃ q os', w' = grow (w.drewN q) os' := by
  unfold Atr.cells
  go_enter Try.func21, Try.ntmps21
  go_wp2_with (go_at_call 22; refine (cmpStr_any _ _ _).mono ?_; rintro e w' ⟨rfl, rfl⟩)
  go_ret
  exact ⟨rfl, 0, _, by rw [alloc_eq_grow, alloc_eq_grow, grow_grow]; rfl⟩

theorem sortAttr_own {base : Nat} {w : World} {v : Value} {l : List Atr} (h : Own Atr.cells 2 45 base w v l) (hl : l.length < 4611686018427387904) :
    Calls Try.prog 20 #[v, .func (.func 21) #[] #[]] w fun e w' => e = .returned (.tuple #[]) ∧ ∃ l', l'.Perm l ∧ l'.Pairwise (fun a b => ltOf (fun x y : Atr => cmpB x.name y.name) b a = false) ∧ Own Atr.cells 2 45 base w' v l' ∧ Ext (fun b => v.ownBlock = some b) w w' := by
  have eg : ∀ args w, (callFunc 21 args).run Try.prog w = .ok (.enter 21 args) w := enters_of Try.func21 (by kernel_rfl) rfl
  refine sort_own (fun _ => rfl) (by omega) (fun blk cap d w hH hb hs => ?_) (fun p cap w => ?_) h hl
  · exact AnyQ.slices_SortFunc Try.sortAttr 2 Try.isAgg45 Try.sizeOf45 Atr.cells (fun _ => rfl) (fun x v hv => by simp [Atr.cells] at hv; rcases hv with rfl | rfl <;> rfl) (fun x y => cmpB x.name y.name) swo_name 21 #[] blk 0 cap d w eg (fun _ _ _ _ x y => all1_any x y _) hH hb hs
  · exact AnyF.slices_SortFunc_none Try.sortAttr p cap _ w

/-- A block's names and values, in no order. -/
def attrsOf (vs : List (Pl × Wr)) (b : St) : List Atr := (vs.filter (fun p => decide (p.1.blk = b))).map (fun p => ⟨p.1.name, p.2.value⟩)

theorem perm_erase {α : Type} {l : List α} {i : Nat} {x : α} (h : l[i]? = some x) : l.Perm (x :: l.eraseIdx i) := by
  induction l generalizing i with
  | nil => simp at h
  | cons y l ih =>
    cases i with
    | zero => simp at h; subst h; simp
    | succ i =>
      simp at h
      exact (List.Perm.cons y (ih h)).trans (List.Perm.swap x y _)

theorem attrsOf_append (a b : List (Pl × Wr)) (s : St) : attrsOf (a ++ b) s = attrsOf a s ++ attrsOf b s := by simp [attrsOf]
theorem attrsOf_perm {a b : List (Pl × Wr)} (h : a.Perm b) (s : St) : (attrsOf a s).Perm (attrsOf b s) := (h.filter _).map _
theorem attrsOf_le (a : List (Pl × Wr)) (s : St) : (attrsOf a s).length ≤ a.length := by simp only [attrsOf, List.length_map]; exact List.length_filter_le _ _

theorem info_attr : (Try.prog.info? 45).map (fun i => (i.zero, i.size, i.bytes)) = some (some (.agg #[.string ⟨#[]⟩, .string ⟨#[]⟩]), 2, 32) := by kernel_rfl

/-- What the loop over the map has at its head. -/
def AllRel (w : World) (B it mv : Nat) (vs : List (Pl × Wr)) (bn br : Int) (k : Nat) (v : Value) (wr : World) : Prop :=
  ∃ left dn cur, (dn ++ left).Perm vs ∧ k = left.length ∧ IterIs Pl.val Wr.val wr it mv vs left cur ∧ Own Atr.cells 2 45 B wr v (attrsOf dn ⟨bn, br⟩) ∧
    wr.cell? ⟨w.heap.size, 0, none⟩ = some (.int .i64 bn) ∧ wr.cell? ⟨w.heap.size, 1, none⟩ = some (.int .i64 br) ∧ Below w.heap.size w wr ∧ B ≤ wr.heap.size

set_option maxHeartbeats 1000000 in
theorem all_any (r mv ma : Nat) (vs : List (Pl × Wr)) (ats : List (St × Bool)) (bn br : Int) (w : World) (h : RegIs w r mv ma vs ats) (hsz : vs.length ≤ 1099511627776) :
    Calls Try.prog 14 #[.pointer (some ⟨r, 0, none⟩), .agg #[.int .i64 bn, .int .i64 br]] w
      fun e w' => ∃ v l, e = .returned v ∧ Own Atr.cells 2 45 w.heap.size w' v l ∧ l.Perm (attrsOf vs ⟨bn, br⟩) ∧ l.Pairwise (fun a b => ltOf (fun x y : Atr => cmpB x.name y.name) b a = false) ∧ Below w.heap.size w w' := by
  obtain ⟨c0, c1, h2, h3, h4⟩ := h
  have d0 := cell_alloc c0 (.cells #[.int .i64 bn, .int .i64 br] 30)
  obtain ⟨w1, hrange, hit, hb1, hz1⟩ := (h2.alloc (.cells #[.int .i64 bn, .int .i64 br] 30)).range (P := Try.prog) und_vals
  have e1 : (w.alloc (.cells #[.int .i64 bn, .int .i64 br] 30)).heap.size = w.heap.size + 1 := by simp
  rw [e1] at hrange hit hz1
  have hmlt : mv < w.heap.size := h2.lt
  obtain ⟨i0, hi, hz0, hz1', hz2⟩ := info_parts info_attr
  have k0 : w1.cell? ⟨w.heap.size, 0, none⟩ = some (.int .i64 bn) := keepB hb1 (by go_simp)
  have k1 : w1.cell? ⟨w.heap.size, 1, none⟩ = some (.int .i64 br) := keepB hb1 (by go_simp)
  have hB1 : Below w.heap.size w w1 := ((Below.refl _ _).alloc (Nat.le_refl _) _).trans (hb1.mono (by simp))
  have HZ := Lib.hid hz1
  clear c0 c1 h2 h3 h4 hz1 hb1
  go_enter Try.func14, Try.ntmps14
  go_wp2_with fail
  go_loopg [5] vs.length (fun k v wr => AllRel w (w.heap.size + 2) (w.heap.size + 1) mv vs bn br k v wr)
  case atStart => exact ⟨vs, [], none, List.Perm.refl _, rfl, hit, Own.nil, k0, k1, hB1, by rw [HZ.out]; exact Nat.le_refl _⟩
  case round =>
    obtain ⟨left, dn, cur, hperm, hk, hiter, hown, q0, q1, hB, hBs⟩ := hrel
    clear hit k0 k1 hB1 hrange d0 e1
    rcases hiter.next (P := Try.prog) (by omega) with ⟨hnil, hnx⟩ | ⟨i, p, w2, hip, hnx, hiter2, hx2, hs2⟩
    · have HK := Lib.hid hk
      have HN := Lib.hid hnil
      clear hk hnil
      go_wp2_with fail
      refine (sortAttr_own hown (by have := attrsOf_le dn ⟨bn, br⟩; have := hperm.length_eq; simp at this; omega)).mono ?_
      rintro e w3 ⟨rfl, l', hl1, hl2, hl3, hx3⟩
      have hb3 : Below w.heap.size w w3 := ⟨hx3.os.trans hB.os, hx3.tape.trans hB.tape, hx3.output.trans hB.output, Nat.le_trans hB.size hx3.size, fun j hj => (hx3.block j (Nat.lt_of_lt_of_le hj hB.size) (fun e => by have := (hown.blk j e).1; omega)).trans (hB.block j hj)⟩
      have hp3 : l'.Perm (attrsOf vs ⟨bn, br⟩) := by
        rw [HN.out, List.append_nil] at hperm
        exact hl1.trans (attrsOf_perm hperm _)
      have X : Hid (∃ v l, Ending.returned u5 = .returned v ∧ Own Atr.cells 2 45 w.heap.size w3 v l ∧ l.Perm (attrsOf vs ⟨bn, br⟩) ∧ l.Pairwise (fun a b => ltOf (fun x y : Atr => cmpB x.name y.name) b a = false) ∧ Below w.heap.size w w3) := ⟨_, l', rfl, hl3.mono (by omega), hp3, hl2, hb3⟩
      clear hp3 hb3 hl1 hl2 hl3 hx3 hown hperm hnx hiter
      go_wp2_with fail
      go_ret
      exact X.out
    · obtain ⟨⟨⟨pn, pr⟩, pname⟩, ⟨⟨xn, xr⟩, xval⟩⟩ := p
      simp only [Pl.val, Wr.val] at hnx
      have hen : ∀ W, IterIs Pl.val Wr.val W (w.heap.size + 1) mv vs (left.eraseIdx i) (some (⟨⟨pn, pr⟩, pname⟩, ⟨⟨xn, xr⟩, xval⟩)) → (Instr.entry (.pointer (some ⟨w.heap.size + 1, 0, none⟩))).run Try.prog W = .ok (.tuple #[.agg #[.int .i64 pn, .int .i64 pr, .string pname], .agg #[.int .i64 xn, .int .i64 xr, .string xval]]) W := fun W hW => hW.entry
      have HK := Lib.hid hk
      have HS := Lib.hid hs2
      have HI := Lib.hid hip
      clear hk hs2 hip
      replace q0 := hx2.keep q0 (by omega)
      replace q1 := hx2.keep q1 (by omega)
      have z0 := cell_lt q0
      have hown2 := hown.ext hx2 (fun b hb e => by have := (hown.blk b hb).1; omega)
      have hB2 : Below w.heap.size w w2 := ⟨hx2.os.trans hB.os, hx2.tape.trans hB.tape, hx2.output.trans hB.output, Nat.le_trans hB.size hx2.size, fun j hj => (hx2.block j (Nat.lt_of_lt_of_le hj hB.size) (by omega)).trans (hB.block j hj)⟩
      have hs2 : w.heap.size + 2 ≤ w2.heap.size := by rw [HS.out]; exact hBs
      have hlen := attrsOf_le dn ⟨bn, br⟩
      have hlen2 := hperm.length_eq
      rw [List.length_append] at hlen2
      have hlen3 : (attrsOf dn ⟨bn, br⟩).length ≤ 1099511627776 := by omega
      have hper2 : ((dn ++ [((⟨⟨pn, pr⟩, pname⟩, ⟨⟨xn, xr⟩, xval⟩) : Pl × Wr)]) ++ left.eraseIdx i).Perm vs := by
        rw [List.append_assoc]
        exact (List.Perm.append_left dn (perm_erase HI.out).symm).trans hperm
      have hk2 : (left.eraseIdx i).length < gk := by
        rw [HK.out, List.length_eraseIdx]
        have := (List.getElem?_eq_some_iff.1 HI.out).1
        rw [if_pos this]; omega
      have HP := Lib.hid hper2
      clear hlen hlen2 hperm hper2 hown hB hiter hx2 hBs
      by_cases hb : pn = bn ∧ pr = br
      · obtain ⟨rfl, rfl⟩ := hb
        have ha : attrsOf (dn ++ [(⟨⟨pn, pr⟩, pname⟩, ⟨⟨xn, xr⟩, xval⟩)]) ⟨pn, pr⟩ = attrsOf dn ⟨pn, pr⟩ ++ [⟨pname, xval⟩] := by rw [attrsOf_append]; simp [attrsOf]
        have HA := Lib.hid ha
        clear ha
        go_wp2_with (at_builtin; refine wpList_append_struct rfl _ _ _ rfl i0 (.agg #[.string ⟨#[]⟩, .string ⟨#[]⟩]) 32 Try.underlying38 hi hz0 hz1' hz2 rfl (by omega) (fun _ => rfl) (fun x u hu => by simp [Atr.cells] at hu; rcases hu with rfl | rfl <;> rfl) rfl (((hown2.alloc _).alloc _).alloc _) ⟨pname, xval⟩ (w2.heap.size + 2) 1 rfl ?_ (by unfold maxLen; omega) (by omega) (by simp; omega) ?_)
        · intro j u hj
          have hju : (j = 0 ∧ u = .string pname) ∨ (j = 1 ∧ u = .string xval) := by
            match j, hj with
            | 0, hj => simp [Atr.cells] at hj; exact .inl ⟨rfl, hj.symm⟩
            | 1, hj => simp [Atr.cells] at hj; exact .inr ⟨rfl, hj.symm⟩
            | n + 2, hj => simp [Atr.cells] at hj
          rcases hju with ⟨rfl, rfl⟩ | ⟨rfl, rfl⟩ <;> go_simp
        · intro v' w3 hown3 hx3
          go_wp2_with fail
          go_roundg (left.eraseIdx i).length
          case measure => exact hk2
          case rel =>
            have hne : ∀ b, u5.ownBlock = some b → w.heap.size + 2 ≤ b := fun b hb => (hown2.blk b hb).1
            refine ⟨left.eraseIdx i, _, _, HP.out, rfl, (((hiter2.alloc _).alloc _).alloc _).ext hx3 (fun e => by have := hne _ e; omega) (fun e => by have := hne _ e; omega), by rw [HA.out]; exact hown3, hx3.keep (cell_alloc (cell_alloc (cell_alloc q0 _) _) _) (fun e => by have := hne _ e; omega), hx3.keep (cell_alloc (cell_alloc (cell_alloc q1 _) _) _) (fun e => by have := hne _ e; omega), ?_, ?_⟩
            · exact Ext.new ((((hB2.alloc (by omega) _).alloc (by simp; omega) _).alloc (by simp; omega) _)) hx3 (fun b hb _ e => by have := hne _ e; omega) (by simp; omega)
            · have := hx3.size; simp at this; omega
      · have ha : attrsOf (dn ++ [((⟨⟨pn, pr⟩, pname⟩, ⟨⟨xn, xr⟩, xval⟩) : Pl × Wr)]) ⟨bn, br⟩ = attrsOf dn ⟨bn, br⟩ := by
          rw [attrsOf_append]
          simp only [attrsOf, List.append_right_eq_self, List.map_eq_nil_iff]
          rw [List.filter_eq_nil_iff]
          intro x hx
          rw [List.mem_singleton.1 hx]
          simp only [decide_eq_true_eq, St.mk.injEq]
          exact hb
        have HA := Lib.hid ha
        clear ha
        by_cases hb1 : pn = bn
        · have hb2 : ¬ pr = br := fun e => hb ⟨hb1, e⟩
          subst hb1
          clear hb
          go_wp2_with fail
          go_roundg (left.eraseIdx i).length
          case measure => exact hk2
          case rel => exact ⟨left.eraseIdx i, _, _, HP.out, rfl, (hiter2.alloc _).alloc _, by rw [HA.out]; exact (hown2.alloc _).alloc _, cell_alloc (cell_alloc q0 _) _, cell_alloc (cell_alloc q1 _) _, (hB2.alloc (by omega) _).alloc (by simp; omega) _, by simp; omega⟩
        · clear hb
          go_wp2_with fail
          go_roundg (left.eraseIdx i).length
          case measure => exact hk2
          case rel => exact ⟨left.eraseIdx i, _, _, HP.out, rfl, (hiter2.alloc _).alloc _, by rw [HA.out]; exact (hown2.alloc _).alloc _, cell_alloc (cell_alloc q0 _) _, cell_alloc (cell_alloc q1 _) _, (hB2.alloc (by omega) _).alloc (by simp; omega) _, by simp; omega⟩

end Go.Proofs.Ytkkffnejgbhbmaa
