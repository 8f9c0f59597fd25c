/- Layer 14: All: the blocks that hang somewhere, by their stamps. -/
import Derived.Test.YtilonmpcifohiaaKeySort14
import Derived.Test.YtilonmpcifohiaaDelete14
import Derived.Test.YtilonmpcifohiaaTree14
import Derived.Test.YtilonmpcifohiaaIter
import Derived.Test.YtilonmpcifohiaaSortOwn
import Derived.Test.YtilonmpcifohiaaSort
import Derived.Sort.Walk0
import Derived.Deep.LoopGhost
namespace Go.Proofs.Ytilonmpcifohiaa
open Go.RowKit Go.Sort Go.Shelf
set_option linter.unusedSimpArgs false
set_option linter.unusedVariables false

set_option maxHeartbeats 400000 in
theorem compare_grow (a b c d : Int) (w : World) :
    Calls Try.prog 13 #[.agg #[.int .i64 a, .int .i64 b], .agg #[.int .i64 c, .int .i64 d]] w
      fun e w' => e = .returned (.int .i64 (cmpS ⟨a, b⟩ ⟨c, d⟩)) ∧ ∃ os', w' = grow w os' := by
  by_cases h1 : (cmpI a c != 0) = true
  · go_enter Try.func13, Try.ntmps13
    go_wp2_with (go_at_call 26; refine (cmpInt_any _ _ _).mono ?_; rintro e w' ⟨rfl, rfl⟩)
    go_ret
    exact ⟨by simp [cmpS, h1], _, by rw [alloc_eq_grow, alloc_eq_grow, grow_grow]⟩
  · have h1 : (cmpI a c != 0) = false := by simpa using h1
    go_enter Try.func13, Try.ntmps13
    go_wp2_with (go_at_call 26; refine (cmpInt_any _ _ _).mono ?_; rintro e w' ⟨rfl, rfl⟩)
    go_ret
    exact ⟨by simp [cmpS, h1], _, by rw [alloc_eq_grow, alloc_eq_grow, grow_grow]⟩

theorem swo_block : SWO (ltOf fun x y : Ch => cmpS x.block y.block) where
  irrefl x := by simp only [ltOf, decide_eq_false_iff_not]; exact fun h => stLt_irrefl _ ((cmpS_lt _ _).1 h)
  trans x y z h1 h2 := by simp only [ltOf, decide_eq_true_eq] at *; exact (cmpS_lt _ _).2 (stLt_trans ((cmpS_lt _ _).1 h1) ((cmpS_lt _ _).1 h2))
  ntrans x y z h1 h2 := by
    simp only [ltOf, decide_eq_false_iff_not] at *
    intro h
    have h3 := (cmpS_lt _ _).1 h
    rcases stLt_total x.block y.block with t | t | t
    · exact h1 ((cmpS_lt _ _).2 t)
    · rw [t] at h3; exact h2 ((cmpS_lt _ _).2 h3)
    · exact h2 ((cmpS_lt _ _).2 (stLt_trans t h3))

set_option maxHeartbeats 400000 in
theorem allcmp_any (x y : Ch) (w : World) :
    Calls Try.prog 36 #[.agg x.cells.toArray, .agg y.cells.toArray] w fun e w' => e = .returned (.int .i64 (cmpS x.block y.block)) ∧ ∃ q os', w' = grow (w.drewN q) os' := by
  unfold Ch.cells
  go_enter Try.func36, Try.ntmps36
  go_wp2_with fail
  refine (compare_grow _ _ _ _ _).mono ?_
  rintro e w' ⟨rfl, os', rfl⟩
  go_wp2_with fail
  go_ret
  exact ⟨rfl, 0, _, by rw [alloc_eq_grow, alloc_eq_grow, grow_grow, grow_grow]; rfl⟩

theorem sortChild_own {base : Nat} {w : World} {v : Value} {l : List Ch} (h : Own Ch.cells 5 36 base w v l) (hl : l.length < 4611686018427387904) :
    Calls Try.prog 35 #[v, .func (.func 36) #[] #[]] w fun e w' => e = .returned (.tuple #[]) ∧ ∃ l', l'.Perm l ∧ l'.Pairwise (fun a b => ltOf (fun x y : Ch => cmpS x.block y.block) b a = false) ∧ Own Ch.cells 5 36 base w' v l' ∧ Ext (fun b => v.ownBlock = some b) w w' := by
  have eg : ∀ args w, (callFunc 36 args).run Try.prog w = .ok (.enter 36 args) w := enters_of Try.func36 (by kernel_rfl) rfl
  refine sort_own (fun _ => rfl) (by omega) (fun blk cap d w hH hb hs => ?_) (fun p cap w => ?_) h hl
  · exact AnyQ.slices_SortFunc Try.sortChild 5 Try.isAgg36 Try.sizeOf36 Ch.cells (fun _ => rfl) (fun x v hv => by simp [Ch.cells] at hv; rcases hv with rfl | rfl | rfl | rfl | rfl <;> rfl) (fun x y => cmpS x.block y.block) swo_block 36 #[] blk 0 cap d w eg (fun _ _ _ _ x y => allcmp_any x y _) hH hb hs
  · exact AnyF.slices_SortFunc_none Try.sortChild p cap _ w

theorem perm_erase {α : Type} {l : List α} {i : Nat} {x : α} (h : l[i]? = some x) : l.Perm (x :: l.eraseIdx i) := by
  induction l generalizing i with
  | nil => simp at h
  | cons y l ih =>
    cases i with
    | zero => simp at h; subst h; simp
    | succ i =>
      simp at h
      exact (List.Perm.cons y (ih h)).trans (List.Perm.swap x y _)

theorem info_child : (Try.prog.info? 36).map (fun i => (i.zero, i.size, i.bytes)) = some (some (.agg #[.int .i64 0, .int .i64 0, .int .i64 0, .int .i64 0, .string ⟨#[]⟩]), 5, 48) := by kernel_rfl

/-- What the loop over the map has at its head. -/
def AllRel (w : World) (B it mh : Nat) (hl : List (St × Ch)) (k : Nat) (v : Value) (wr : World) : Prop :=
  ∃ left dn cur, (dn ++ left).Perm hl ∧ k = left.length ∧ IterIs St.val Ch.val wr it mh hl left cur ∧ Own Ch.cells 5 36 B wr v (dn.map (·.2)) ∧ Below w.heap.size w wr ∧ B ≤ wr.heap.size

set_option maxHeartbeats 2000000 in
theorem allT_any (t mh : Nat) (hl : List (St × Ch)) (w : World) (hc : w.cell? ⟨t, 1, none⟩ = some (.map (some mh))) (h2 : MapIs St.val Ch.val w mh hl) (hsz : hl.length ≤ 1000000) :
    Calls Try.prog 20 #[.pointer (some ⟨t, 0, none⟩)] w
      fun e w' => ∃ v l, e = .returned v ∧ Own Ch.cells 5 36 w.heap.size w' v l ∧ l.Perm (hl.map (·.2)) ∧ l.Pairwise (fun a b => ltOf (fun x y : Ch => cmpS x.block y.block) b a = false) ∧ Below w.heap.size w w' := by
  obtain ⟨w1, hrange, hit, hb1, hz1⟩ := h2.range (P := Try.prog) und_hang
  have hmlt : mh < w.heap.size := h2.lt
  obtain ⟨i0, hi, hz0, hz1', hz2⟩ := info_parts info_child
  have HZ := Lib.hid hz1
  clear h2 hz1
  go_enter Try.func20, Try.ntmps20
  go_wp2_with fail
  go_loopg [3] hl.length (fun k v wr => AllRel w (w.heap.size + 1) w.heap.size mh hl k v wr)
  case atStart => exact ⟨hl, [], none, List.Perm.refl _, rfl, hit, Own.nil, hb1, by rw [HZ.out]; exact Nat.le_refl _⟩
  case round =>
    obtain ⟨left, dn, cur, hperm, hk, hiter, hown, hB, hBs⟩ := hrel
    clear hit hb1 hrange
    rcases hiter.next (P := Try.prog) (by omega) with ⟨hnil, hnx⟩ | ⟨i, p, w2, hip, hnx, hiter2, hx2, hs2⟩
    · have HK := Lib.hid hk
      have HN := Lib.hid hnil
      clear hk hnil
      go_wp2_with fail
      refine (sortChild_own hown (by have := hperm.length_eq; simp at this; simp; omega)).mono ?_
      rintro e w3 ⟨rfl, l', hl1, hl2, hl3, hx3⟩
      have hb3 : Below w.heap.size w w3 := ⟨hx3.os.trans hB.os, hx3.tape.trans hB.tape, hx3.output.trans hB.output, Nat.le_trans hB.size hx3.size, fun j hj => (hx3.block j (Nat.lt_of_lt_of_le hj hB.size) (fun e => by have := (hown.blk j e).1; omega)).trans (hB.block j hj)⟩
      have hp3 : l'.Perm (hl.map (·.2)) := by
        rw [HN.out, List.append_nil] at hperm
        exact hl1.trans (hperm.map _)
      have X : Hid (∃ v l, Ending.returned u3 = .returned v ∧ Own Ch.cells 5 36 w.heap.size w3 v l ∧ l.Perm (hl.map (·.2)) ∧ l.Pairwise (fun a b => ltOf (fun x y : Ch => cmpS x.block y.block) b a = false) ∧ Below w.heap.size w w3) := ⟨_, l', rfl, hl3.mono (by omega), hp3, hl2, hb3⟩
      clear hp3 hb3 hl1 hl2 hl3 hx3 hown hperm hnx hiter
      go_wp2_with fail
      go_ret
      exact X.out
    · obtain ⟨⟨pn, pr⟩, ⟨⟨xn, xr⟩, ⟨yn, yr⟩, xk⟩⟩ := p
      simp only [St.val, Ch.val] at hnx
      have hen : ∀ W, IterIs St.val Ch.val W w.heap.size mh hl (left.eraseIdx i) (some (⟨pn, pr⟩, ⟨⟨xn, xr⟩, ⟨yn, yr⟩, xk⟩)) → (Instr.entry (.pointer (some ⟨w.heap.size, 0, none⟩))).run Try.prog W = .ok (.tuple #[.agg #[.int .i64 pn, .int .i64 pr], .agg #[.int .i64 xn, .int .i64 xr, .int .i64 yn, .int .i64 yr, .string xk]]) W := fun W hW => hW.entry
      have HK := Lib.hid hk
      have HS := Lib.hid hs2
      have HI := Lib.hid hip
      clear hk hs2 hip
      have hown2 := hown.ext hx2 (fun b hb e => by have := (hown.blk b hb).1; omega)
      have hB2 : Below w.heap.size w w2 := ⟨hx2.os.trans hB.os, hx2.tape.trans hB.tape, hx2.output.trans hB.output, Nat.le_trans hB.size hx2.size, fun j hj => (hx2.block j (Nat.lt_of_lt_of_le hj hB.size) (by omega)).trans (hB.block j hj)⟩
      have hs2 : w.heap.size + 1 ≤ w2.heap.size := by rw [HS.out]; exact hBs
      have hlen2 := hperm.length_eq
      rw [List.length_append] at hlen2
      have hlen3 : (dn.map (·.2)).length ≤ 1000000 := by rw [List.length_map]; omega
      have hper2 : ((dn ++ [((⟨pn, pr⟩, ⟨⟨xn, xr⟩, ⟨yn, yr⟩, xk⟩) : St × Ch)]) ++ left.eraseIdx i).Perm hl := by
        rw [List.append_assoc]
        exact (List.Perm.append_left dn (perm_erase HI.out).symm).trans hperm
      have hk2 : (left.eraseIdx i).length < gk := by
        rw [HK.out, List.length_eraseIdx]
        have := (List.getElem?_eq_some_iff.1 HI.out).1
        rw [if_pos this]; omega
      have HP := Lib.hid hper2
      clear hlen2 hperm hper2 hown hB hiter hx2 hBs
      have ha : (dn ++ [((⟨pn, pr⟩, ⟨⟨xn, xr⟩, ⟨yn, yr⟩, xk⟩) : St × Ch)]).map (·.2) = dn.map (·.2) ++ [⟨⟨xn, xr⟩, ⟨yn, yr⟩, xk⟩] := by simp
      have HA := Lib.hid ha
      clear ha
      go_wp2_with (at_builtin; refine wpList_append_struct rfl _ _ _ rfl i0 (.agg #[.int .i64 0, .int .i64 0, .int .i64 0, .int .i64 0, .string ⟨#[]⟩]) 48 Try.underlying46 hi hz0 hz1' hz2 rfl (by omega) (fun _ => rfl) (fun x u hu => by simp [Ch.cells] at hu; rcases hu with rfl | rfl | rfl | rfl | rfl <;> rfl) rfl ((hown2.alloc _).alloc _) ⟨⟨xn, xr⟩, ⟨yn, yr⟩, xk⟩ (w2.heap.size + 1) 1 rfl ?_ (by unfold maxLen; omega) (by omega) (by simp; omega) ?_)
      · intro j u hj
        match j, hj with
        | 0, hj => simp [Ch.cells] at hj; subst hj; go_simp
        | 1, hj => simp [Ch.cells] at hj; subst hj; go_simp
        | 2, hj => simp [Ch.cells] at hj; subst hj; go_simp
        | 3, hj => simp [Ch.cells] at hj; subst hj; go_simp
        | 4, hj => simp [Ch.cells] at hj; subst hj; go_simp
        | n + 5, hj => simp [Ch.cells] at hj
      · intro v' w3 hown3 hx3
        go_wp2_with fail
        go_roundg (left.eraseIdx i).length
        case measure => exact hk2
        case rel =>
          have hne : ∀ b, u3.ownBlock = some b → w.heap.size + 1 ≤ b := fun b hb => (hown2.blk b hb).1
          refine ⟨left.eraseIdx i, _, _, HP.out, rfl, ((hiter2.alloc _).alloc _).ext hx3 (fun e => by have := hne _ e; omega) (fun e => by have := hne _ e; omega), by rw [HA.out]; exact hown3, ?_, ?_⟩
          · exact Ext.new (((hB2.alloc (by omega) _).alloc (by simp; omega) _)) hx3 (fun b hb _ e => by have := hne _ e; omega) (by simp; omega)
          · have := hx3.size; simp at this; omega

end Go.Proofs.Ytilonmpcifohiaa
