/- Layer 17: slices.Backward at elements and at operations. -/
import Derived.Test.YtlfmkoapddihcaaRangeP
import Derived.Test.YtlfmkoapddihcaaOp17
import Derived.Shelf.Abstract
import Derived.Shelf.RegionOpen
import Derived.WalkKit
import Derived.OwnWalkIn
import Derived.TacticsInMore
import Derived.LoopNIn
import Derived.LoopIn
namespace Go.Proofs.Ytlfmkoapddihcaa
open Go.RowKit
set_option linter.unusedSimpArgs false
set_option linter.unusedVariables false

section
variable {α : Type} {ea : α → List Value} {k : Nat} {w : World} {v : Value} {l : List α}
theorem SliceIs.ext {S : Nat → Prop} {w' : World} (h : SliceIs ea k w v l) (hx : Ext S w w') (hn : ∀ b o n cap, v = .slice (some ⟨b, o, none⟩) n cap → ¬ S b) : SliceIs ea k w' v l := by
  obtain ⟨a, cap, rfl, h2, h3, h4⟩ := h
  refine ⟨a, cap, rfl, h2, h3, fun hl => ?_⟩
  obtain ⟨b, off, h5, h6⟩ := h4 hl
  exact ⟨b, off, h5, fun i x hi j u hj => hx.keep (h6 i x hi j u hj) (hn b off l.length cap (by rw [h5]))⟩
end

/-- From the last one to the first one, with their places. -/
def backXs {α : Type} (l : List α) : List (Nat × α) := (l.zipIdx.map fun p => (p.2, p.1)).reverse
theorem backXs_length {α : Type} (l : List α) : (backXs l).length = l.length := by simp [backXs]
theorem backXs_get {α : Type} (l : List α) {k : Nat} {x : α} (hk : l[k]? = some x) : (backXs l)[l.length - (k + 1)]? = some (k, x) := by
  have hkl := (List.getElem?_eq_some_iff.1 hk).1
  unfold backXs
  rw [List.getElem?_reverse (by simp; omega)]
  simp only [List.length_map, List.length_zipIdx]
  rw [show l.length - 1 - (l.length - (k + 1)) = k by omega]
  simp [hk]
theorem backXs_take {α : Type} (l : List α) {k : Nat} {x : α} (hk : l[k]? = some x) : (backXs l).take (l.length - (k + 1)) ++ [(k, x)] = (backXs l).take (l.length - k) := by
  have hkl := (List.getElem?_eq_some_iff.1 hk).1
  rw [show l.length - k = (l.length - (k + 1)) + 1 by omega, List.take_add_one, backXs_get l hk]
  rfl

attribute [local go_sem] Oper.semAt_some

set_option maxHeartbeats 1000000 in
theorem backEl_any (va : Option Addr) (m vc : Nat) (w : World) : Calls Try.prog 28 #[.slice va m vc] w
    fun e w' => e = .returned (.func (.func 38) #[] #[.pointer (some ⟨w.heap.size, 0, none⟩)]) ∧ w' = w.alloc (.cells #[.slice va m vc] 22) := by
  go_enter Try.func28, Try.ntmps28
  go_wp2_with fail
  go_ret
  exact ⟨rfl, rfl⟩

set_option maxRecDepth 100000 in
set_option maxHeartbeats 2000000 in
theorem backEl_gives (n : Nat) (hn : 1 ≤ n) (Bs : Nat) (v : Value) (l : List El) (R : Nat → Prop) (w : World) (hv : SliceIs El.cells 4 w v l) (hsz : l.length ≤ 1000000) (hB : w.cell? ⟨Bs, 0, none⟩ = some v) (hRB : ¬ R Bs) (hRv : l ≠ [] → ∀ b o m c, v = .slice (some ⟨b, o, none⟩) m c → ¬ R b ∧ b < w.heap.size) :
    IterGives Try.prog n 38 #[.pointer (some ⟨Bs, 0, none⟩)] (fun x : Nat × El => #[.int .i64 x.1, .agg #[.int .i64 x.2.id.n, .int .i64 x.2.id.r, .int .i64 x.2.ch, .bool x.2.gone]]) R (backXs l) w := by
  intro lb I W hl hb hI hY h0
  obtain ⟨va, vc, rfl, hcap, hmax, hcs⟩ := hv
  unfold maxLen at hmax
  have hBl := cell_lt hB
  have HC := Lib.hid hcs
  have HI := Lib.hid hI
  have HY := Lib.hid hY
  have HB := Lib.hid (keepB hb hB)
  have HV := Lib.hid hRv
  have HBB := Lib.hid hb
  clear hcs hI hY hRv hb hB
  refine callsIn_of_wp Try.func38 rfl trivial ?_ rfl
  simp only [Try.ntmps38, List.size_toArray, List.length_cons, List.length_nil, Nat.reduceAdd, Nat.reduceSub, Array.replicate_succ, Array.replicate_zero, List.push_toArray, List.append_toArray, List.nil_append, List.cons_append]
  have b0 := HB.out
  gi_wp2
  have hS0 : SliceIs El.cells 4 W (.slice va l.length vc) l := (show SliceIs El.cells 4 w (.slice va l.length vc) l from ⟨va, vc, rfl, hcap, by unfold maxLen; omega, HC.out⟩).ext (Ext.mono (S := fun _ => False) ⟨HBB.out.os, HBB.out.tape, HBB.out.output, HBB.out.size, fun k hk _ => HBB.out.block k hk⟩ (fun _ _ h => h)) (fun _ _ _ _ _ h => h)
  gi_loopw [3] (fun iv wr => ∃ (k : Nat) (j : Int), j + 1 = (k : Int) ∧ k ≤ l.length ∧ iv = .int .i64 j ∧ wr.cell? ⟨Bs, 0, none⟩ = some (.slice va l.length vc) ∧ SliceIs El.cells 4 wr (.slice va l.length vc) l ∧ I ((backXs l).take (l.length - k)) wr) (fun iv _ => (intOf iv + 1).toNat)
  case atStart => exact ⟨l.length, (l.length : Int) - 1, by omega, Nat.le_refl _, rfl, HB.out, hS0, by rw [Nat.sub_self]; exact h0⟩
  case round =>
    clear b0 hS0 h0
    obtain ⟨k, j, hj, hk, rfl, b0, hS, hi⟩ := hrel
    by_cases hk0 : 0 < k
    · obtain ⟨q, rfl⟩ : ∃ q, k = q + 1 := ⟨k - 1, by omega⟩
      obtain rfl : j = (q : Int) := by omega
      obtain ⟨x, hx⟩ : ∃ x, l[q]? = some x := ⟨_, List.getElem?_eq_getElem (by omega)⟩
      obtain ⟨_, _, e1, _, _, h4⟩ := id hS
      cases e1
      obtain ⟨b, o, rfl, hcc⟩ := h4 (by intro e; rw [e] at hx; simp at hx)
      have x0 : wr.cell? ⟨b, o + q * 4, none⟩ = some (.int .i64 x.id.n) := hcc q x hx 0 _ rfl
      have x1 : wr.cell? ⟨b, o + q * 4 + 1, none⟩ = some (.int .i64 x.id.r) := hcc q x hx 1 _ rfl
      have x2 : wr.cell? ⟨b, o + q * 4 + 2, none⟩ = some (.int .i64 x.ch) := hcc q x hx 2 _ rfl
      have x3 : wr.cell? ⟨b, o + q * 4 + 3, none⟩ = some (.bool x.gone) := hcc q x hx 3 _ rfl
      have HT := Lib.hid (backXs_take l hx)
      have hne0 : l ≠ [] := by intro e; rw [e] at hx; simp at hx
      obtain ⟨fn, tmps, assign, body, hy, hR⟩ := HY.out ((backXs l).take (l.length - (q + 1))) (q, x) wr hi (by rw [HT.out]; exact List.take_prefix _ _)
      dsimp only at hy
      have hql : (q : Int) < (l.length : Int) := by omega
      clear hcc h4 hx hj
      gi_wp2
      refine hR.mono ?_
      rintro e W3 ⟨rfl, hI3, hx3⟩
      obtain ⟨v1, v2⟩ := HV.out hne0 b o _ _ rfl
      have hne : ¬ (Bs = lb ∨ R Bs) := fun h => by
        rcases h with h | h
        · omega
        · exact hRB h
      have B3 := Lib.hid (hx3.keep b0 hne)
      have S3 := Lib.hid (hS.ext hx3 (fun b' o' m c e h => by
        cases e
        rcases h with h | h
        · omega
        · exact v1 h))
      rw [HT.out] at hI3
      clear b0 hS x0 x1 x2 x3 hi hx3 hy hR v1 v2 hne
      gi_wp2
      go_roundw
      case rel => exact ⟨q, (q : Int) - 1, by omega, by omega, rfl, B3.out, S3.out, hI3⟩
      case measure => simp [intOf]
    · obtain rfl : k = 0 := by omega
      obtain rfl : j = -1 := by omega
      gi_wp2
      go_end0
      have e0 : (backXs l).take (l.length - 0) = backXs l := List.take_of_length_le (by rw [backXs_length]; omega)
      rw [e0] at hi
      exact ⟨⟨_, rfl⟩, hi⟩

end Go.Proofs.Ytlfmkoapddihcaa
