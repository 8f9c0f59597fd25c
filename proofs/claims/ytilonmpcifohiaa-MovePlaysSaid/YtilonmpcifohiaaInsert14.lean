/- Layer 14: slices.Insert of one move into the call's own log. -/
import Derived.Test.YtilonmpcifohiaaMv14
import Derived.Laws.CopyRow
import Derived.Lib.AppendZerosOnto
import Derived.Lib.Overlaps
import Derived.Shelf.Spec.SlicesInsert
import Derived.Deep.RegionLaw
namespace Go.Proofs.Ytilonmpcifohiaa
open Go.RowKit
set_option linter.unusedSimpArgs false
set_option linter.unusedVariables false

/-- copy at elements of k cells, into a row. -/
theorem run_copy_rowK {P : Program} (w : World) (dT sT ty elem : TypeId) (g o dLen dCap : Nat) (a : Addr) (sLen sCap k n : Nat) (cur : Array Value) (t : TypeId) (cs : List Value)
    (hu : P.underlying dT = some (.slice elem)) (hs : (P.info? elem).map (·.size) = some k)
    (hg : w.heap[g]? = some (.cells cur t (0, 0))) (hn : Nat.min sLen dLen = n) (hcs : cs.length = n * k)
    (hsrc : ∀ j v, cs[j]? = some v → w.cell? (a.add j) = some v) (hfit : o + cs.length ≤ cur.size) (h1 : ∀ v ∈ cs, v.oneCell' = true) :
    (Builtin.copy_ #[dT, sT] ty #[.slice (some ⟨g, o, none⟩) dLen dCap, .slice (some a) sLen sCap]).run P w =
      .ok (goInt n) (w.setRow g (cur.toList.take o ++ cs ++ cur.toList.drop (o + cs.length)).toArray) := by
  have hl := run_loadCells_list (P := P) w a cs hsrc
  have hst := run_storeCells_at P g o t cs 0 cur w hg (by simpa using hfit) h1
  cases hq : P.info? elem with
  | none => simp [hq] at hs
  | some i =>
    have hi : i.size = k := by simpa [hq] using hs
    simp [Builtin.copy_, run_underlying hu, Builtin.lenOf, Builtin.firstCells, sizeOf, typeInfo, hq, hi, hn, ← hcs, hl, hst]

theorem addr_lit (b o j : Nat) : (⟨b, o, none⟩ : Addr).add j = ⟨b, o + j, none⟩ := by unfold Addr.add; split <;> simp_all

theorem info_move : (Try.prog.info? 66).map (fun i => (i.zero, i.size, i.bytes)) = some (some (.agg #[.int .i64 0, .int .i64 0, .int .i64 0, .int .i64 0, .int .i64 0, .int .i64 0, .string ⟨#[]⟩, .bool false, .pointer none]), 9, 80) := by kernel_rfl

/-- y put in at place i. -/
def insM (l : List Mv) (i : Nat) (y : Mv) : List Mv := l.take i ++ y :: l.drop i
theorem insM_length (l : List Mv) (i : Nat) (y : Mv) (h : i ≤ l.length) : (insM l i y).length = l.length + 1 := by simp [insM]; omega

theorem Mv.len (x : Mv) : x.cells.length = 9 := rfl
theorem Mv.one (x : Mv) : ∀ u ∈ x.cells, u.oneCell' = true := fun u hu => by
  simp only [Mv.cells, List.mem_cons, List.not_mem_nil, or_false] at hu
  rcases hu with rfl | rfl | rfl | rfl | rfl | rfl | rfl | rfl | rfl <;> rfl

set_option maxRecDepth 100000 in
set_option maxHeartbeats 2000000 in
theorem insert_end (base : Nat) (v : Value) (l : List Mv) (y : Mv) (nb c : Nat) (w : World) (hown : Own Mv.cells 9 66 base w v l) (hb : base ≤ w.heap.size) (hsz : l.length ≤ 1000) (hnews : ∀ j u, y.cells[j]? = some u → w.cell? ⟨nb, j, none⟩ = some u) :
    Calls Try.prog 30 #[v, .int .i64 l.length, .slice (some ⟨nb, 0, none⟩) 1 c] w
      fun e w' => ∃ v', e = .returned v' ∧ Own Mv.cells 9 66 base w' v' (insM l l.length y) ∧ Ext (fun b => v.ownBlock = some b) w w' := by
  obtain ⟨i0, hi, hz0, hz1', hz2⟩ := info_parts info_move
  obtain ⟨va, vc, rfl, hcap, hmax, _⟩ := hown.slice (fun _ => rfl)
  unfold maxLen at hmax
  have hins : insM l l.length y = l ++ [y] := by simp [insM]
  rw [hins]
  go_enter Try.func30, Try.ntmps30
  go_wp2_with (at_builtin; refine wpList_append_struct rfl _ _ _ rfl i0 _ 80 Try.underlying56 hi hz0 hz1' hz2 rfl (by omega) Mv.len Mv.one rfl hown y nb c rfl hnews (by unfold maxLen; omega) (by omega) hb ?_)
  all_goals
    intro v' w' h1 h2
    go_wp2_with fail
    go_ret
    refine ⟨v', rfl, h1, ?_⟩
    first
      | exact h2
      | (have e : (Value.slice va l.length vc).ownBlock = (Value.slice va l.length l.length).ownBlock := by cases va <;> rfl
         rw [e]; exact h2)

/-- Cells put into a row. -/
def seg (A : List Value) (o : Nat) (cs : List Value) : List Value := A.take o ++ cs ++ A.drop (o + cs.length)
theorem seg_length (A : List Value) (o : Nat) (cs : List Value) (h : o + cs.length ≤ A.length) : (seg A o cs).length = A.length := by simp [seg]; omega
theorem split3 (A : List Value) (a b c : Nat) (h : a + b + c ≤ A.length) : ∃ L1 B1 B2 B3, A = L1 ++ (B1 ++ (B2 ++ B3)) ∧ L1.length = a ∧ B1.length = b ∧ B2.length = c :=
  ⟨A.take a, (A.drop a).take b, ((A.drop a).drop b).take c, ((A.drop a).drop b).drop c, by simp only [List.take_append_drop], by simp; omega, by simp; omega, by simp; omega⟩
theorem seg_at (X B Z cs : List Value) (h : B.length = cs.length) : seg (X ++ (B ++ Z)) X.length cs = X ++ (cs ++ Z) := by
  unfold seg
  rw [List.take_left', ← List.append_assoc X B Z, List.drop_left']
  · rw [List.append_assoc]
  · rw [List.length_append, h]
  · rfl
theorem seg_shift (A yc L2 : List Value) (a : Nat) (h : a + yc.length + L2.length ≤ A.length) : (seg (seg A (a + yc.length) L2) a yc) = A.take a ++ yc ++ L2 ++ A.drop (a + yc.length + L2.length) := by
  obtain ⟨L1, B1, B2, B3, rfl, h1, h2, h3⟩ := split3 A a yc.length L2.length h
  subst h1
  have e1 : seg (L1 ++ (B1 ++ (B2 ++ B3))) (L1.length + yc.length) L2 = L1 ++ (B1 ++ (L2 ++ B3)) := by
    have := seg_at (L1 ++ B1) B2 B3 L2 h3
    rw [List.length_append, h2] at this
    simpa using this
  have e2 : (L1 ++ (B1 ++ (B2 ++ B3))).drop (L1.length + yc.length + L2.length) = B3 := by
    rw [show L1 ++ (B1 ++ (B2 ++ B3)) = (L1 ++ B1 ++ B2) ++ B3 by simp, List.drop_left']
    simp only [List.length_append, h2, h3]
  rw [e1, seg_at L1 B1 (L2 ++ B3) yc h2, e2, List.take_left' rfl]
  simp
theorem seg_grow (A yc L2 : List Value) (a : Nat) (h : a + yc.length + L2.length ≤ A.length) : (seg (seg A a yc) (a + yc.length) L2) = A.take a ++ yc ++ L2 ++ A.drop (a + yc.length + L2.length) := by
  obtain ⟨L1, B1, B2, B3, rfl, h1, h2, h3⟩ := split3 A a yc.length L2.length h
  subst h1
  have e2 : (L1 ++ (B1 ++ (B2 ++ B3))).drop (L1.length + yc.length + L2.length) = B3 := by
    rw [show L1 ++ (B1 ++ (B2 ++ B3)) = (L1 ++ B1 ++ B2) ++ B3 by simp, List.drop_left']
    simp only [List.length_append, h2, h3]
  have e3 : seg (L1 ++ (yc ++ (B2 ++ B3))) (L1.length + yc.length) L2 = L1 ++ (yc ++ (L2 ++ B3)) := by
    have := seg_at (L1 ++ yc) B2 B3 L2 h3
    rw [List.length_append] at this
    simpa using this
  rw [seg_at L1 B1 (B2 ++ B3) yc h2, e3, e2, List.take_left' rfl]
  simp

theorem ext_setRow (w : World) (g : Nat) (cs : Array Value) : Ext (· = g) w (w.setRow g cs) :=
  ⟨rfl, rfl, rfl, by simp [World.setRow], fun k hk hn => by simp [World.setRow, Array.getElem?_modify]; intro e; exact absurd e.symm hn⟩

theorem size_move (w : World) : (Go.sizeOf 66).run Try.prog w = .ok 9 w := by kernel_rfl
theorem flat_take (l : List Mv) (i : Nat) (h : i ≤ l.length) : (l.flatMap Mv.cells).take (i * 9) = (l.take i).flatMap Mv.cells := by
  have h1 : l.flatMap Mv.cells = (l.take i).flatMap Mv.cells ++ (l.drop i).flatMap Mv.cells := by rw [← List.flatMap_append, List.take_append_drop]
  rw [h1, List.take_left']
  rw [length_flatMap_k Mv.len, List.length_take, Nat.min_eq_left h]
theorem flat_drop (l : List Mv) (i : Nat) (h : i ≤ l.length) : (l.flatMap Mv.cells).drop (i * 9) = (l.drop i).flatMap Mv.cells := by
  have h1 : l.flatMap Mv.cells = (l.take i).flatMap Mv.cells ++ (l.drop i).flatMap Mv.cells := by rw [← List.flatMap_append, List.take_append_drop]
  rw [h1, List.drop_left']
  rw [length_flatMap_k Mv.len, List.length_take, Nat.min_eq_left h]

/-- The row that holds the moves with y put in. -/
theorem own_put {base g cap : Nat} {w : World} {l : List Mv} {i : Nat} {y : Mv} {A : List Value} (hb : base ≤ g) (hi : i ≤ l.length) (hc : l.length + 1 ≤ cap) (hm : cap ≤ maxLen) (hl : A.length = cap * 9) (ht : A.take (i * 9) = (l.take i).flatMap Mv.cells)
    (hg : w.heap[g]? = some (.cells (A.take (i * 9) ++ y.cells ++ (l.drop i).flatMap Mv.cells ++ A.drop (i * 9 + 9 + (l.length - i) * 9)).toArray 66 (0, 0))) :
    Own Mv.cells 9 66 base w (.slice (some ⟨g, 0, none⟩) (l.length + 1) cap) (insM l i y) := by
  have hil := insM_length l i y hi
  have e1 : ((l.drop i).flatMap Mv.cells).length = (l.length - i) * 9 := by rw [length_flatMap_k Mv.len, List.length_drop]
  have e2 : (A.take (i * 9)).length = i * 9 := by rw [List.length_take]; omega
  unfold Own
  rw [hil]
  refine ⟨by rw [length_flatMap_k Mv.len, hil], .inr ⟨g, cap, _, rfl, hb, hg, hc, hm, ?_, ?_⟩⟩
  · simp only [List.size_toArray, List.length_append, e1, e2, Mv.len, List.length_drop, hl]; omega
  · rw [List.take_left']
    · rw [ht, insM, List.flatMap_append, List.flatMap_cons, List.append_assoc]
    · simp only [List.length_append, e1, e2, Mv.len]; omega

set_option maxRecDepth 100000 in
set_option maxHeartbeats 4000000 in
theorem insert_shift (base g cap : Nat) (l : List Mv) (i : Nat) (y : Mv) (nb c : Nat) (w : World) (hown : Own Mv.cells 9 66 base w (.slice (some ⟨g, 0, none⟩) l.length cap) l) (hi : i < l.length) (hroom : l.length + 1 ≤ cap) (hsz : l.length ≤ 1000)
    (hnb : w.heap[nb]? = some (.cells y.cells.toArray 66 (0, 0))) (hne : nb ≠ g) :
    Calls Try.prog 30 #[.slice (some ⟨g, 0, none⟩) l.length cap, .int .i64 i, .slice (some ⟨nb, 0, none⟩) 1 c] w
      fun e w' => e = .returned (.slice (some ⟨g, 0, none⟩) (l.length + 1) cap) ∧ Own Mv.cells 9 66 base w' (.slice (some ⟨g, 0, none⟩) (l.length + 1) cap) (insM l i y) ∧ Ext (· = g) w w' := by
  obtain ⟨h1, h2⟩ := id hown
  rcases h2 with ⟨h2, _⟩ | ⟨g', cap', cur, hv, hbg, hg, hnc, hcm, hcs, htake⟩
  · cases h2
  obtain ⟨rfl, rfl⟩ : g = g' ∧ cap = cap' := by
    simp only [Value.slice.injEq, Option.some.injEq, Addr.mk.injEq, and_true, true_and] at hv
    exact hv
  clear hv
  unfold maxLen at hcm
  have hov : ∀ lb cb, (callFunc 47 #[.slice (some ⟨nb, 0, none⟩) 1 c, .slice (some ⟨g, (i + 1) * 9, none⟩) lb cb]).run Try.prog w = .ok (.value (.bool false)) w := fun lb cb => by
    rw [run_callFunc_extern Try.func47 (by kernel_rfl) (by kernel_rfl) (by kernel_rfl) (e := Extern.SlicesOverlaps.overlaps #[56, 56] #[4]) (by kernel_rfl),
      Lib.run_overlaps_apart w 56 4 66 Try.underlying56 9 size_move ⟨nb, 0, none⟩ ⟨g, (i + 1) * 9, none⟩ 1 c lb cb hne 66 66 9 cur.size (by simp [World.shape?, hnb, Mv.cells]) (by simp [World.shape?, hg]) (by omega) (by simp [World.frozen?, hnb]) (by simp [World.frozen?, hnb])]
    rfl
  go_enter Try.func30, Try.ntmps30
  have hcl : cur.toList.length = cap * 9 := by rw [Array.length_toList]; exact hcs
  have hsz9 : (Try.prog.info? 66).map (·.size) = some 9 := by kernel_rfl
  have hfl : ((l.drop i).flatMap Mv.cells).length = (l.length - i) * 9 := by rw [length_flatMap_k Mv.len, List.length_drop]
  obtain ⟨cs1, hcs1⟩ : ∃ cs1, cs1 = (l.drop i).flatMap Mv.cells := ⟨_, rfl⟩
  rw [← hcs1] at hfl
  have hread : ∀ j u, cs1[j]? = some u → w.cell? ⟨g, i * 9 + j, none⟩ = some u := fun j u hj => by
    rw [hcs1, ← flat_drop l i (by omega), ← htake, List.getElem?_drop, List.getElem?_take] at hj
    split at hj
    · simp only [World.cell?, hg]; simpa using hj
    · cases hj
  have hcp1 : ∀ ty dc sc, (Builtin.copy_ #[56, 56] ty #[.slice (some ⟨g, (i + 1) * 9, none⟩) (l.length - i) dc, .slice (some ⟨g, i * 9, none⟩) (l.length + 1 - i) sc]).run Try.prog w.drew = .ok (goInt ((l.length - i : Nat) : Int)) (w.drew.setRow g (seg cur.toList ((i + 1) * 9) cs1).toArray) := fun ty dc sc =>
    run_copy_rowK w.drew _ _ ty 66 g ((i + 1) * 9) (l.length - i) dc ⟨g, i * 9, none⟩ (l.length + 1 - i) sc 9 (l.length - i) cur 66 cs1 Try.underlying56 hsz9 hg (by simp only [Nat.min_def]; split <;> omega) hfl
      (fun j v hj => by rw [addr_lit]; exact hread j v hj) (by rw [hfl, hcs]; omega) (fun v hv => by rw [hcs1] at hv; obtain ⟨m, _, hm⟩ := List.mem_flatMap.1 hv; exact Mv.one m v hm)
  have hcp2 : ∀ ty dc, (Builtin.copy_ #[56, 56] ty #[.slice (some ⟨g, i * 9, none⟩) (l.length + 1 - i) dc, .slice (some ⟨nb, 0, none⟩) 1 c]).run Try.prog (w.drew.setRow g (seg cur.toList ((i + 1) * 9) cs1).toArray) = .ok (goInt 1) ((w.drew.setRow g (seg cur.toList ((i + 1) * 9) cs1).toArray).setRow g (seg (seg cur.toList ((i + 1) * 9) cs1) (i * 9) y.cells).toArray) := fun ty dc =>
    run_copy_rowK _ _ _ ty 66 g (i * 9) (l.length + 1 - i) dc ⟨nb, 0, none⟩ 1 c 9 1 (seg cur.toList ((i + 1) * 9) cs1).toArray 66 y.cells Try.underlying56 hsz9 (setRow_heap w.drew g cur _ _ _ hg) (by simp only [Nat.min_def]; split <;> omega) rfl
      (fun j v hj => by
        rw [addr_lit]
        have hc1 := (ext_setRow w.drew g (seg cur.toList ((i + 1) * 9) cs1).toArray).block nb (Array.getElem?_eq_some_iff.1 hnb).1 hne
        have hc2 := hc1.trans hnb
        simp only [World.cell?, hc2]
        simpa using hj) (by rw [List.size_toArray, seg_length _ _ _ (by rw [hcl, hfl]; omega), hcl, Mv.len]; omega) (Mv.one y)
  have HCS1 := Lib.hid hcs1
  clear hcs1
  have hw1 : IntKind.i64.wrap ((i : Int) + 1) = (i : Int) + 1 := by rw [IntKind.wrap_i64]; omega
  have hb1 : (0 : Int) ≤ (i : Int) + 1 := by omega
  have htn : ((i : Int) + 1).toNat = i + 1 := by omega
  have hb2 : ¬ (cap = i + 1) := by omega
  have hb3 : (i : Int) ≤ (l.length : Int) + 1 := by omega
  have hb4 : ¬ (cap = i) := by omega
  have hb5 : i ≤ l.length := by omega
  have hb6 : ¬ (l.length : Int) < (i : Int) := by omega
  go_wp2_with (simp only [hov])
  go_region_law (refine step_copy_runI rfl _ _ 56 56 rfl _ _ (by simp [Act.eval, Act.put]) (by simp [Act.eval, Act.put]) (hcp1 _ _ _) ?_)
  go_wp2_with fail
  go_ret
  refine ⟨rfl, ?_, ?_⟩
  · refine own_put hbg (by omega) hroom (by unfold maxLen; omega) hcl ?_ ?_
    · have := congrArg (List.take (i * 9)) htake
      rw [List.take_take, flat_take l i (by omega), Nat.min_eq_left (by omega)] at this
      exact this
    · have e := seg_shift cur.toList y.cells cs1 (i * 9) (by rw [hfl, hcl, Mv.len]; omega)
      rw [Mv.len, hfl, show i * 9 + 9 = (i + 1) * 9 by omega] at e
      rw [show i * 9 + 9 = (i + 1) * 9 by omega, ← HCS1.out, ← e]
      exact setRow_heap _ g _ _ _ _ (setRow_heap w.drew g cur _ _ _ hg)
  · have hx := (ext_setRow w.drew g (seg cur.toList ((i + 1) * 9) cs1).toArray).trans (ext_setRow _ g (seg (seg cur.toList ((i + 1) * 9) cs1) (i * 9) y.cells).toArray)
    exact ⟨hx.os, hx.tape, hx.output, hx.size, hx.block⟩

theorem zc_size (k : Nat) : (Builtin.zeroCells (Value.agg #[.int .i64 0, .int .i64 0, .int .i64 0, .int .i64 0, .int .i64 0, .int .i64 0, .string ⟨#[]⟩, .bool false, .pointer none]).cells k).size = k * 9 := by
  simp [Builtin.zeroCells, Value.cells]

set_option maxRecDepth 100000 in
set_option maxHeartbeats 4000000 in
theorem insert_grow (base g cap : Nat) (l : List Mv) (i : Nat) (y : Mv) (nb c : Nat) (w : World) (hown : Own Mv.cells 9 66 base w (.slice (some ⟨g, 0, none⟩) l.length cap) l) (hb : base ≤ w.heap.size) (hi : i < l.length) (hroom : cap < l.length + 1) (hsz : l.length ≤ 1000)
    (hnb : w.heap[nb]? = some (.cells y.cells.toArray 66 (0, 0))) :
    Calls Try.prog 30 #[.slice (some ⟨g, 0, none⟩) l.length cap, .int .i64 i, .slice (some ⟨nb, 0, none⟩) 1 c] w
      fun e w' => ∃ G, e = .returned (.slice (some ⟨w.heap.size, 0, none⟩) (l.length + 1) G) ∧ Own Mv.cells 9 66 base w' (.slice (some ⟨w.heap.size, 0, none⟩) (l.length + 1) G) (insM l i y) ∧ Below w.heap.size w w' := by
  obtain ⟨i0, hi0, hz0, hzs, hzb⟩ := info_parts info_move
  obtain ⟨h1, h2⟩ := id hown
  rcases h2 with ⟨h2, _⟩ | ⟨g', cap', cur, hv, hbg, hg, hnc, hcm, hcs, htake⟩
  · cases h2
  obtain ⟨rfl, rfl⟩ : g = g' ∧ cap = cap' := by
    simp only [Value.slice.injEq, Option.some.injEq, Addr.mk.injEq, and_true, true_and] at hv
    exact hv
  clear hv
  unfold maxLen at hcm
  obtain rfl : cap = l.length := by omega
  have hcl : cur.toList.length = l.length * 9 := by rw [Array.length_toList]; exact hcs
  have hsz9 : (Try.prog.info? 66).map (·.size) = some 9 := by kernel_rfl
  have hgw : g < w.heap.size := (Array.getElem?_eq_some_iff.1 hg).1
  have hnw : nb < w.heap.size := (Array.getElem?_eq_some_iff.1 hnb).1
  have hfl : ((l.drop i).flatMap Mv.cells).length = (l.length - i) * 9 := by rw [length_flatMap_k Mv.len, List.length_drop]
  have hft : ((l.take i).flatMap Mv.cells).length = i * 9 := by rw [length_flatMap_k Mv.len, List.length_take, Nat.min_eq_left (by omega)]
  have hread : ∀ j u, ((l.drop i).flatMap Mv.cells)[j]? = some u → w.cell? ⟨g, i * 9 + j, none⟩ = some u := fun j u hj => by
    rw [← flat_drop l i (by omega), ← htake, List.getElem?_drop, List.getElem?_take] at hj
    split at hj
    · simp only [World.cell?, hg]; simpa using hj
    · cases hj
  have hold : (Builtin.firstCells i0.size i (.slice (some ⟨g, 0, none⟩) i l.length)).run Try.prog w.drew = .ok ((l.take i).flatMap Mv.cells).toArray w.drew := by
    rw [hzs]
    refine run_firstCells_some w.drew 9 i ⟨g, 0, none⟩ i l.length _ hft (fun j v hj => ?_)
    rw [addr_lit, Nat.zero_add]
    rw [← flat_take l i (by omega), ← htake, List.take_take, List.getElem?_take] at hj
    split at hj
    · show w.cell? _ = _
      simp only [World.cell?, hg]; simpa using hj
    · cases hj
  have hkk : (l.length : Int) + 1 - (i : Int) = ((l.length + 1 - i : Nat) : Int) := by omega
  have hik : i + (l.length + 1 - i) = l.length + 1 := by omega
  obtain ⟨G, hG⟩ : ∃ G, G = grownCap w (l.length + 1) l.length 66 := ⟨_, rfl⟩
  have hGn : l.length + 1 ≤ G := by rw [hG]; exact grownCap_ge w _ _ _
  have hG63 : G ≤ 9223372036854775807 := by
    have := grownCap_le_maxLen w (l.length + 1) l.length 66 (by unfold maxLen; omega)
    rw [← hG] at this
    unfold maxLen at this
    omega
  obtain ⟨ROW, hROW⟩ : ∃ ROW : Array Value, ROW = ((l.take i).flatMap Mv.cells).toArray ++ Builtin.zeroCells (Value.agg #[.int .i64 0, .int .i64 0, .int .i64 0, .int .i64 0, .int .i64 0, .int .i64 0, .string ⟨#[]⟩, .bool false, .pointer none]).cells (l.length + 1 - i) ++ Builtin.zeroCells (Value.agg #[.int .i64 0, .int .i64 0, .int .i64 0, .int .i64 0, .int .i64 0, .int .i64 0, .string ⟨#[]⟩, .bool false, .pointer none]).cells (G - (l.length + 1)) := ⟨_, rfl⟩
  have hRs : ROW.size = G * 9 := by
    rw [hROW, Array.size_append, Array.size_append, zc_size, zc_size, List.size_toArray, hft]; omega
  have hRl : ROW.toList.length = G * 9 := by rw [Array.length_toList]; exact hRs
  have hRt : ROW.toList.take (i * 9) = (l.take i).flatMap Mv.cells := by
    rw [hROW, Array.toList_append, Array.toList_append, List.append_assoc, List.take_left' hft]
  have hrz : ∀ ty, (Builtin.append_ #[56, 3] ty #[.slice (some ⟨g, 0, none⟩) i l.length, .int .i64 ((l.length : Int) + 1 - (i : Int))]).run Try.prog w = .ok (.slice (some ⟨w.heap.size, 0, none⟩) (l.length + 1) G) (w.drew.alloc (.cells ROW 66)) := fun ty => by
    have h := Lib.run_append_grow_zeros w 56 3 ty 66 i0 _ .i64 .i64 Try.underlying56 Try.underlying3 hi0 hz0 (some ⟨g, 0, none⟩) i l.length _ hold (l.length + 1 - i) (by omega) (by omega) (by omega) (by omega) (by rw [hzb]; omega) (by rw [hzb, hik]; exact growslice_fits (by omega) (by omega))
    rw [hik, ← hG, ← hROW] at h
    rw [hkk]
    exact h
  obtain ⟨cs1, hcs1⟩ : ∃ cs1, cs1 = (l.drop i).flatMap Mv.cells := ⟨_, rfl⟩
  rw [← hcs1] at hfl hread
  have hnew : (w.alloc (.cells ROW 66)).heap[w.heap.size]? = some (.cells ROW 66 (0, 0)) := by
    show (w.heap.push _)[w.heap.size]? = _
    simp
  have hcpA : ∀ W : World, W.heap = (w.alloc (.cells ROW 66)).heap → ∀ ty dc, (Builtin.copy_ #[56, 56] ty #[.slice (some ⟨w.heap.size, i * 9, none⟩) (l.length + 1 - i) dc, .slice (some ⟨nb, 0, none⟩) 1 c]).run Try.prog W = .ok (goInt 1) (W.setRow w.heap.size (seg ROW.toList (i * 9) y.cells).toArray) := fun W hW ty dc =>
    run_copy_rowK W _ _ ty 66 w.heap.size (i * 9) (l.length + 1 - i) dc ⟨nb, 0, none⟩ 1 c 9 1 ROW 66 y.cells Try.underlying56 hsz9 (by rw [hW]; exact hnew) (by simp only [Nat.min_def]; split <;> omega) rfl
      (fun j v hj => by
        rw [addr_lit]
        have hc2 : W.heap[nb]? = some (.cells y.cells.toArray 66 (0, 0)) := by rw [hW, Below.heap_alloc _ _ _ hnw]; exact hnb
        simp only [World.cell?, hc2]
        simpa using hj) (by rw [hRs, Mv.len]; omega) (Mv.one y)
  have hsl : (seg ROW.toList (i * 9) y.cells).length = G * 9 := by rw [seg_length _ _ _ (by rw [hRl, Mv.len]; omega), hRl]
  have hcpB : ∀ W : World, W.heap = ((w.alloc (.cells ROW 66)).setRow w.heap.size (seg ROW.toList (i * 9) y.cells).toArray).heap → ∀ ty dc sc, (Builtin.copy_ #[56, 56] ty #[.slice (some ⟨w.heap.size, (i + 1) * 9, none⟩) (l.length - i) dc, .slice (some ⟨g, i * 9, none⟩) (l.length - i) sc]).run Try.prog W = .ok (goInt ((l.length - i : Nat) : Int)) (W.setRow w.heap.size (seg (seg ROW.toList (i * 9) y.cells) ((i + 1) * 9) cs1).toArray) := fun W hW ty dc sc =>
    run_copy_rowK W _ _ ty 66 w.heap.size ((i + 1) * 9) (l.length - i) dc ⟨g, i * 9, none⟩ (l.length - i) sc 9 (l.length - i) (seg ROW.toList (i * 9) y.cells).toArray 66 cs1 Try.underlying56 hsz9 (by rw [hW]; exact setRow_heap _ _ _ _ _ _ hnew) (by simp only [Nat.min_def]; split <;> omega) hfl
      (fun j v hj => by
        rw [addr_lit]
        have hc2 : W.heap[g]? = some (.cells cur 66 (0, 0)) := by
          rw [hW, (ext_setRow _ _ _).block g (by simp; omega) (by omega), Below.heap_alloc _ _ _ hgw]; exact hg
        have hc3 := hread j v hj
        simp only [World.cell?, hc2]
        simp only [World.cell?, hg] at hc3
        exact hc3) (by rw [List.size_toArray, hsl, hfl]; omega) (fun v hv => by rw [hcs1] at hv; obtain ⟨m, _, hm⟩ := List.mem_flatMap.1 hv; exact Mv.one m v hm)
  have HCS1 := Lib.hid hcs1
  have HROW := Lib.hid hROW
  have HG := Lib.hid hG
  clear hcs1 hROW hG hold
  have hw1 : IntKind.i64.wrap ((i : Int) + 1) = (i : Int) + 1 := by rw [IntKind.wrap_i64]; omega
  have hb1 : (0 : Int) ≤ (i : Int) + 1 := by omega
  have htn : ((i : Int) + 1).toNat = i + 1 := by omega
  have hb2 : ¬ (G = i + 1) := by omega
  have hb3 : (i : Int) ≤ (l.length : Int) + 1 := by omega
  have hb4 : ¬ (G = i) := by omega
  have hb5 : i ≤ l.length := by omega
  have hb6 : ¬ (l.length : Int) < (i : Int) := by omega
  have hb7 : ¬ (l.length = i) := by omega
  clear hkk
  go_enter Try.func30, Try.ntmps30
  have hcpA' := hcpA (w.alloc (.cells ROW 66)).drew rfl
  have HA := Lib.hid hcpA
  have HB := Lib.hid hcpB
  clear hcpA hcpB
  go_wp2_with (at_builtin; refine Lib.wpList_append_run _ rfl _ _ _ _ rfl _ _ rfl rfl _ _ (hrz _) ?_)
  have hcpB' := HB.out (((w.alloc (.cells ROW 66)).drew.setRow w.heap.size (seg ROW.toList (i * 9) y.cells).toArray).drew) rfl
  go_region_law (refine step_copy_runI rfl _ _ 56 56 rfl (.slice (some ⟨w.heap.size, (i + 1) * 9, none⟩) (l.length - i) (G - (i + 1))) (.slice (some ⟨g, i * 9, none⟩) (l.length - i) (l.length - i)) (by simp [Act.eval, Act.put]) (by simp [Act.eval, Act.put]) (hcpB' _ _ _) ?_)
  go_wp2_with fail
  go_ret
  refine ⟨G, rfl, ?_, ?_⟩
  · refine own_put hb (by omega) hGn (by unfold maxLen; omega) hRl hRt ?_
    have e := seg_grow ROW.toList y.cells cs1 (i * 9) (by rw [hfl, hRl, Mv.len]; omega)
    rw [Mv.len, hfl, show i * 9 + 9 = (i + 1) * 9 by omega] at e
    rw [show i * 9 + 9 = (i + 1) * 9 by omega, ← HCS1.out, ← e]
    exact setRow_heap _ _ _ _ _ _ (setRow_heap _ _ _ _ _ _ hnew)
  · have hx : Ext (· = w.heap.size) w _ := (((Ext.refl (· = w.heap.size) w).alloc (.cells ROW 66)).trans (ext_setRow _ w.heap.size (seg ROW.toList (i * 9) y.cells).toArray)).trans (ext_setRow _ w.heap.size (seg (seg ROW.toList (i * 9) y.cells) ((i + 1) * 9) cs1).toArray)
    exact ⟨hx.os, hx.tape, hx.output, hx.size, fun k hk => hx.block k hk (by omega)⟩

/-- slices.Insert of one move into the call's own log. -/
theorem insert_any (base : Nat) (v : Value) (l : List Mv) (i : Nat) (y : Mv) (nb c : Nat) (w : World) (hown : Own Mv.cells 9 66 base w v l) (hb : base ≤ w.heap.size) (hi : i ≤ l.length) (hsz : l.length ≤ 1000)
    (hnb : w.heap[nb]? = some (.cells y.cells.toArray 66 (0, 0))) (hne : v.ownBlock ≠ some nb) :
    Calls Try.prog 30 #[v, .int .i64 i, .slice (some ⟨nb, 0, none⟩) 1 c] w
      fun e w' => ∃ v', e = .returned v' ∧ Own Mv.cells 9 66 base w' v' (insM l i y) ∧ Ext (fun b => v.ownBlock = some b) w w' := by
  by_cases hil : i = l.length
  · subst hil
    exact insert_end base v l y nb c w hown hb hsz (fun j u hj => by simp only [World.cell?, hnb]; simpa using hj)
  · have hi' : i < l.length := by omega
    rcases hown.eq_slice with ⟨_, h⟩ | ⟨g, cap, rfl, _, _⟩
    · subst h; simp at hi'
    · have hng : nb ≠ g := fun e => hne (by rw [e]; rfl)
      by_cases hroom : l.length + 1 ≤ cap
      · refine (insert_shift base g cap l i y nb c w hown hi' hroom hsz hnb hng).mono ?_
        rintro e w' ⟨rfl, h1, h2⟩
        exact ⟨_, rfl, h1, ⟨h2.os, h2.tape, h2.output, h2.size, fun k hk hn => h2.block k hk (fun e => hn (by rw [e]; rfl))⟩⟩
      · refine (insert_grow base g cap l i y nb c w hown hb hi' (by omega) hsz hnb).mono ?_
        rintro e w' ⟨G, rfl, h1, h2⟩
        exact ⟨_, rfl, h1, Ext.of_below h2⟩

end Go.Proofs.Ytilonmpcifohiaa
