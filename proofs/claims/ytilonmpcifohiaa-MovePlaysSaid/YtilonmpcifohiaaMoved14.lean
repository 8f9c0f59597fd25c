/- Layer 14: a tree of some moves, and those that were taken. -/
import Derived.Test.YtilonmpcifohiaaAlive14
import Derived.Deep.RegionLaw
namespace Go.Proofs.Ytilonmpcifohiaa
open Go.RowKit
set_option linter.unusedSimpArgs false
set_option linter.unusedVariables false

/-- What is kept behind one more move, and behind some moves. -/
noncomputable def addStep (s : List (St × Ch) × List RMv) (x : RMv) : List (St × Ch) × List RMv :=
  (addC s.1 x.at_ x.ch, if moveCode s.1 x.at_ x.block x.under = 0 then s.2 ++ [x] else s.2)
noncomputable def addAll (l : List RMv) : List (St × Ch) × List RMv := l.foldl addStep ([], [])
theorem addAll_nil : addAll [] = ([], []) := rfl
theorem addAll_snoc (l : List RMv) (x : RMv) : addAll (l ++ [x]) = addStep (addAll l) x := by simp [addAll]
theorem addAll_len : ∀ l : List RMv, (addAll l).1.length ≤ l.length ∧ (addAll l).2.length ≤ l.length := by
  intro l
  have : ∀ (l : List RMv) (s : List (St × Ch) × List RMv), (l.foldl addStep s).1.length ≤ s.1.length + l.length ∧ (l.foldl addStep s).2.length ≤ s.2.length + l.length := fun l => by
    induction l with
    | nil => intro s; simp
    | cons x l ih =>
      intro s
      have h1 := ih (addStep s x)
      have h2 : (addStep s x).1.length ≤ s.1.length + 1 := addC_length _ _ _
      have h3 : (addStep s x).2.length ≤ s.2.length + 1 := by
        show (if _ then _ else _ : List RMv).length ≤ _
        split <;> simp
      rw [List.foldl_cons, List.length_cons]
      omega
  have := this l ([], [])
  simpa [addAll] using this

theorem take_snoc14 {α : Type} {l : List α} {k : Nat} {x : α} (h : l[k]? = some x) : l.take (k + 1) = l.take k ++ [x] := by
  rw [List.take_add_one, h]; rfl

theorem info_rmove : (Try.prog.info? 26).map (fun i => (i.zero, i.size, i.bytes)) = some (some (.agg #[.int .i64 0, .int .i64 0, .int .i64 0, .int .i64 0, .int .i64 0, .int .i64 0, .string ⟨#[]⟩]), 7, 64) := by kernel_rfl
theorem RMv.one (x : RMv) : ∀ u ∈ x.cells, u.oneCell' = true := by
  intro u hu
  simp only [RMv.cells, List.mem_cons, List.not_mem_nil, or_false] at hu
  rcases hu with rfl | rfl | rfl | rfl | rfl | rfl | rfl <;> rfl
theorem own_touch {base base' : Nat} {w : World} {t mh : Nat} {c : List (St × Ch)} {v : Value} {l : List RMv} (hT : TreeHas base w t mh c) (hO : Own RMv.cells 7 26 base' w v l) : ∀ b, v.ownBlock = some b → ¬ Touch base w t mh b := by
  intro b hb
  obtain ⟨cur, hc⟩ := hO.tag hb
  obtain ⟨vv, ll, hl, hI, _⟩ := hT
  rintro (h | h | ⟨_, cur', h⟩)
  · have := hI.blk; rw [← h, hc] at this; cases this
  · obtain ⟨_, es, cl, hm, _⟩ := hI.map
    rw [← h, hc] at hm; cases hm
  · rw [hc] at h; cases h
/-- The tree stays where only the call's own slice of moves is written. -/
theorem TreeHas.own {base base' : Nat} {w w' : World} {t mh : Nat} {c : List (St × Ch)} {v : Value} {l : List RMv} (hT : TreeHas base w t mh c) (hO : Own RMv.cells 7 26 base' w v l) (hx : Ext (fun b => v.ownBlock = some b) w w') : TreeHas base w' t mh c := by
  have hne := own_touch hT hO
  refine hT.ext hx (fun e => hne _ e (.inl rfl)) (fun e => hne _ e (.inr (.inl rfl))) (fun b cur h1 h2 e => hne _ e (.inr (.inr ⟨h1, cur, h2⟩))) (fun b c hb e => ?_)
  obtain ⟨cur, hc⟩ := hO.tag e
  have hb := show w.heap[b]? = _ from hb
  rw [hc] at hb; cases hb

set_option maxRecDepth 100000 in
set_option maxHeartbeats 2000000 in
theorem moved_any (v : Value) (l : List RMv) (w : World) (hv : SliceIs RMv.cells 7 w v l) :
    Calls Try.prog 10 #[v] w fun e w' => ∃ vo, e = .returned (.tuple #[.pointer (some ⟨w.heap.size + 1, 0, none⟩), vo]) ∧
      TreeHas w.heap.size w' (w.heap.size + 1) w.heap.size (addAll (l.take 60)).1 ∧ Own RMv.cells 7 26 w.heap.size w' vo (addAll (l.take 60)).2 ∧ Below w.heap.size w w' := by
  obtain ⟨a, cap, hve, hcap, hmax, _⟩ := id hv
  unfold maxLen at hmax
  obtain ⟨N, hN⟩ : ∃ N : Nat, N = min l.length 60 := ⟨_, rfl⟩
  obtain ⟨i0, hi, hi0, hi1, hi2⟩ := info_parts info_rmove
  have hN60 : N ≤ 60 := by omega
  have hNl : N ≤ l.length := by omega
  subst hve
  have HN := Lib.hid hN
  clear hN
  go_enter Try.func10, Try.ntmps10
  go_wp2_with fail
  refine (new_tree _).mono ?_
  rintro e w1 ⟨rfl, r1, b1, z1⟩
  have H1 := Lib.hid z1
  clear z1
  go_wp2_with fail
  go_loopg [5, 6] N (fun g ov iv wx => ∃ k : Nat, g = N - k ∧ k ≤ N ∧ iv = .int .i64 k ∧ TreeHas w.heap.size wx (w.heap.size + 1) w.heap.size (addAll (l.take k)).1 ∧ Own RMv.cells 7 26 w.heap.size wx ov (addAll (l.take k)).2 ∧ Below w.heap.size w wx)
  case atStart => exact ⟨0, rfl, Nat.zero_le _, rfl, by rw [List.take_zero, addAll_nil]; exact r1, by rw [List.take_zero, addAll_nil]; exact Own.nil, b1⟩
  case round =>
    obtain ⟨k, hg, hk, rfl, hT, hO, hB⟩ := hrel
    have HG := Lib.hid hg
    clear hg r1 b1
    by_cases hlt : k < N
    · obtain ⟨x, hx⟩ : ∃ x, l[k]? = some x := ⟨_, List.getElem?_eq_getElem (by omega)⟩
      obtain ⟨b, o, cp, hve, hcs⟩ := hv.rcells (by intro e; rw [e] at hx; simp at hx)
      cases hve
      have hat := hcs k x hx
      obtain ⟨y0, y1, y2, y3, y4, y5, y6⟩ := hat.of (fun o u hu => (hB.cell (p := ⟨b, o, none⟩) (cell_lt hu)).trans hu)
      have hbl : b < w.heap.size := cell_lt hat.1
      have hkl : k < l.length := by omega
      have HX := Lib.hid (take_snoc14 hx)
      have hlen := addAll_len (l.take k)
      rw [List.length_take] at hlen
      obtain ⟨z, hz⟩ : ∃ z, z = moveCode (addAll (l.take k)).1 x.at_ x.block x.under := ⟨_, rfl⟩
      have hM := fun (W : World) (h : TreeHas w.heap.size W (w.heap.size + 1) w.heap.size (addAll (l.take k)).1) (hw : w.heap.size ≤ W.heap.size) => move_any (w.heap.size + 1) x.at_ x.block x.under x.key W h hw (by omega)
      rw [← hz] at hM
      have HM := Lib.hid hM
      have hnt : ¬ Touch w.heap.size wr (w.heap.size + 1) w.heap.size b := by rintro (h | h | ⟨h, _⟩) <;> omega
      have hno := own_touch hT hO
      have hwd : w.heap.size ≤ wr.drew.heap.size := hB.size
      have HZ := Lib.hid hz
      clear hcs hx hM hz hat
      go_wp2_with fail
      go_region_held3 (fun W => W.cell? ⟨b, o + k * 7, none⟩ = some (.int .i64 x.at_.n) ∧ W.cell? ⟨b, o + k * 7 + 1, none⟩ = some (.int .i64 x.at_.r) ∧ W.cell? ⟨b, o + k * 7 + 2, none⟩ = some (.int .i64 x.block.n) ∧ W.cell? ⟨b, o + k * 7 + 3, none⟩ = some (.int .i64 x.block.r) ∧ W.cell? ⟨b, o + k * 7 + 4, none⟩ = some (.int .i64 x.under.n) ∧ W.cell? ⟨b, o + k * 7 + 5, none⟩ = some (.int .i64 x.under.r) ∧ W.cell? ⟨b, o + k * 7 + 6, none⟩ = some (.string x.key)) (first | exact ⟨y0, y1, y2, y3, y4, y5, y6⟩ | exact ⟨x5.keep y0 hnt, x5.keep y1 hnt, x5.keep y2 hnt, x5.keep y3 hnt, x5.keep y4 hnt, x5.keep y5 hnt, x5.keep y6 hnt⟩) ((go_at_call 14; ((with_reducible refine (HM.out _ hT.drew hwd).mono ?_); rintro e w5 ⟨rfl, hT5, x5⟩; simp only [ext_drew] at x5)))
      have hO5 := hO.ext x5 hno
      have hB5 := touch_below hB hT x5 (Nat.le_refl _)
      replace y0 := x5.keep y0 hnt
      replace y1 := x5.keep y1 hnt
      replace y2 := x5.keep y2 hnt
      replace y3 := x5.keep y3 hnt
      replace y4 := x5.keep y4 hnt
      replace y5 := x5.keep y5 hnt
      replace y6 := x5.keep y6 hnt
      clear hT hO hB x5 hno hnt HM
      by_cases hz0 : z = 0
      · subst hz0
        have hs : addAll (l.take (k + 1)) = (addC (addAll (l.take k)).1 x.at_ x.ch, (addAll (l.take k)).2 ++ [x]) := by
          rw [HX.out, addAll_snoc, addStep, if_pos HZ.out.symm]
        have HS := Lib.hid hs
        clear hs
        go_wp2_with (at_builtin; refine wpList_append_struct rfl _ _ _ rfl i0 (.agg #[.int .i64 0, .int .i64 0, .int .i64 0, .int .i64 0, .int .i64 0, .int .i64 0, .string ⟨#[]⟩]) 64 Try.underlying22 hi hi0 hi1 hi2 rfl (by omega) RMv.len RMv.one rfl (hO5.alloc _) x w5.heap.size 1 rfl ?_ (by unfold maxLen; omega) (by omega) (by have := hB5.size; simp; omega) ?_)
        · intro j u hj
          match j, hj with
          | 0, hj => simp [RMv.cells] at hj; subst hj; go_simp
          | 1, hj => simp [RMv.cells] at hj; subst hj; go_simp
          | 2, hj => simp [RMv.cells] at hj; subst hj; go_simp
          | 3, hj => simp [RMv.cells] at hj; subst hj; go_simp
          | 4, hj => simp [RMv.cells] at hj; subst hj; go_simp
          | 5, hj => simp [RMv.cells] at hj; subst hj; go_simp
          | 6, hj => simp [RMv.cells] at hj; subst hj; go_simp
          | n + 7, hj => simp [RMv.cells] at hj
        · intro v' w6 hO6 x6
          go_wp2_with fail
          go_roundg (N - (k + 1))
          case measure => rw [HG.out]; omega
          case rel =>
            have hT6 := (hT5.alloc _).own (hO5.alloc _) x6
            refine ⟨k + 1, rfl, hlt, by go_num, by rw [HS.out]; exact hT6, by rw [HS.out]; exact hO6, ?_⟩
            exact Ext.new (hB5.alloc hB5.size _) x6 (fun b hb _ e => by have := (hO5.blk _ e).1; omega) (by have := hB5.size; simp; omega)
      · have hq : (z == 0) = false := by simp [hz0]
        have hs : addAll (l.take (k + 1)) = (addC (addAll (l.take k)).1 x.at_ x.ch, (addAll (l.take k)).2) := by
          rw [HX.out, addAll_snoc, addStep, if_neg (fun e => hz0 (HZ.out.trans e))]
        have HS := Lib.hid hs
        clear hs
        go_wp2_with fail
        go_roundg (N - (k + 1))
        case measure => rw [HG.out]; omega
        case rel => exact ⟨k + 1, rfl, hlt, by go_num, by rw [HS.out]; exact hT5, by rw [HS.out]; exact hO5, hB5⟩
    · obtain rfl : k = N := by omega
      have ht : l.take 60 = l.take k := by
        rw [HN.out]
        by_cases h60 : l.length ≤ 60
        · rw [Nat.min_eq_left h60, List.take_of_length_le h60, List.take_of_length_le (Nat.le_refl _)]
        · rw [Nat.min_eq_right (by omega)]
      rw [← ht] at hT hO
      clear ht
      by_cases hkl : k < l.length
      · have hk60 : ¬ k < 60 := by have := HN.out; omega
        go_wp2_with fail
        go_ret2
        exact ⟨_, rfl, hT, hO, hB⟩
      · go_wp2_with fail
        go_ret2
        exact ⟨_, rfl, hT, hO, hB⟩

end Go.Proofs.Ytilonmpcifohiaa
