/- Layer 14: a tree by what it has: New, Move, Parent, Took. -/
import Derived.Test.YtilonmpcifohiaaMove14
import Derived.Laws.ResultCell
namespace Go.Proofs.Ytilonmpcifohiaa
open Go.RowKit
set_option linter.unusedSimpArgs false
set_option linter.unusedVariables false
attribute [local go_sem] MapIs.alloc MapIs.drew MapIs.setCell

open Classical in
/-- One more, by the stamps. -/
noncomputable def insC : List (St × Ch) → St × Ch → List (St × Ch)
  | [], x => [x]
  | y :: ys, x => if stLt y.1 x.1 then y :: insC ys x else x :: y :: ys

theorem insC_length : ∀ (c : List (St × Ch)) (x : St × Ch), (insC c x).length = c.length + 1
  | [], x => rfl
  | y :: ys, x => by
    unfold insC
    split
    · simp [insC_length ys x]
    · rfl

theorem insM_core : ∀ (l : List Mv) (i : Nat) (y : Mv), i ≤ l.length → (∀ (k : Nat) m, l[k]? = some m → (k < i ↔ stLt m.at_ y.at_)) → (insM l i y).map Mv.core = insC (l.map Mv.core) y.core
  | [], i, y, hi, _ => by
    obtain rfl : i = 0 := by simpa using hi
    rfl
  | x :: l, 0, y, _, h => by
    have hn : ¬ stLt x.core.1 y.core.1 := fun e => absurd ((h 0 x rfl).2 e) (by omega)
    show _ = insC (x.core :: l.map Mv.core) y.core
    unfold insC
    rw [if_neg hn]
    rfl
  | x :: l, i + 1, y, hi, h => by
    have hx : stLt x.core.1 y.core.1 := (h 0 x rfl).1 (by omega)
    have ih := insM_core l i y (by simpa using hi) (fun k m hk => by
      have := h (k + 1) m (by simpa using hk)
      rwa [Nat.add_lt_add_iff_right] at this)
    show _ = insC (x.core :: l.map Mv.core) y.core
    unfold insC
    rw [if_pos hx, ← ih]
    rfl

/-- Where blocks hang by these moves. -/
noncomputable def hang (c : List (St × Ch)) : Hang := play (c.map (·.2))
/-- Whether a move took effect. -/
noncomputable def tookAt (h : Hang) : List (St × Ch) → St → Bool
  | [], _ => false
  | x :: r, a => if x.1 = a then tookH h x.2 else tookAt (stepH h x.2) r a
noncomputable def tookC (c : List (St × Ch)) (a : St) : Bool := tookAt (fun _ => none) c a

theorem tookAt_found : ∀ (c pre : List (St × Ch)) (i : Nat) (a : St) (x : Ch), c[i]? = some (a, x) → (∀ (j : Nat) y, j < i → c[j]? = some y → y.1 ≠ a) → tookAt (hang pre) c a = tookH (hang (pre ++ c.take i)) x
  | [], pre, i, a, x, h, _ => by simp at h
  | y :: r, pre, 0, a, x, h, _ => by
    simp only [List.getElem?_cons_zero, Option.some.injEq] at h
    subst h
    simp [tookAt]
  | y :: r, pre, i + 1, a, x, h, hn => by
    have h0 : y.1 ≠ a := hn 0 y (by omega) rfl
    have hs : stepH (hang pre) y.2 = hang (pre ++ [y]) := by unfold hang; rw [List.map_append]; exact (play_snoc _ _).symm
    rw [tookAt, if_neg h0, hs, tookAt_found r (pre ++ [y]) i a x (by simpa using h) (fun j z hj hz => hn (j + 1) z (by omega) (by simpa using hz))]
    simp
theorem tookAt_none : ∀ (c : List (St × Ch)) (h : Hang) (a : St), (∀ y ∈ c, y.1 ≠ a) → tookAt h c a = false
  | [], _, _, _ => rfl
  | y :: r, h, a, hn => by
    rw [tookAt, if_neg (hn y (by simp))]
    exact tookAt_none r _ a (fun z hz => hn z (by simp [hz]))
theorem tookC_found {c : List (St × Ch)} {i : Nat} {a : St} {x : Ch} (h : c[i]? = some (a, x)) (hn : ∀ (j : Nat) y, j < i → c[j]? = some y → y.1 ≠ a) : tookC c a = tookH (hang (c.take i)) x := by
  have := tookAt_found c [] i a x h hn
  rw [List.nil_append] at this
  exact this
theorem tookC_none {c : List (St × Ch)} {a : St} (hn : ∀ y ∈ c, y.1 ≠ a) : tookC c a = false := tookAt_none c _ a hn

/-- A tree in memory that has these moves. -/
def TreeHas (base : Nat) (w : World) (t mh : Nat) (c : List (St × Ch)) : Prop := ∃ v l hl, TreeIs base w t mh v l hl ∧ l.map Mv.core = c

section
variable {base : Nat} {w w' : World} {t mh : Nat} {c : List (St × Ch)}
theorem TreeHas.below (h : TreeHas base w t mh c) (hb : Below w.heap.size w w') : TreeHas base w' t mh c := by
  obtain ⟨v, l, hl, h1, h2⟩ := h
  exact ⟨v, l, hl, h1.below hb, h2⟩
theorem TreeHas.alloc (h : TreeHas base w t mh c) (o : Obj) : TreeHas base (w.alloc o) t mh c := h.below ((Below.refl _ _).alloc (Nat.le_refl _) _)
theorem TreeHas.drew (h : TreeHas base w t mh c) : TreeHas base w.drew t mh c := h.below (Below.refl _ _).drew
theorem TreeHas.lt (h : TreeHas base w t mh c) : base ≤ t ∧ base ≤ mh ∧ t < w.heap.size ∧ mh < w.heap.size := by
  obtain ⟨v, l, hl, h1, h2⟩ := h
  exact ⟨h1.lo, h1.lom, (Array.getElem?_eq_some_iff.1 h1.blk).1, h1.map.lt⟩
theorem TreeHas.ext {S : Nat → Prop} (h : TreeHas base w t mh c) (hx : Ext S w w') (h1 : ¬ S t) (h2 : ¬ S mh) (h3 : ∀ b cur, base ≤ b → w.heap[b]? = some (.cells cur 66 (0, 0)) → ¬ S b) (h4 : ∀ b c, BoxC w b c → ¬ S b) : TreeHas base w' t mh c := by
  obtain ⟨v, l, hl, hT, hc⟩ := h
  refine ⟨v, l, hl, hT.ext hx ?_, hc⟩
  rintro k ((h | h | h) | ⟨c, h⟩)
  · rw [h]; exact h1
  · rw [h]; exact h2
  · obtain ⟨cur, hcur⟩ := hT.own.tag h
    exact h3 k cur (hT.own.blk k h).1 hcur
  · exact h4 k c h

open Classical in
noncomputable def moveCode (c : List (St × Ch)) (a b u : St) : Int := if goodB a b u = true then (if ∃ x ∈ c, x.1 = a then 141 else 0) else 1
open Classical in
noncomputable def addC (c : List (St × Ch)) (a : St) (x : Ch) : List (St × Ch) := if moveCode c a x.block x.under = 0 then insC c (a, x) else c
theorem addC_length (c : List (St × Ch)) (a : St) (x : Ch) : (addC c a x).length ≤ c.length + 1 := by
  unfold addC
  split
  · rw [insC_length]; exact Nat.le_refl _
  · omega

theorem move_any (t : Nat) (a b u : St) (key : ByteArray) (w : World) (h : TreeHas base w t mh c) (hbw : base ≤ w.heap.size) (hsz : c.length ≤ 900) :
    Calls Try.prog 14 #[.pointer (some ⟨t, 0, none⟩), .agg #[.int .i64 a.n, .int .i64 a.r], .agg #[.int .i64 b.n, .int .i64 b.r], .agg #[.int .i64 u.n, .int .i64 u.r], .string key] w
      fun e w' => e = .returned (.int .i64 (moveCode c a b u)) ∧ TreeHas base w' t mh (addC c a ⟨b, u, key⟩) ∧ Ext (Touch base w t mh) w w' := by
  have hbad : goodB a b u = false → ∀ w', Below w.heap.size w w' → Ending.returned (.int .i64 1) = Ending.returned (.int .i64 (moveCode c a b u)) ∧ TreeHas base w' t mh (addC c a ⟨b, u, key⟩) ∧ Ext (Touch base w t mh) w w' := fun hg w' hb => by
    have e : moveCode c a b u = 1 := by simp [moveCode, hg]
    refine ⟨by rw [e], ?_, Ext.of_below hb⟩
    rw [addC, if_neg (by rw [show moveCode c a (Ch.mk b u key).block (Ch.mk b u key).under = 1 from e]; omega)]
    exact h.below hb
  cases h1 : rightB a with
  | false =>
    refine (move_bad1 t a b u key w h1).mono ?_
    rintro e w' ⟨rfl, hb⟩
    exact hbad (by simp [goodB, h1]) w' hb
  | true =>
    cases h2 : rightB b with
    | false =>
      refine (move_bad2 t a b u key w h1 h2).mono ?_
      rintro e w' ⟨rfl, hb⟩
      exact hbad (by simp [goodB, h2]) w' hb
    | true =>
      by_cases h3 : u = ⟨0, 0⟩ ∨ rightB u = true
      · have hg : goodB a b u = true := by rcases h3 with h3 | h3 <;> simp [goodB, h1, h2, h3]
        obtain ⟨v, l, hl, hT, rfl⟩ := h
        rw [List.length_map] at hsz
        by_cases hin : ∃ m ∈ l, m.at_ = a
        · refine (move_twice t a b u key w h1 h2 h3 hT (by omega) hin).mono ?_
          rintro e w' ⟨rfl, hb⟩
          have hin' : ∃ x ∈ l.map Mv.core, x.1 = a := by
            obtain ⟨m, h4, h5⟩ := hin
            exact ⟨m.core, List.mem_map_of_mem h4, h5⟩
          have e : moveCode (l.map Mv.core) a b u = 141 := by unfold moveCode; rw [if_pos hg, if_pos hin']
          refine ⟨by rw [e], ?_, Ext.of_below hb⟩
          rw [addC, if_neg (by rw [show moveCode (l.map Mv.core) a (Ch.mk b u key).block (Ch.mk b u key).under = 141 from e]; omega)]
          exact ⟨v, l, hl, hT.below hb, rfl⟩
        · have hin2 : ∀ m ∈ l, m.at_ ≠ a := fun m hm e => hin ⟨m, hm, e⟩
          refine (move_ok t a b u key w h1 h2 h3 hT hbw hsz hin2).mono ?_
          rintro e w' ⟨rfl, v', l', hl', i, y, hT', hi, h5, rfl, h6, hx⟩
          have hin' : ¬ ∃ x ∈ l.map Mv.core, x.1 = a := by
            rintro ⟨x, h4, h5⟩
            obtain ⟨m, h6, rfl⟩ := List.mem_map.1 h4
            exact hin ⟨m, h6, h5⟩
          have e : moveCode (l.map Mv.core) a b u = 0 := by unfold moveCode; rw [if_pos hg, if_neg hin']
          refine ⟨by rw [e], ⟨v', l', hl', hT', ?_⟩, hx⟩
          rw [addC, if_pos (show moveCode (l.map Mv.core) a (Ch.mk b u key).block (Ch.mk b u key).under = 0 from e), h6, insM_core l i _ hi h5]
          rfl
      · have h4 : rightB u = false := by cases h : rightB u with | false => rfl | true => exact absurd (.inr h) h3
        have h5 : u ≠ ⟨0, 0⟩ := fun e => h3 (.inl e)
        refine (move_bad3 t a b u key w h1 h2 h4 h5).mono ?_
        rintro e w' ⟨rfl, hb⟩
        exact hbad (by simp [goodB, h4, h5]) w' hb

set_option maxHeartbeats 1000000 in
theorem new_tree (w : World) : Calls Try.prog 12 #[] w fun e w' =>
    e = .returned (.pointer (some ⟨w.heap.size + 1, 0, none⟩)) ∧ TreeHas w.heap.size w' (w.heap.size + 1) w.heap.size [] ∧ Below w.heap.size w w' ∧ w'.heap.size = w.heap.size + 2 := by
  have hmm := @run_makeMap Try.prog
  have hT : TreeHas w.heap.size ((w.alloc (.map #[] 0)).alloc (.cells #[.slice none 0 0, .map (some w.heap.size)] 58)) (w.heap.size + 1) w.heap.size [] := by
    refine ⟨.slice none 0 0, [], [], ⟨?_, by omega, by omega, Own.nil, (MapIs.made w).alloc _, agree_nil, List.Pairwise.nil, fun i m h => by simp at h⟩, rfl⟩
    have := World.alloc_heap_new (w.alloc (.map #[] 0)) (.cells #[.slice none 0 0, .map (some w.heap.size)] 58)
    simpa using this
  have hb : Below w.heap.size w ((w.alloc (.map #[] 0)).alloc (.cells #[.slice none 0 0, .map (some w.heap.size)] 58)) := ((Below.refl _ _).alloc (Nat.le_refl _) _).alloc (by simp) _
  go_enter Try.func12, Try.ntmps12
  go_wp2
  go_ret
  exact ⟨rfl, hT, hb, by simp⟩

def zeroCh : Ch := ⟨⟨0, 0⟩, ⟨0, 0⟩, ⟨#[]⟩⟩

set_option maxHeartbeats 1000000 in
theorem parent_any (t : Nat) (bn br : Int) (w : World) (h : TreeHas base w t mh c) :
    Calls Try.prog 15 #[.pointer (some ⟨t, 0, none⟩), .agg #[.int .i64 bn, .int .i64 br]] w
      fun e w' => ∃ (x : Ch) (is : Bool), e = .returned (.tuple #[.agg #[.int .i64 x.block.n, .int .i64 x.block.r, .int .i64 x.under.n, .int .i64 x.under.r, .string x.key], .bool is]) ∧
        ((is = true ∧ hang c ⟨bn, br⟩ = some x) ∨ (is = false ∧ hang c ⟨bn, br⟩ = none ∧ x = zeroCh)) ∧ Below w.heap.size w w' := by
  obtain ⟨v, l, hl, hT, rfl⟩ := h
  have hag := hT.agree
  rw [kids_core] at hag
  have hh : aget hl ⟨bn, br⟩ = hang (l.map Mv.core) ⟨bn, br⟩ := hag ⟨bn, br⟩
  obtain ⟨x, is, hlk, hx⟩ : ∃ (x : Ch) (is : Bool), (∀ W, MapIs St.val Ch.val W mh hl → (Instr.lookup 55 (.map (some mh)) (.agg #[.int .i64 bn, .int .i64 br]) true).run Try.prog W = .ok (.tuple #[.agg #[.int .i64 x.block.n, .int .i64 x.block.r, .int .i64 x.under.n, .int .i64 x.under.r, .string x.key], .bool is]) W) ∧
      ((is = true ∧ hang (l.map Mv.core) ⟨bn, br⟩ = some x) ∨ (is = false ∧ hang (l.map Mv.core) ⟨bn, br⟩ = none ∧ x = zeroCh)) := by
    cases hg : aget hl ⟨bn, br⟩ with
    | none =>
      refine ⟨zeroCh, false, fun W hW => ?_, .inr ⟨rfl, hh.symm.trans hg, rfl⟩⟩
      have := hW.lookupOk key_stamp und_hang zero_child ⟨bn, br⟩
      rw [hg] at this
      exact this
    | some y =>
      refine ⟨y, true, fun W hW => ?_, .inl ⟨rfl, hh.symm.trans hg⟩⟩
      have := hW.lookupOk key_stamp und_hang zero_child ⟨bn, br⟩
      rw [hg] at this
      exact this
  have HX := Lib.hid hx
  have c1 := cell_of1 hT.blk
  have p1 := hT.map
  clear hx hh hag hT
  go_enter Try.func15, Try.ntmps15
  go_wp2_with fail
  have z := cell_lt c1
  have j1 : ((w.alloc (.cells #[.int .i64 bn, .int .i64 br] 24)).alloc (.cells #[.int .i64 0, .int .i64 0, .int .i64 0, .int .i64 0, .string ⟨#[]⟩] 36)).cell? ⟨t, 1, none⟩ = some (.map (some mh)) := cell_alloc (cell_alloc c1 _) _
  have p2 := (p1.alloc (.cells #[.int .i64 bn, .int .i64 br] 24)).alloc (.cells #[.int .i64 0, .int .i64 0, .int .i64 0, .int .i64 0, .string ⟨#[]⟩] 36)
  have i4 : ((w.alloc (.cells #[.int .i64 bn, .int .i64 br] 24)).alloc (.cells #[.int .i64 0, .int .i64 0, .int .i64 0, .int .i64 0, .string ⟨#[]⟩] 36)).cell? ⟨w.heap.size, 0, none⟩ = some (.int .i64 bn) := by go_simp
  have i5 : ((w.alloc (.cells #[.int .i64 bn, .int .i64 br] 24)).alloc (.cells #[.int .i64 0, .int .i64 0, .int .i64 0, .int .i64 0, .string ⟨#[]⟩] 36)).cell? ⟨w.heap.size, 1, none⟩ = some (.int .i64 br) := by go_simp
  have hb : Below w.heap.size w ((w.alloc (.cells #[.int .i64 bn, .int .i64 br] 24)).alloc (.cells #[.int .i64 0, .int .i64 0, .int .i64 0, .int .i64 0, .string ⟨#[]⟩] 36)) := ((Below.refl _ _).alloc (Nat.le_refl _) _).alloc (by simp) _
  have hz : ((w.alloc (.cells #[.int .i64 bn, .int .i64 br] 24)).alloc (.cells #[.int .i64 0, .int .i64 0, .int .i64 0, .int .i64 0, .string ⟨#[]⟩] 36)).heap.size = w.heap.size + 2 := by simp
  have e0 : ((w.alloc (.cells #[.int .i64 bn, .int .i64 br] 24)).alloc (.cells #[.int .i64 0, .int .i64 0, .int .i64 0, .int .i64 0, .string ⟨#[]⟩] 36)).cell? ⟨w.heap.size + 1, 0, none⟩ = some (.int .i64 0) := by go_simp
  have e1 : ((w.alloc (.cells #[.int .i64 bn, .int .i64 br] 24)).alloc (.cells #[.int .i64 0, .int .i64 0, .int .i64 0, .int .i64 0, .string ⟨#[]⟩] 36)).cell? ⟨w.heap.size + 1, 1, none⟩ = some (.int .i64 0) := by go_simp
  have e2 : ((w.alloc (.cells #[.int .i64 bn, .int .i64 br] 24)).alloc (.cells #[.int .i64 0, .int .i64 0, .int .i64 0, .int .i64 0, .string ⟨#[]⟩] 36)).cell? ⟨w.heap.size + 1, 2, none⟩ = some (.int .i64 0) := by go_simp
  have e3 : ((w.alloc (.cells #[.int .i64 bn, .int .i64 br] 24)).alloc (.cells #[.int .i64 0, .int .i64 0, .int .i64 0, .int .i64 0, .string ⟨#[]⟩] 36)).cell? ⟨w.heap.size + 1, 3, none⟩ = some (.int .i64 0) := by go_simp
  have e4 : ((w.alloc (.cells #[.int .i64 bn, .int .i64 br] 24)).alloc (.cells #[.int .i64 0, .int .i64 0, .int .i64 0, .int .i64 0, .string ⟨#[]⟩] 36)).cell? ⟨w.heap.size + 1, 4, none⟩ = some (.string ⟨#[]⟩) := by go_simp
  have g0 : ((w.alloc (.cells #[.int .i64 bn, .int .i64 br] 24)).alloc (.cells #[.int .i64 0, .int .i64 0, .int .i64 0, .int .i64 0, .string ⟨#[]⟩] 36)).frozen? ⟨w.heap.size + 1, 0, none⟩ = false := by go_simp
  have g1 : ((w.alloc (.cells #[.int .i64 bn, .int .i64 br] 24)).alloc (.cells #[.int .i64 0, .int .i64 0, .int .i64 0, .int .i64 0, .string ⟨#[]⟩] 36)).frozen? ⟨w.heap.size + 1, 1, none⟩ = false := by go_simp
  have g2 : ((w.alloc (.cells #[.int .i64 bn, .int .i64 br] 24)).alloc (.cells #[.int .i64 0, .int .i64 0, .int .i64 0, .int .i64 0, .string ⟨#[]⟩] 36)).frozen? ⟨w.heap.size + 1, 2, none⟩ = false := by go_simp
  have g3 : ((w.alloc (.cells #[.int .i64 bn, .int .i64 br] 24)).alloc (.cells #[.int .i64 0, .int .i64 0, .int .i64 0, .int .i64 0, .string ⟨#[]⟩] 36)).frozen? ⟨w.heap.size + 1, 3, none⟩ = false := by go_simp
  have g4 : ((w.alloc (.cells #[.int .i64 bn, .int .i64 br] 24)).alloc (.cells #[.int .i64 0, .int .i64 0, .int .i64 0, .int .i64 0, .string ⟨#[]⟩] 36)).frozen? ⟨w.heap.size + 1, 4, none⟩ = false := by go_simp
  clear c1 p1
  generalize ((w.alloc (.cells #[.int .i64 bn, .int .i64 br] 24)).alloc (.cells #[.int .i64 0, .int .i64 0, .int .i64 0, .int .i64 0, .string ⟨#[]⟩] 36)) = w1 at *
  have ne0 : ¬ w.heap.size + 1 = w1.heap.size := by omega
  go_region_held3 (fun W => W.cell? ⟨t, 1, none⟩ = some (.map (some mh)) ∧ W.cell? ⟨w.heap.size, 0, none⟩ = some (.int .i64 bn) ∧ W.cell? ⟨w.heap.size, 1, none⟩ = some (.int .i64 br) ∧ MapIs St.val Ch.val W mh hl) (first | exact ⟨j1, i4, i5, p2⟩ | exact ⟨cell_alloc j1 _, cell_alloc i4 _, cell_alloc i5 _, p2.alloc _⟩ | exact ⟨cell_alloc j1 _, cell_alloc i4 _, cell_alloc i5 _, (p2.alloc _).drew⟩) (fail)
  all_goals go_wp2
  all_goals
    (try simp only [Exit.inBlock, Exit.then])
    refine bodyPost_ret (v := .tuple #[.agg #[.int .i64 x.block.n, .int .i64 x.block.r, .int .i64 x.under.n, .int .i64 x.under.r, .string x.key], .bool is]) (by rw [results_cell_tmp rfl]; go_simp) rfl ?_
    refine ⟨x, is, rfl, HX.out, ?_⟩
    repeat' (first | with_reducible exact hb | with_reducible refine Below.drew ?_ | with_reducible refine Below.alloc ?_ (by simp <;> omega) _ | with_reducible refine Below.setCell ?_ (by simp <;> omega) _)

set_option maxHeartbeats 1000000 in
theorem took_any (t : Nat) (bn br : Int) (w : World) (h : TreeHas base w t mh c) (hsz : c.length ≤ 1000) :
    Calls Try.prog 16 #[.pointer (some ⟨t, 0, none⟩), .agg #[.int .i64 bn, .int .i64 br]] w
      fun e w' => e = .returned (.bool (tookC c ⟨bn, br⟩)) ∧ Below w.heap.size w w' := by
  obtain ⟨v, l, hl, hT, rfl⟩ := h
  rw [List.length_map] at hsz
  obtain ⟨va, vc, rfl, hcap, hmax, _⟩ := hT.own.slice Mv.len
  unfold maxLen at hmax
  have hb : Below w.heap.size w (w.alloc (.cells #[.int .i64 bn, .int .i64 br] 24)) := (Below.refl _ _).alloc (Nat.le_refl _) _
  have hT1 := hT.below hb
  have i4 : (w.alloc (.cells #[.int .i64 bn, .int .i64 br] 24)).cell? ⟨w.heap.size, 0, none⟩ = some (.int .i64 bn) := by go_simp
  have i5 : (w.alloc (.cells #[.int .i64 bn, .int .i64 br] 24)).cell? ⟨w.heap.size, 1, none⟩ = some (.int .i64 br) := by go_simp
  go_enter Try.func16, Try.ntmps16
  go_wp2_with fail
  generalize w.alloc (.cells #[.int .i64 bn, .int .i64 br] 24) = w1 at *
  refine (find_any t _ l bn br _ (cell_of hT1.blk) (hT1.own.slice Mv.len) hT1.rising hsz).mono ?_
  rintro e w5 ⟨i, is, rfl, hi1, hi2, hi3, b5⟩
  have hT5 := hT1.below b5
  have hB := hb.trans (b5.mono hb.size)
  cases is with
  | false =>
    have hv : tookC (l.map Mv.core) ⟨bn, br⟩ = false := tookC_none (fun y hy e => by
      obtain ⟨m, hm, rfl⟩ := List.mem_map.1 hy
      exact absurd (find_in hT.rising hi2 hi3 ⟨m, hm, e⟩) (by simp))
    have HV := Lib.hid hv
    clear hT hT1 hT5 hi2 hi3 hv
    go_wp2_with fail
    go_ret
    exact ⟨congrArg (fun b => Ending.returned (.bool b)) HV.out.symm, hB⟩
  | true =>
    obtain ⟨m, hm, hat⟩ := hi3.1 rfl
    have hil : i < l.length := (List.getElem?_eq_some_iff.1 hm).1
    have hv : tookC (l.map Mv.core) ⟨bn, br⟩ = m.took := by
      rw [tookC_found (i := i) (x := m.child) (by rw [List.getElem?_map, hm, ← hat]; rfl) (fun j y hj hy e => by
        rw [List.getElem?_map] at hy
        cases hq : l[j]? with
        | none => rw [hq] at hy; cases hy
        | some q =>
          rw [hq] at hy
          cases hy
          have h1 := hT.rising.at hj hq hm
          rw [hat, show q.at_ = ⟨bn, br⟩ from e] at h1
          exact stLt_irrefl _ h1), (hT.noted i m hm).1, kids_core, List.map_take]
      rfl
    have HV := Lib.hid hv
    rcases hT5.own.eq_slice with ⟨_, e0⟩ | ⟨gg, cap, e0, _, _⟩
    · rw [e0] at hil; simp at hil
    · cases e0
      have hma := MvAt.of hT5.own hm
      obtain ⟨_, _, _, _, _, _, _, m7, _⟩ := hma
      have q0 := cell_of hT5.blk
      clear hT hT1 hT5 hi2 hi3 hm hv hat
      go_wp2_with fail
      go_ret
      exact ⟨congrArg (fun b => Ending.returned (.bool b)) HV.out.symm, hB⟩

end

end Go.Proofs.Ytilonmpcifohiaa
