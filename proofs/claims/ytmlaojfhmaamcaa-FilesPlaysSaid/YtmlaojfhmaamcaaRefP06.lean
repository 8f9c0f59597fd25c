/- Layer 6's document answer: what its Cut leaves, in steps; one more step at its disk. -/
import Derived.Test.YtmlaojfhmaamcaaRefX06
import Derived.Test.YtmlaojfhmaamcaaSimD06
namespace Go.Proofs.Ytmlaojfhmaamcaa
open Go.RowKit Go.Deep
set_option linter.unusedSimpArgs false
set_option linter.unusedVariables false

theorem safeNR_take {L : List StepA} {k : Nat} {p : StepA} (nb : Nat) (h : L[k]? = some p) : safeNR nb (L.take (k + 1)) = if nb ≤ k ∧ p.kind = 6 then k else safeNR nb (L.take k) := by
  have hk := (List.getElem?_eq_some_iff.1 h).1
  rw [List.take_add_one, h, Option.toList_some, safeNR_snoc, List.length_take, Nat.min_eq_left (by omega)]
theorem safeNR_le (nb : Nat) : ∀ L : List StepA, safeNR nb L ≤ max nb L.length := by
  refine snoc_ind (by simp [safeNR]) (fun L s ih => ?_)
  rw [safeNR_snoc, List.length_append]
  split <;> simp <;> omega
theorem drop_take_snoc {L : List StepA} {k safe : Nat} {p : StepA} (h : L[k]? = some p) (hs : safe ≤ k) : (L.take (k + 1)).drop safe = (L.take k).drop safe ++ [p] := by
  have hk := (List.getElem?_eq_some_iff.1 h).1
  rw [List.take_add_one, h, Option.toList_some, List.drop_append_of_le_length (by rw [List.length_take]; omega)]
theorem openR_take {L : List StepA} {k safe : Nat} {p : StepA} (h : L[k]? = some p) (hs : safe ≤ k) : openR (L.take (k + 1)) safe = openR (L.take k) safe + if chgR p = true then 1 else 0 := by
  unfold openR
  rw [drop_take_snoc h hs, List.filter_append, List.length_append]
  by_cases hc : chgR p = true <;> simp [hc]
theorem openR_zero (L : List StepA) (safe : Nat) : openR (L.take safe) safe = 0 := by
  unfold openR
  rw [List.drop_eq_nil_of_le (by rw [List.length_take]; omega)]
  rfl
theorem openR_le (L : List StepA) (safe k : Nat) : openR (L.take k) safe ≤ k := by
  unfold openR
  refine Nat.le_trans (List.length_filter_le _ _) ?_
  rw [List.length_drop, List.length_take]
  omega
/-- The names there, so far; how many changes are still kept. -/
def thK (L : List StepA) (safe n0 k : Nat) : List Nm × Nat := ((L.take k).drop safe).foldl thereStep ((L.take (min k safe)).foldl namedR [], n0)
theorem thK_lt {L : List StepA} {safe n0 k : Nat} {p : StepA} (h : L[k]? = some p) (hs : k < safe) : thK L safe n0 (k + 1) = (namedR (thK L safe n0 k).1 p, n0) ∧ (thK L safe n0 k).2 = n0 := by
  unfold thK
  rw [List.drop_eq_nil_of_le (by rw [List.length_take]; omega), List.drop_eq_nil_of_le (by rw [List.length_take]; omega), Nat.min_eq_left (by omega), Nat.min_eq_left (by omega)]
  simp only [List.foldl_nil, and_true]
  rw [List.take_add_one, h, Option.toList_some, List.foldl_append]
  rfl
theorem thK_ge {L : List StepA} {safe n0 k : Nat} {p : StepA} (h : L[k]? = some p) (hs : safe ≤ k) : thK L safe n0 (k + 1) = thereStep (thK L safe n0 k) p := by
  unfold thK
  rw [drop_take_snoc h hs, List.foldl_append, Nat.min_eq_right (by omega), Nat.min_eq_right (by omega)]
  rfl
theorem thK_len (L : List StepA) (safe n0 : Nat) : ∀ k, k ≤ L.length → (thK L safe n0 k).1.length ≤ k ∧ (thK L safe n0 k).2 ≤ n0
  | 0, _ => by simp [thK]
  | k + 1, hk => by
    obtain ⟨p, hp⟩ : ∃ p, L[k]? = some p := ⟨_, List.getElem?_eq_getElem (by omega)⟩
    have ih := thK_len L safe n0 k (by omega)
    have hn := namedR_len (thK L safe n0 k).1 p
    by_cases hs : k < safe
    · rw [(thK_lt hp hs).1]
      exact ⟨by dsimp only; omega, Nat.le_refl _⟩
    · rw [thK_ge hp (by omega)]
      unfold thereStep
      split
      · exact ⟨by dsimp only; omega, by dsimp only; omega⟩
      · exact ⟨by omega, ih.2⟩
theorem thK_end (L : List StepA) (safe n0 : Nat) (hs : safe ≤ L.length) : (thK L safe n0 L.length).1 = thereR L safe n0 := by
  unfold thK thereR
  rw [List.take_length, Nat.min_eq_right hs]

/-- What an append to the document's disk wants. -/
theorem push_prep {B : Nat} {W : World} {ob : Nat} {va : Option Addr} {vn vc : Nat} {R : RefA} (h : RefIs B W ob (.slice va vn vc) R) :
    ∃ qs : List Stp, vn = qs.length ∧ Own Stp.cells 4 83 B W (.slice va qs.length vc) qs ∧ qs.length = R.L.length ∧ (∀ (i : Nat) q p, qs[i]? = some q → R.L[i]? = some p → StpIs B W q p) ∧
      W.cell? ⟨ob, 0, none⟩ = some (.slice va qs.length vc) ∧ W.cell? ⟨ob, 1, none⟩ = some (.int .i64 R.born) ∧ ob < W.heap.size := by
  obtain ⟨qs, ho, hl, hp⟩ := h.steps
  obtain ⟨_, _, e, _⟩ := ho.slice Stp.len
  simp only [Value.slice.injEq] at e
  have en := e.2.1
  subst en
  have c0 := Joins.cell_of_block h.blk 0
  have c1 := Joins.cell_of_block h.blk 1
  simp only [List.getElem?_toArray, List.getElem?_cons_succ, List.getElem?_cons_zero] at c0 c1
  exact ⟨qs, rfl, ho, hl, hp, c0, c1, h.lt⟩
theorem push_cells {B : Nat} {W : World} {ob : Nat} {va : Option Addr} {vn vc : Nat} {R : RefA} (h : RefIs B W ob (.slice va vn vc) R) : W.cell? ⟨ob, 0, none⟩ = some (.slice va vn vc) ∧ W.cell? ⟨ob, 1, none⟩ = some (.int .i64 R.born) := by
  obtain ⟨qs, rfl, _, _, _, c0, c1, _⟩ := push_prep h
  exact ⟨c0, c1⟩
theorem push_all {B : Nat} {W w3 : World} {ob : Nat} {va : Option Addr} {vn vc : Nat} {R : RefA} (h : RefIs B W ob (.slice va vn vc) R) (hb : Below W.heap.size W w3) (o : Obj) :
    ∀ w6, Ext (fun b => (Value.slice va vn vc).ownBlock = some b) (w3.alloc o) w6 → w6.heap[ob]? = some (.cells #[.slice va vn vc, .int .i64 R.born, .int .i64 R.bse] 35 (0, 0)) := fun w6 hx6 => by
  have hlt := h.lt
  have := hb.size
  have hnr : ¬ (Value.slice va vn vc).ownBlock = some ob := fun e => by
    obtain ⟨qs, ho, _⟩ := h.steps
    exact tag_ne (tag_own ho e) h.tag (by decide) rfl
  rw [hx6.block ob (by simp; omega) hnr, Below.heap_alloc _ _ _ (by omega), hb.block ob hlt, h.blk]
theorem rt_frame {B : Nat} {w5 W w' : World} {ob : Nat} {v v' : Value} {R R' : RefA} (hB : Below B w5 W) (h : RefIs B W ob v R) (ht : RTurned B W ob v w' v' R') (hs : B ≤ W.heap.size) : Below B w5 w' :=
  Ext.new hB ht.ext (fun i hi _ hp => by have := (h.foot hp).1; omega) hs
theorem freshL_take {L : List StepA} {ks : List Bool} {torn : Int} {t : List Nm} {j : Nat} {x : Nm} (h : t[j]? = some x) : freshL L ks torn (t.take (j + 1)) = ((freshL L ks torn (t.take j) ++ [⟨1, j, x.name, []⟩]) ++ [⟨2, j, ⟨#[]⟩, leftR L x.file ks torn⟩]) ++ [⟨5, j, ⟨#[]⟩, []⟩] := by
  have hj := (List.getElem?_eq_some_iff.1 h).1
  rw [List.take_add_one, h, Option.toList_some, freshL_snoc, List.length_take, Nat.min_eq_left (by omega)]
  simp
theorem freshL_lenK (L : List StepA) (ks : List Bool) (torn : Int) (t : List Nm) (j : Nat) : (freshL L ks torn (t.take j)).length ≤ 3 * j := by
  rw [freshL_len, List.length_take]
  omega

/-- append of one step to the document's disk, and the write into its cell. -/
theorem push_run {B : Nat} {w5 W : World} {ob : Nat} {va : Option Addr} {vn vc : Nat} {R : RefA} (h : RefIs B W ob (.slice va vn vc) R) (hB : Below B w5 W) (hs : B ≤ W.heap.size) (hn : R.L.length ≤ 600000) (q : Stp) (p : StepA) (hq : StpIs B W q p) :
    ∃ g cp w6, (Builtin.append_ #[33, 33] 33 #[.slice va vn vc, .slice (some ⟨W.heap.size, 0, none⟩) 1 1]).run Try.prog (W.alloc (.cells #[.int .i64 q.kind, .int .i64 q.file, .string q.name, .slice q.s.a q.s.n q.s.cap] 83)) = .ok (.slice (some ⟨g, 0, none⟩) (vn + 1) cp) w6 ∧
      w6.cell? ⟨ob, 0, none⟩ = some (.slice va vn vc) ∧ w6.cell? ⟨ob, 1, none⟩ = some (.int .i64 R.born) ∧ w6.frozen? ⟨ob, 0, none⟩ = false ∧ (∀ b u y, b < B → W.cell? ⟨b, u, none⟩ = some y → w6.cell? ⟨b, u, none⟩ = some y) ∧
      RefIs B (w6.setCell ⟨ob, 0, none⟩ (.slice (some ⟨g, 0, none⟩) (vn + 1) cp)) ob (.slice (some ⟨g, 0, none⟩) (vn + 1) cp) (pushR p R) ∧ Below B w5 (w6.setCell ⟨ob, 0, none⟩ (.slice (some ⟨g, 0, none⟩) (vn + 1) cp)) := by
  obtain ⟨i0, hi, hz0, hz1, hz2⟩ := info_parts info_step
  obtain ⟨qx, rfl, hpo, hpl, hpp, c0, c1, hlt⟩ := push_prep h
  have hall := push_all h (Below.refl _ _) (.cells #[.int .i64 q.kind, .int .i64 q.file, .string q.name, .slice q.s.a q.s.n q.s.cap] 83)
  obtain ⟨v6, w6, hr6, hown6, hx6, hnw6⟩ := append_struct_run (P := Try.prog) 33 33 i0 _ 56 Try.underlying33 hi hz0 hz1 hz2 rfl (by omega) Stp.len Stp.one (hpo.alloc (.cells #[.int .i64 q.kind, .int .i64 q.file, .string q.name, .slice q.s.a q.s.n q.s.cap] 83)) q W.heap.size 1 (stp_alloc _ q) (by unfold maxLen; omega) (by omega) (by simp; omega)
  obtain ⟨g6, cp6, rfl⟩ : ∃ g c, v6 = .slice (some ⟨g, 0, none⟩) (qx.length + 1) c := (by rcases hown6.eq_slice with ⟨_, h⟩ | ⟨g, c, h, _⟩; (simp at h); exact ⟨g, c, by simpa using h⟩)
  have hb6 := hall w6 hx6
  have g2 := Joins.cell_of_block hb6 0
  have g3 := Joins.cell_of_block hb6 1
  simp only [List.getElem?_toArray, List.getElem?_cons_succ, List.getElem?_cons_zero] at g2 g3
  have HT : RTurned B W ob (.slice va qx.length vc) (w6.setCell ⟨ob, 0, none⟩ (.slice (some ⟨g6, 0, none⟩) (qx.length + 1) cp6)) (.slice (some ⟨g6, 0, none⟩) (qx.length + 1) cp6) (pushR p R) := push_fin h (Below.refl _ _) hpl hpp hq hx6 hown6 (fun b hb => (hnw6 b hb).imp_right (fun e => by simp at e; omega)) (ext_set _ _ _ _) (by rw [Joins.block_setCell hb6]; rfl) (tag_cells hb6) rfl
  exact ⟨g6, cp6, w6, hr6, g2, g3, Joins.unfrozen_of_block hb6 0, fun b u y hb hy => hx6.keep (cell_alloc hy _) (fun e => by have := (hpo.blk b e).1; omega), HT.is_, rt_frame hB h HT hs⟩

theorem push_len {B : Nat} {W : World} {ob : Nat} {va : Option Addr} {vn vc : Nat} {R : RefA} (h : RefIs B W ob (.slice va vn vc) R) : vn = R.L.length := by
  obtain ⟨qs, rfl, _, hl, _⟩ := push_prep h
  exact hl
theorem RefIs.lower {B B' : Nat} {W : World} {ob : Nat} {v : Value} {R : RefA} (h : RefIs B W ob v R) (hb : B' ≤ B) : RefIs B' W ob v R := by
  obtain ⟨qs, ho, hl, hp⟩ := h.steps
  exact ⟨h.blk, Nat.le_trans hb h.lo, qs, ho.mono hb, hl, fun i q p h1 h2 => ⟨(hp i q p h1 h2).1, (hp i q p h1 h2).2.1, (hp i q p h1 h2).2.2.1, (hp i q p h1 h2).2.2.2.mono hb⟩⟩
theorem set_any {B : Nat} {w5 W : World} {ob : Nat} {v : Value} {R : RefA} (h : RefIs B W ob v R) (hB : Below B w5 W) (hs : B ≤ W.heap.size) (i : Nat) (u : Value) : StepsIs B (W.setCell ⟨ob, i, none⟩ u) v R.L ∧ Below B w5 (W.setCell ⟨ob, i, none⟩ u) :=
  ⟨h.steps.ext (ext_set _ _ _ _) (fun b hb e => by
      obtain ⟨qs, ho, _⟩ := h.steps
      exact tag_ne (tag_own ho hb) h.tag (by decide) e) (fun b _ ht e => tag_ne ht h.tag (by decide) e),
    Ext.new hB (ext_set _ _ _ _) (fun i hi _ e => by have := h.lo; omega) hs⟩
theorem set_born {B : Nat} {w5 W : World} {ob : Nat} {v : Value} {R : RefA} (h : RefIs B W ob v R) (hB : Below B w5 W) (hs : B ≤ W.heap.size) (n : Int) : RefIs B (W.setCell ⟨ob, 1, none⟩ (.int .i64 n)) ob v { R with born := n } ∧ Below B w5 (W.setCell ⟨ob, 1, none⟩ (.int .i64 n)) :=
  ⟨⟨by rw [Joins.block_setCell h.blk]; rfl, h.lo, (set_any h hB hs 1 _).1⟩, (set_any h hB hs 1 _).2⟩
theorem set_base {B : Nat} {w5 W : World} {ob : Nat} {v : Value} {R : RefA} (h : RefIs B W ob v R) (hB : Below B w5 W) (hs : B ≤ W.heap.size) (n : Int) : RefIs B (W.setCell ⟨ob, 2, none⟩ (.int .i64 n)) ob v { R with bse := n } ∧ Below B w5 (W.setCell ⟨ob, 2, none⟩ (.int .i64 n)) :=
  ⟨⟨by rw [Joins.block_setCell h.blk]; rfl, h.lo, (set_any h hB hs 2 _).1⟩, (set_any h hB hs 2 _).2⟩

end Go.Proofs.Ytmlaojfhmaamcaa
