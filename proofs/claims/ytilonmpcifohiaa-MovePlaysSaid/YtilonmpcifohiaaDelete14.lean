/- Layer 14: slices.DeleteFunc at Kids' own predicate. -/
import Derived.Test.YtilonmpcifohiaaKids14a
import Derived.Test.YtilonmpcifohiaaInsert14
import Derived.Test.YtilonmpcifohiaaSlab
import Derived.Test.YtilonmpcifohiaaKeySt
import Derived.BigRegion
import Derived.IntWalk
import Derived.Outline
import Derived.Laws.CopyRow
namespace Go.Proofs.Ytilonmpcifohiaa
open Go.RowKit
set_option linter.unusedSimpArgs false
set_option linter.unusedVariables false

theorem Slab.clear {P : Program} {α : Type} {ea : α → List Value} {k sz blk n : Nat} {T : TypeId} {w : World} {f : Nat → α} {i : Nat} (h : Slab ea k T sz w blk n f) (hi : i < n) (hk : ∀ x, (ea x).length = k) (hk0 : 0 < k) (t : TypeId) (z : Value) (ht : P.underlying t = some (.slice T))
    (hv : ∀ w, (zeroValue T).run P w = .ok z w) (hz : z.cells.size = k) (h1 : ∀ x, x < k → (z.cells[x]!).oneCell' = true) (c : Nat) :
    ∃ w', (∀ ty, (Builtin.clear_ #[t] ty #[.slice (some ⟨blk, i * k, none⟩) (n - i) c]).run P w = .ok (.tuple #[]) w') ∧ Slab ea k T sz w' blk i f ∧ Ext (· = blk) w w' := by
  obtain ⟨cur, hg, hs, hn, hf⟩ := h
  have hmul : i * k + (n - i) * k = n * k := by rw [← Nat.add_mul]; congr 1; omega
  have hlen : (Builtin.zeroCells z.cells (n - i)).toList.length = (n - i) * k := by simp [Builtin.zeroCells, hz]
  have hone : ∀ v ∈ (Builtin.zeroCells z.cells (n - i)).toList, v.oneCell' = true := fun v hv => by
    simp only [Builtin.zeroCells, Array.toList_map, Array.toList_range, List.mem_map] at hv
    obtain ⟨x, _, rfl⟩ := hv
    exact h1 _ (by rw [hz]; exact Nat.mod_lt _ hk0)
  have hst := run_storeCells_at P blk (i * k) T (Builtin.zeroCells z.cells (n - i)).toList 0 cur w hg (by rw [hlen]; omega) hone
  refine ⟨w.setRow blk (cur.toList.take (i * k + 0) ++ (Builtin.zeroCells z.cells (n - i)).toList ++ cur.toList.drop (i * k + 0 + (Builtin.zeroCells z.cells (n - i)).toList.length)).toArray, fun ty => ?_, ⟨_, setRow_heap w blk _ _ _ _ hg, ?_, ?_, fun p hp j u hj => ?_⟩, ext_setRow _ _ _⟩
  · obtain ⟨m, hm⟩ : ∃ m, n - i = m + 1 := ⟨n - i - 1, by omega⟩
    rw [hm] at hst ⊢
    simp [Builtin.clear_, run_underlying ht, hv, hst]
  · rw [List.size_toArray, List.length_append, List.length_append, List.length_take, List.length_drop, hlen]
    simp only [Array.length_toList, Nat.add_zero]
    omega
  · omega
  · have h2 := hf p (by omega) j u hj
    have hjk : j < k := by rw [← hk (f p)]; exact (List.getElem?_eq_some_iff.1 hj).1
    have hpk : p * k + k ≤ i * k := by
      have := Nat.mul_le_mul_right k (show p + 1 ≤ i from hp)
      rwa [Nat.add_mul, Nat.one_mul] at this
    rw [List.getElem?_toArray, List.append_assoc, List.getElem?_append_left (by rw [List.length_take, Array.length_toList]; omega), List.getElem?_take, if_pos (by omega), Array.getElem?_toList]
    exact h2

/-- Those of the first j that a test keeps. -/
def keptL {α : Type} (p : α → Bool) (f : Nat → α) (j : Nat) : List α := ((List.range j).map f).filter p
theorem keptL_succ {α : Type} (p : α → Bool) (f : Nat → α) (j : Nat) : keptL p f (j + 1) = if p (f j) = true then keptL p f j ++ [f j] else keptL p f j := by
  unfold keptL
  rw [List.range_succ, List.map_append, List.filter_append]
  by_cases h : p (f j) = true <;> simp [List.filter_cons, h]
theorem keptL_all {α : Type} {p : α → Bool} {f : Nat → α} {j : Nat} (h : ∀ i, i < j → p (f i) = true) : keptL p f j = (List.range j).map f :=
  List.filter_eq_self.2 fun x hx => by
    obtain ⟨i, hi, rfl⟩ := List.mem_map.1 hx
    exact h i (List.mem_range.1 hi)

def underB (u : St) (c : Ch) : Bool := decide (c.under = u)

set_option maxHeartbeats 1000000 in
theorem kids1_any (c : Ch) (u : St) (ub : Nat) (w : World) (h0 : w.cell? ⟨ub, 0, none⟩ = some (.int .i64 u.n)) (h1 : w.cell? ⟨ub, 1, none⟩ = some (.int .i64 u.r)) :
    Calls Try.prog 39 #[.agg #[.int .i64 c.block.n, .int .i64 c.block.r, .int .i64 c.under.n, .int .i64 c.under.r, .string c.key], .pointer (some ⟨ub, 0, none⟩)] w
      fun e w' => e = .returned (.bool (!underB u c)) ∧ Below w.heap.size w w' := by
  have hlt := cell_lt h0
  obtain ⟨un, ur⟩ := u
  obtain ⟨⟨bn, br⟩, ⟨cn, cr⟩, ck⟩ := c
  simp only at h0 h1 ⊢
  by_cases e1 : cn = un
  · by_cases e2 : cr = ur
    · have hb : underB ⟨un, ur⟩ ⟨⟨bn, br⟩, ⟨cn, cr⟩, ck⟩ = true := by simp [underB, e1, e2]
      rw [hb]; clear hb
      subst e1; subst e2
      go_enter Try.func39, Try.ntmps39
      go_wp2_with fail
      go_ret
      exact ⟨rfl, (Below.refl _ _).alloc (Nat.le_refl _) _⟩
    · have hb : underB ⟨un, ur⟩ ⟨⟨bn, br⟩, ⟨cn, cr⟩, ck⟩ = false := by simp [underB, e2]
      rw [hb]; clear hb
      subst e1
      go_enter Try.func39, Try.ntmps39
      go_wp2_with fail
      go_ret
      exact ⟨rfl, (Below.refl _ _).alloc (Nat.le_refl _) _⟩
  · have hb : underB ⟨un, ur⟩ ⟨⟨bn, br⟩, ⟨cn, cr⟩, ck⟩ = false := by simp [underB, e1]
    rw [hb]; clear hb
    go_enter Try.func39, Try.ntmps39
    go_wp2_with fail
    go_ret
    exact ⟨rfl, (Below.refl _ _).alloc (Nat.le_refl _) _⟩

section
variable {cap sz blk n : Nat}

/-- Where the first one is that is struck; -1. -/
def StruckAt (p : Ch → Bool) (f : Nat → Ch) (n : Nat) (i : Int) : Prop := (i = -1 ∧ ∀ t, t < n → p (f t) = true) ∨ ∃ k : Nat, i = k ∧ k < n ∧ p (f k) = false ∧ ∀ t, t < k → p (f t) = true

set_option maxHeartbeats 2000000 in
theorem index_any (f : Nat → Ch) (u : St) (ub : Nat) (w : World) (hS : Slab Ch.cells 5 36 sz w blk n f) (h0 : w.cell? ⟨ub, 0, none⟩ = some (.int .i64 u.n)) (h1 : w.cell? ⟨ub, 1, none⟩ = some (.int .i64 u.r)) (hcap : n ≤ cap) (hn : n ≤ 1000000) :
    Calls Try.prog 53 #[.slice (some ⟨blk, 0, none⟩) n cap, .func (.func 39) #[] #[.pointer (some ⟨ub, 0, none⟩)]] w
      fun e w' => ∃ i : Int, e = .returned (.int .i64 i) ∧ StruckAt (underB u) f n i ∧ Below w.heap.size w w' := by
  go_enter Try.func53, Try.ntmps53
  go_wp2_with fail
  go_loopg [8] n (fun g i wx => ∃ k : Nat, g = n - k ∧ k ≤ n ∧ i = .int .i64 k ∧ Slab Ch.cells 5 36 sz wx blk n f ∧ Hid (∀ t, t < k → underB u (f t) = true) ∧ wx.cell? ⟨ub, 0, none⟩ = some (.int .i64 u.n) ∧ wx.cell? ⟨ub, 1, none⟩ = some (.int .i64 u.r) ∧ Below w.heap.size w wx)
  case atStart => exact ⟨0, rfl, Nat.zero_le _, rfl, hS, Lib.hid (fun t h => by omega), h0, h1, Below.refl _ _⟩
  case round =>
    clear hS h0 h1
    obtain ⟨k, hg, hk, rfl, hW, hall, h0, h1, hB⟩ := hrel
    have HG := Lib.hid hg
    clear hg
    by_cases hlt : k < n
    · obtain ⟨x, hx⟩ : ∃ x, x = f k := ⟨_, rfl⟩
      have x0 : wr.cell? ⟨blk, k * 5, none⟩ = some (.int .i64 x.block.n) := hW.cell (i := k) (j := 0) hlt (by rw [← hx]; rfl)
      have x1 : wr.cell? ⟨blk, k * 5 + 1, none⟩ = some (.int .i64 x.block.r) := hW.cell (i := k) (j := 1) hlt (by rw [← hx]; rfl)
      have x2 : wr.cell? ⟨blk, k * 5 + 2, none⟩ = some (.int .i64 x.under.n) := hW.cell (i := k) (j := 2) hlt (by rw [← hx]; rfl)
      have x3 : wr.cell? ⟨blk, k * 5 + 3, none⟩ = some (.int .i64 x.under.r) := hW.cell (i := k) (j := 3) hlt (by rw [← hx]; rfl)
      have x4 : wr.cell? ⟨blk, k * 5 + 4, none⟩ = some (.string x.key) := hW.cell (i := k) (j := 4) hlt (by rw [← hx]; rfl)
      have HX := Lib.hid hx
      clear hx
      by_cases hb : underB u x = true
      · have hK := kids1_any x u ub wr h0 h1
        rw [hb] at hK
        go_wp2_with (go_at_call 39; ((with_reducible refine hK.mono ?_); rintro e w5 ⟨rfl, b5⟩))
        go_roundg (n - (k + 1))
        case measure => rw [HG.out]; omega
        case rel => exact ⟨k + 1, rfl, hlt, by go_num, hW.below b5, Lib.hid (fun t ht => by
          by_cases htk : t = k
          · rw [htk, ← HX.out]; exact hb
          · exact hall.out t (by omega)), keepB b5 h0, keepB b5 h1, hB.trans (b5.mono hB.size)⟩
      · have hb : underB u x = false := by simpa using hb
        have hK := kids1_any x u ub wr h0 h1
        rw [hb] at hK
        go_wp2_with (go_at_call 39; ((with_reducible refine hK.mono ?_); rintro e w5 ⟨rfl, b5⟩))
        go_ret
        exact ⟨k, rfl, .inr ⟨k, rfl, hlt, by rw [← HX.out]; exact hb, hall.out⟩, hB.trans (b5.mono hB.size)⟩
    · obtain rfl : k = n := by omega
      go_wp2_with fail
      go_ret
      exact ⟨-1, rfl, .inl ⟨rfl, hall.out⟩, hB⟩

/-- The row while those that are struck are passed over. -/
structure DelInv (p : Ch → Bool) (f : Nat → Ch) (n i j : Nat) (g : Nat → Ch) : Prop where
  len : i = (keptL p f j).length
  lt : i < j
  le : j ≤ n
  kept : ∀ t, t < i → (keptL p f j)[t]? = some (g t)
  rest : ∀ t, j ≤ t → g t = f t
theorem DelInv.start {p : Ch → Bool} {f : Nat → Ch} {n k : Nat} (hk : k < n) (h1 : p (f k) = false) (h2 : ∀ t, t < k → p (f t) = true) : DelInv p f n k (k + 1) f := by
  have e : keptL p f (k + 1) = (List.range k).map f := by rw [keptL_succ, if_neg (by rw [h1]; simp), keptL_all h2]
  exact ⟨by rw [e]; simp, Nat.lt_succ_self _, hk, fun t ht => by rw [e]; simp [ht], fun _ _ => rfl⟩
theorem DelInv.skip {p : Ch → Bool} {f g : Nat → Ch} {n i j : Nat} (h : DelInv p f n i j g) (hj : j < n) (hp : p (f j) = false) : DelInv p f n i (j + 1) g := by
  have e : keptL p f (j + 1) = keptL p f j := by rw [keptL_succ, if_neg (by rw [hp]; simp)]
  exact ⟨by rw [e]; exact h.len, by have := h.lt; omega, hj, fun t ht => by rw [e]; exact h.kept t ht, fun t ht => h.rest t (by omega)⟩
theorem DelInv.keep {p : Ch → Bool} {f g : Nat → Ch} {n i j : Nat} (h : DelInv p f n i j g) (hj : j < n) (hp : p (f j) = true) : DelInv p f n (i + 1) (j + 1) (upd g i (f j)) := by
  have e : keptL p f (j + 1) = keptL p f j ++ [f j] := by rw [keptL_succ, if_pos hp]
  have hl := h.lt
  refine ⟨by rw [e, List.length_append, ← h.len]; rfl, by omega, hj, fun t ht => ?_, fun t ht => by rw [upd_other _ _ (by omega)]; exact h.rest t (by omega)⟩
  rw [e]
  by_cases hti : t = i
  · subst hti; rw [upd_same, List.getElem?_append_right (by rw [← h.len]; exact Nat.le_refl _), ← h.len]; simp
  · rw [upd_other _ _ hti, List.getElem?_append_left (by rw [← h.len]; omega)]; exact h.kept t (by omega)

theorem und_children : Try.prog.underlying 46 = some (.slice 36) := by kernel_rfl

set_option maxRecDepth 100000 in
set_option maxHeartbeats 4000000 in
theorem deleteS_any (f : Nat → Ch) (u : St) (ub : Nat) (w : World) (hS : Slab Ch.cells 5 36 sz w blk n f) (h0 : w.cell? ⟨ub, 0, none⟩ = some (.int .i64 u.n)) (h1 : w.cell? ⟨ub, 1, none⟩ = some (.int .i64 u.r)) (hub : ub ≠ blk) (hcap : n ≤ cap) (hcm : cap ≤ 9223372036854775807) (hn : n ≤ 1000000) :
    Calls Try.prog 38 #[.slice (some ⟨blk, 0, none⟩) n cap, .func (.func 39) #[] #[.pointer (some ⟨ub, 0, none⟩)]] w
      fun e w' => ∃ i : Nat, e = .returned (.slice (some ⟨blk, 0, none⟩) i cap) ∧ Hid (∃ g, Slab Ch.cells 5 36 sz w' blk i g ∧ i ≤ n ∧ (List.range i).map g = keptL (underB u) f n) ∧ Ext (· = blk) w w' := by
  go_enter Try.func38, Try.ntmps38
  go_wp2_with fail
  (with_reducible refine (index_any f u ub w hS h0 h1 hcap hn).mono ?_)
  rintro e w1 ⟨i0, rfl, hst, b1⟩
  rcases hst with ⟨rfl, hall⟩ | ⟨k, rfl, hk, hp, hall⟩
  · have HA := Lib.hid hall
    have HS := Lib.hid (hS.below b1)
    have HB := Lib.hid b1
    clear hall hS h0 h1 b1
    go_wp2_with fail
    go_ret
    exact ⟨n, rfl, Lib.hid ⟨f, HS.out, Nat.le_refl _, (keptL_all HA.out).symm⟩, Ext.of_below HB.out⟩
  · have HI := Lib.hid (DelInv.start hk hp hall)
    have HS := Lib.hid (hS.below b1)
    have HX := Lib.hid (Ext.of_below (S := (· = blk)) b1)
    replace h0 := keepB b1 h0
    replace h1 := keepB b1 h1
    have ne1 : ((k : Int) == -1) = false := beq_eq_false_iff_ne.2 (by omega)
    clear hall hS b1 hp
    go_wp2_with fail
    go_loopg [5, 6] (n - (k + 1)) (fun g0 iv jv wx => ∃ (i j : Nat) (g : Nat → Ch), g0 = n - j ∧ i < n ∧ j ≤ n ∧ iv = .int .i64 i ∧ jv = .int .i64 j ∧ Slab Ch.cells 5 36 sz wx blk n g ∧ Hid (DelInv (underB u) f n i j g) ∧ wx.cell? ⟨ub, 0, none⟩ = some (.int .i64 u.n) ∧ wx.cell? ⟨ub, 1, none⟩ = some (.int .i64 u.r) ∧ Ext (· = blk) w wx)
    case atStart => exact ⟨k, k + 1, f, rfl, hk, hk, rfl, by go_num, HS.out, HI, h0, h1, HX.out⟩
    case round =>
      clear HS HI h0 h1 HX hk ne1
      obtain ⟨i, j, g, hg, hin, hj, rfl, rfl, hW, HI, h0, h1, hx⟩ := hrel
      have HG := Lib.hid hg
      have HX := Lib.hid hx
      clear hg hx
      by_cases hlt : j < n
      · obtain ⟨x, hx⟩ : ∃ x, x = g j := ⟨_, rfl⟩
        have hxf := hx.trans (HI.out.rest j (Nat.le_refl _))
        have HXF := Lib.hid hxf
        have x0 : wr.cell? ⟨blk, j * 5, none⟩ = some (.int .i64 x.block.n) := hW.cell (i := j) (j := 0) hlt (by rw [← hx]; rfl)
        have x1 : wr.cell? ⟨blk, j * 5 + 1, none⟩ = some (.int .i64 x.block.r) := hW.cell (i := j) (j := 1) hlt (by rw [← hx]; rfl)
        have x2 : wr.cell? ⟨blk, j * 5 + 2, none⟩ = some (.int .i64 x.under.n) := hW.cell (i := j) (j := 2) hlt (by rw [← hx]; rfl)
        have x3 : wr.cell? ⟨blk, j * 5 + 3, none⟩ = some (.int .i64 x.under.r) := hW.cell (i := j) (j := 3) hlt (by rw [← hx]; rfl)
        have x4 : wr.cell? ⟨blk, j * 5 + 4, none⟩ = some (.string x.key) := hW.cell (i := j) (j := 4) hlt (by rw [← hx]; rfl)
        have HS := Lib.hid hW
        clear hx hxf hW
        by_cases hb : underB u x = true
        · have hK : ∀ W : World, W.cell? ⟨ub, 0, none⟩ = some (.int .i64 u.n) → W.cell? ⟨ub, 1, none⟩ = some (.int .i64 u.r) → Calls Try.prog 39 #[.agg #[.int .i64 x.block.n, .int .i64 x.block.r, .int .i64 x.under.n, .int .i64 x.under.r, .string x.key], .pointer (some ⟨ub, 0, none⟩)] W (fun e w' => e = .returned (.bool false) ∧ Below W.heap.size W w') := fun W a1 a2 => by
            have := kids1_any x u ub W a1 a2
            rw [hb] at this
            exact this
          have HK := Lib.hid hK
          clear hK
          go_wp2_with fail
          (with_reducible refine (HK.out _ (cell_alloc h0 _) (cell_alloc h1 _)).mono ?_)
          rintro e w5 ⟨rfl, b5⟩
          have y0 : w5.cell? ⟨wr.heap.size, 0, none⟩ = some (.int .i64 x.block.n) := keepB b5 (by go_simp)
          have y1 : w5.cell? ⟨wr.heap.size, 1, none⟩ = some (.int .i64 x.block.r) := keepB b5 (by go_simp)
          have y2 : w5.cell? ⟨wr.heap.size, 2, none⟩ = some (.int .i64 x.under.n) := keepB b5 (by go_simp)
          have y3 : w5.cell? ⟨wr.heap.size, 3, none⟩ = some (.int .i64 x.under.r) := keepB b5 (by go_simp)
          have y4 : w5.cell? ⟨wr.heap.size, 4, none⟩ = some (.string x.key) := keepB b5 (by go_simp)
          have z0 := cell_lt h0
          have hW5 := (HS.out.ext ((Ext.refl (fun _ => False) wr).alloc _) id).below b5
          have HX5 := Lib.hid ((HX.out.alloc (.cells #[.int .i64 x.block.n, .int .i64 x.block.r, .int .i64 x.under.n, .int .i64 x.under.r, .string x.key] 36)).then_below b5)
          have q0 := keepB b5 (cell_alloc h0 _)
          have q1 := keepB b5 (cell_alloc h1 _)
          have hsw := hW5.put (fun _ => rfl) hin x
          have hex := ext_putFrom (blk := blk) (o := i * 5) (Ch.cells x) 0 w5
          simp only [putFrom, Ch.cells, Nat.add_zero, Nat.zero_add, Nat.reduceAdd] at hsw hex
          have HSW := Lib.hid hsw
          have HEX := Lib.hid hex
          obtain ⟨y, hy⟩ : ∃ y, y = g i := ⟨_, rfl⟩
          have u0 : w5.cell? ⟨blk, i * 5, none⟩ = some (.int .i64 y.block.n) := hW5.cell (i := i) (j := 0) hin (by rw [← hy]; rfl)
          have uf0 := hW5.frozen (i * 5)
          have u1 : w5.cell? ⟨blk, i * 5 + 1, none⟩ = some (.int .i64 y.block.r) := hW5.cell (i := i) (j := 1) hin (by rw [← hy]; rfl)
          have uf1 := hW5.frozen (i * 5 + 1)
          have u2 : w5.cell? ⟨blk, i * 5 + 2, none⟩ = some (.int .i64 y.under.n) := hW5.cell (i := i) (j := 2) hin (by rw [← hy]; rfl)
          have uf2 := hW5.frozen (i * 5 + 2)
          have u3 : w5.cell? ⟨blk, i * 5 + 3, none⟩ = some (.int .i64 y.under.r) := hW5.cell (i := i) (j := 3) hin (by rw [← hy]; rfl)
          have uf3 := hW5.frozen (i * 5 + 3)
          have u4 : w5.cell? ⟨blk, i * 5 + 4, none⟩ = some (.string y.key) := hW5.cell (i := i) (j := 4) hin (by rw [← hy]; rfl)
          have uf4 := hW5.frozen (i * 5 + 4)
          have Q0 := Lib.hid q0
          have Q1 := Lib.hid q1
          clear x0 x1 x2 x3 x4 HS HX HK h0 h1 b5 hW5 hsw hex hy q0 q1
          go_wp2_with fail
          have HI2 := Lib.hid (by have := HI.out.keep hlt (by rw [← HXF.out]; exact hb); rwa [← HXF.out] at this)
          go_roundg (n - (j + 1))
          case measure => rw [HG.out]; omega
          case rel =>
            have hl := HI.out.lt
            exact ⟨i + 1, j + 1, _, rfl, by omega, hlt, by go_num, by go_num, HSW.out, HI2, HEX.out.keep Q0.out hub, HEX.out.keep Q1.out hub, HX5.out.trans HEX.out⟩
        · have hb : underB u x = false := by simpa using hb
          have hK : ∀ W : World, W.cell? ⟨ub, 0, none⟩ = some (.int .i64 u.n) → W.cell? ⟨ub, 1, none⟩ = some (.int .i64 u.r) → Calls Try.prog 39 #[.agg #[.int .i64 x.block.n, .int .i64 x.block.r, .int .i64 x.under.n, .int .i64 x.under.r, .string x.key], .pointer (some ⟨ub, 0, none⟩)] W (fun e w' => e = .returned (.bool true) ∧ Below W.heap.size W w') := fun W a1 a2 => by
            have := kids1_any x u ub W a1 a2
            rw [hb] at this
            exact this
          have HK := Lib.hid hK
          clear hK
          go_wp2_with fail
          (with_reducible refine (HK.out _ (cell_alloc h0 _) (cell_alloc h1 _)).mono ?_)
          rintro e w5 ⟨rfl, b5⟩
          have hW5 := Lib.hid ((HS.out.ext ((Ext.refl (fun _ => False) wr).alloc _) id).below b5)
          have HX5 := Lib.hid ((HX.out.alloc (.cells #[.int .i64 x.block.n, .int .i64 x.block.r, .int .i64 x.under.n, .int .i64 x.under.r, .string x.key] 36)).then_below b5)
          have Q0 := Lib.hid (keepB b5 (cell_alloc h0 _))
          have Q1 := Lib.hid (keepB b5 (cell_alloc h1 _))
          clear x0 x1 x2 x3 x4 HS HX HK h0 h1 b5
          go_wp2_with fail
          go_roundg (n - (j + 1))
          case measure => rw [HG.out]; omega
          case rel => exact ⟨i, j + 1, g, rfl, hin, hlt, rfl, by go_num, hW5.out, Lib.hid (HI.out.skip hlt (by rw [← HXF.out]; exact hb)), Q0.out, Q1.out, HX5.out⟩
      · obtain rfl : j = n := by omega
        obtain ⟨w6, hcl, hW6, hx6⟩ := hW.clear (P := Try.prog) hin (fun _ => rfl) (by omega) 46 (.agg #[.int .i64 0, .int .i64 0, .int .i64 0, .int .i64 0, .string ⟨#[]⟩]) und_children zero_child rfl (fun x hx => by
          match x, hx with
          | 0, _ => rfl
          | 1, _ => rfl
          | 2, _ => rfl
          | 3, _ => rfl
          | 4, _ => rfl
          | q + 5, hq => omega) (cap - i)
        have HS := Lib.hid hW6
        have HX6 := Lib.hid (HX.out.trans hx6)
        have hin2 : (i : Int) ≤ (j : Int) := by omega
        have hjc : (j : Int) ≤ (cap : Int) := by omega
        clear hW hW6 hx6 h0 h1 HX
        go_wp2_with fail
        go_ret
        refine ⟨i, rfl, Lib.hid ⟨g, HS.out, by omega, ?_⟩, HX6.out⟩
        refine List.ext_getElem? fun t => ?_
        by_cases ht : t < i
        · rw [HI.out.kept t ht]; simp [ht]
        · rw [List.getElem?_eq_none (by simp; omega), List.getElem?_eq_none (by have := HI.out.len; omega)]
end

end Go.Proofs.Ytilonmpcifohiaa
