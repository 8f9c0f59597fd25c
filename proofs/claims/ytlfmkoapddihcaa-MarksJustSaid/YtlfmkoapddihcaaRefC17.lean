/- Layer 17: the reference's Covers and counts. -/
import Derived.Test.YtlfmkoapddihcaaRefP17
import Derived.Deep.CutBlock
import Derived.Deep.DeepCutAuto
namespace Go.Proofs.Ytlfmkoapddihcaa
open Go.RowKit
set_option linter.unusedSimpArgs false
set_option linter.unusedVariables false

theorem standsI_bound {l : List El} (hl : l.length ≤ 1000) (a : St) (aft : Bool) : -1 ≤ standsI l a aft ∧ standsI l a aft ≤ 2002 := by
  unfold standsI
  cases hp : placeOf l a with
  | none => simp
  | some i =>
    have := placeOf_lt hp
    cases aft <;> simp <;> omega
def covB (l : List El) (o : OpD) (i : Int) : Bool := decide (0 ≤ standsI l o.fr o.fa ∧ 0 ≤ standsI l o.tr o.ta ∧ standsI l o.fr o.fa < 2 * i + 1 ∧ 2 * i + 1 < standsI l o.tr o.ta)
theorem covB_iff (l : List El) (o : OpD) (i : Int) : covB l o i = true ↔ Cov l o i := by
  unfold covB Cov standsI
  rw [decide_eq_true_eq]
  cases hp : placeOf l o.fr with
  | none => simp
  | some p =>
    cases hq : placeOf l o.tr with
    | none => simp
    | some q =>
      simp only [Option.some.injEq, exists_and_left, exists_eq_left']
      cases o.fa <;> cases o.ta <;> simp <;> omega

set_option maxRecDepth 100000 in
set_option maxHeartbeats 1000000 in
theorem covers_any (va : Option Addr) (ca : Nat) (l : List El) (o : OpD) (i : Int) (w : World) (hl : SliceIs El.cells 4 w (.slice va l.length ca) l) (hln : l.length ≤ 1000) (hi0 : 0 ≤ i) (hi1 : i ≤ 1000) :
    Calls Try.prog 45 #[.slice va l.length ca, .agg (OpD.cells o).toArray, .int .i64 i] w fun e w' => e = .returned (.bool (covB l o i)) ∧ Below w.heap.size w w' := by
  have hB0 : Below w.heap.size w (w.alloc (.cells (OpD.cells o).toArray 39)) := (Below.refl _ _).alloc (Nat.le_refl _) _
  have hl0 := hl.below hB0
  have q20 : (w.alloc (.cells (OpD.cells o).toArray 39)).cell? ⟨w.heap.size, 20, none⟩ = some (.int .i64 o.fr.n) := allocd_cells 20 _ rfl
  have q21 : (w.alloc (.cells (OpD.cells o).toArray 39)).cell? ⟨w.heap.size, 21, none⟩ = some (.int .i64 o.fr.r) := allocd_cells 21 _ rfl
  have q22 : (w.alloc (.cells (OpD.cells o).toArray 39)).cell? ⟨w.heap.size, 22, none⟩ = some (.bool o.fa) := allocd_cells 22 _ rfl
  have q23 : (w.alloc (.cells (OpD.cells o).toArray 39)).cell? ⟨w.heap.size, 23, none⟩ = some (.int .i64 o.tr.n) := allocd_cells 23 _ rfl
  have q24 : (w.alloc (.cells (OpD.cells o).toArray 39)).cell? ⟨w.heap.size, 24, none⟩ = some (.int .i64 o.tr.r) := allocd_cells 24 _ rfl
  have q25 : (w.alloc (.cells (OpD.cells o).toArray 39)).cell? ⟨w.heap.size, 25, none⟩ = some (.bool o.ta) := allocd_cells 25 _ rfl
  obtain ⟨W0, hW0⟩ : ∃ W0, w.alloc (.cells (OpD.cells o).toArray 39) = W0 := ⟨_, rfl⟩
  have HW0 := Lib.hid hW0
  rw [hW0] at hB0 hl0 q20 q21 q22 q23 q24 q25
  clear hW0 hl
  go_enter Try.func45, Try.ntmps45
  go_upto_region 1 with fail
  rw [HW0.out]
  go_wp2_with fail
  refine (stands_any va ca l o.fr o.fa W0 hl0 hln).mono ?_
  rintro e w1 ⟨rfl, hb1⟩
  replace q23 := keepB hb1 q23
  replace q24 := keepB hb1 q24
  replace q25 := keepB hb1 q25
  have hl1 := hl0.below hb1
  have hB1 := hB0.trans (hb1.mono hB0.size)
  clear hb1 hB0 hl0 q20 q21 q22
  go_wp2_with fail
  refine (stands_any va ca l o.tr o.ta w1 hl1 hln).mono ?_
  rintro e w2 ⟨rfl, hb2⟩
  have HB := Lib.hid (hB1.trans (hb2.mono hB1.size))
  clear hB1 hb2 hl1 q23 q24 q25
  obtain ⟨s0, s1⟩ := standsI_bound hln o.fr o.fa
  obtain ⟨t0, t1⟩ := standsI_bound hln o.tr o.ta
  have hcv : covB l o i = decide (0 ≤ standsI l o.fr o.fa ∧ 0 ≤ standsI l o.tr o.ta ∧ standsI l o.fr o.fa < 2 * i + 1 ∧ 2 * i + 1 < standsI l o.tr o.ta) := rfl
  generalize standsI l o.fr o.fa = s at *
  generalize standsI l o.tr o.ta = t at *
  have HCV := Lib.hid hcv
  clear hcv
  by_cases h1 : 0 ≤ s
  · by_cases h2 : 0 ≤ t
    · by_cases h3 : s < 2 * i + 1
      · by_cases h4 : 2 * i + 1 < t
        · have HR : Hid (covB l o i = true) := Lib.hid (HCV.out.trans <| decide_eq_true ⟨h1, h2, h3, h4⟩)
          go_wp2_with fail
          go_ret
          exact ⟨by rw [HR.out]; rfl, HB.out⟩
        · have HR : Hid (covB l o i = decide (2 * i + 1 < t)) := Lib.hid (HCV.out.trans (decide_eq_decide.2 ⟨fun h => h.2.2.2, fun h => ⟨h1, h2, h3, h⟩⟩))
          go_wp2_with fail
          go_ret
          exact ⟨by rw [HR.out]; rfl, HB.out⟩
      · have HR : Hid (covB l o i = false) := Lib.hid (HCV.out.trans <| decide_eq_false (by omega))
        go_wp2_with fail
        go_ret
        exact ⟨by rw [HR.out]; rfl, HB.out⟩
    · have HR : Hid (covB l o i = false) := Lib.hid (HCV.out.trans <| decide_eq_false (by omega))
      go_wp2_with fail
      go_ret
      exact ⟨by rw [HR.out]; rfl, HB.out⟩
  · have HR : Hid (covB l o i = false) := Lib.hid (HCV.out.trans <| decide_eq_false (by omega))
    go_wp2_with fail
    go_ret
    exact ⟨by rw [HR.out]; rfl, HB.out⟩

/-- The mark that counts among the first ones. -/
def Best (l : List El) (ms : List OpD) (i : Int) (n : ByteArray) (k : Nat) (c : Int) : Prop :=
  (c = -1 ∧ ∀ j o', j < k → ms[j]? = some o' → ¬ (Cov l o' i ∧ o'.name = n)) ∨
  ∃ (b : Nat) (o : OpD), c = (b : Int) ∧ b < k ∧ ms[b]? = some o ∧ Cov l o i ∧ o.name = n ∧ ∀ j o', j < k → ms[j]? = some o' → Cov l o' i → o'.name = n → stLt o'.id o.id ∨ (o'.id = o.id ∧ b ≤ j)
theorem Best.zero (l : List El) (ms : List OpD) (i : Int) (n : ByteArray) : Best l ms i n 0 (-1) := .inl ⟨rfl, fun j _ h => absurd h (by omega)⟩
theorem Best.skip {l : List El} {ms : List OpD} {i : Int} {n : ByteArray} {k : Nat} {c : Int} {x : OpD} (h : Best l ms i n k c) (hx : ms[k]? = some x) (hn : ¬ (Cov l x i ∧ x.name = n)) : Best l ms i n (k + 1) c := by
  rcases h with ⟨h1, h2⟩ | ⟨b, o, h1, h2, h3, h4, h5, h6⟩
  · refine .inl ⟨h1, fun j o' hj ho => ?_⟩
    by_cases hjk : j < k
    · exact h2 j o' hjk ho
    · obtain rfl : j = k := by omega
      rw [hx] at ho; cases ho; exact hn
  · refine .inr ⟨b, o, h1, by omega, h3, h4, h5, fun j o' hj ho hc hm => ?_⟩
    by_cases hjk : j < k
    · exact h6 j o' hjk ho hc hm
    · obtain rfl : j = k := by omega
      rw [hx] at ho; cases ho; exact absurd ⟨hc, hm⟩ hn
theorem Best.first {l : List El} {ms : List OpD} {i : Int} {n : ByteArray} {k : Nat} {x : OpD} (h : Best l ms i n k (-1)) (hx : ms[k]? = some x) (hc : Cov l x i) (hn : x.name = n) : Best l ms i n (k + 1) k := by
  rcases h with ⟨_, h2⟩ | ⟨b, o, h1, _⟩
  · refine .inr ⟨k, x, rfl, by omega, hx, hc, hn, fun j o' hj ho hc' hm => ?_⟩
    by_cases hjk : j < k
    · exact absurd ⟨hc', hm⟩ (h2 j o' hjk ho)
    · obtain rfl : j = k := by omega
      rw [hx] at ho; cases ho; exact .inr ⟨rfl, Nat.le_refl _⟩
  · omega
theorem Best.more {l : List El} {ms : List OpD} {i : Int} {n : ByteArray} {k b : Nat} {x o : OpD} (h : Best l ms i n k b) (ho : ms[b]? = some o) (hx : ms[k]? = some x) (hc : Cov l x i) (hn : x.name = n) (hlt : stLt o.id x.id) : Best l ms i n (k + 1) k := by
  rcases h with ⟨h1, _⟩ | ⟨b', o', h1, h2, h3, h4, h5, h6⟩
  · omega
  · obtain rfl : b = b' := by omega
    rw [ho] at h3; cases h3
    refine .inr ⟨k, x, rfl, by omega, hx, hc, hn, fun j o' hj ho' hc' hm => ?_⟩
    by_cases hjk : j < k
    · rcases h6 j o' hjk ho' hc' hm with t | ⟨t, _⟩
      · exact .inl (stLt_trans t hlt)
      · rw [t]; exact .inl hlt
    · obtain rfl : j = k := by omega
      rw [hx] at ho'; cases ho'; exact .inr ⟨rfl, Nat.le_refl _⟩
theorem Best.less {l : List El} {ms : List OpD} {i : Int} {n : ByteArray} {k b : Nat} {x o : OpD} (h : Best l ms i n k b) (ho : ms[b]? = some o) (hx : ms[k]? = some x) (hlt : ¬ stLt o.id x.id) : Best l ms i n (k + 1) b := by
  rcases h with ⟨h1, _⟩ | ⟨b', o', h1, h2, h3, h4, h5, h6⟩
  · omega
  · obtain rfl : b = b' := by omega
    rw [ho] at h3; cases h3
    refine .inr ⟨b, o, rfl, by omega, ho, h4, h5, fun j o' hj ho' hc' hm => ?_⟩
    by_cases hjk : j < k
    · exact h6 j o' hjk ho' hc' hm
    · obtain rfl : j = k := by omega
      rw [hx] at ho'; cases ho'
      rcases stLt_total x.id o.id with t | t | t
      · exact .inl t
      · exact .inr ⟨t, by omega⟩
      · exact absurd t hlt

/-- The mark that counts for an element and a name, or none. -/
def CntIs (l : List El) (ms : List OpD) (i : Int) (n : ByteArray) (c : Int) : Prop := (c = -1 ∧ ∀ k o, ¬ Win l ms i n k o) ∨ ∃ (k : Nat) (o : OpD), c = (k : Int) ∧ Win l ms i n k o
theorem Best.cnt {l : List El} {ms : List OpD} {i : Int} {n : ByteArray} {c : Int} (h : Best l ms i n ms.length c) : CntIs l ms i n c := by
  rcases h with ⟨h1, h2⟩ | ⟨b, o, h1, h2, h3, h4, h5, h6⟩
  · exact .inl ⟨h1, fun k o hw => h2 k o (List.getElem?_eq_some_iff.1 hw.1).1 hw.1 ⟨hw.2.1, hw.2.2.1⟩⟩
  · exact .inr ⟨b, o, h1, h3, h4, h5, fun j o' hj => h6 j o' (List.getElem?_eq_some_iff.1 hj).1 hj⟩
theorem CntIs.eq_iff {l : List El} {ms : List OpD} {i : Int} {n : ByteArray} {c : Int} (h : CntIs l ms i n c) {k : Nat} {o : OpD} (ho : ms[k]? = some o) : c = (k : Int) ↔ Win l ms i n k o := by
  rcases h with ⟨h1, h2⟩ | ⟨k', o', h1, h2⟩
  · exact ⟨fun e => by omega, fun hw => absurd hw (h2 k o)⟩
  · constructor
    · intro e
      obtain rfl : k = k' := by omega
      have := h2.1
      rw [ho] at this
      cases this
      exact h2
    · intro hw
      rw [(hw.unique h2).1]
      exact h1
theorem CntIs.bound {l : List El} {ms : List OpD} {i : Int} {n : ByteArray} {c : Int} (h : CntIs l ms i n c) : -1 ≤ c ∧ c < ms.length := by
  rcases h with ⟨h1, _⟩ | ⟨k, o, h1, h2⟩
  · omega
  · have := (List.getElem?_eq_some_iff.1 h2.1).1
    omega

theorem op_ty' : StructTy Try.prog 39 26 := ⟨fun w => by kernel_rfl, fun w => by kernel_rfl⟩

set_option maxRecDepth 100000 in
set_option maxHeartbeats 2000000 in
theorem counts_any (va vb : Option Addr) (ca cb : Nat) (l : List El) (ms : List OpD) (i : Int) (n : ByteArray) (w : World) (hl : SliceIs El.cells 4 w (.slice va l.length ca) l) (hm : SliceIs OpD.cells 26 w (.slice vb ms.length cb) ms) (hln : l.length ≤ 1000) (hmn : ms.length ≤ 1000) (hi0 : 0 ≤ i) (hi1 : i ≤ 1000) :
    Calls Try.prog 37 #[.slice va l.length ca, .slice vb ms.length cb, .int .i64 i, .string n] w fun e w' => ∃ c, e = .returned (.int .i64 c) ∧ Hid (CntIs l ms i n c) ∧ Below w.heap.size w w' := by
  obtain ⟨_, _, e0, hcap, hmax, hcs⟩ := id hm
  cases e0
  have HC := Lib.hid hcs
  have HL := Lib.hid hl
  clear hcs hm hl
  go_enter Try.func37, Try.ntmps37
  go_wp2_with fail
  go_loopg [9, 10] ms.length (fun g av iv wr => ∃ (k : Nat) (c : Int), g = ms.length - k ∧ k ≤ ms.length ∧ av = .int .i64 c ∧ iv = .int .i64 k ∧ Hid (Best l ms i n k c) ∧ Below w.heap.size w wr)
  case atStart => exact ⟨0, -1, by omega, by omega, rfl, rfl, Lib.hid (Best.zero l ms i n), Below.refl _ _⟩
  case round =>
    obtain ⟨k, c, hg, hk, rfl, rfl, hBe, hB⟩ := hrel
    have HB := Lib.hid hB
    have HG := Lib.hid hg
    by_cases hkl : k < ms.length
    · obtain ⟨x, hx⟩ : ∃ x, ms[k]? = some x := ⟨_, List.getElem?_eq_getElem hkl⟩
      obtain ⟨b, o, rfl, hcc⟩ := HC.out (by intro e; rw [e] at hx; simp at hx)
      have hcell : ∀ {q : Nat} {y : OpD}, ms[q]? = some y → ∀ j u, (OpD.cells y)[j]? = some u → wr.cell? ⟨b, o + q * 26 + j, none⟩ = some u := fun {q y} hy j u h => by
        have h1 := hcc q y hy j u h
        exact (World.cell?_of_block (w := w) (hB.block b (cell_lt h1))).trans h1
      have HLD := Lib.hid (load_of_cells (P := Try.prog) op_ty' (OpD.len x) (hcell hx))
      have hkk : (k : Int) < (ms.length : Int) := by omega
      have hlr := HL.out.of (fun b o u h => (World.cell?_of_block (w := w) (hB.block b (cell_lt h))).trans h)
      have HCC := Lib.hid (fun (q : Nat) (y : OpD) => @hcell q y)
      have HX := Lib.hid hx
      clear hcc hcell hB hg
      go_wp2_with ((with_reducible_and_instances refine wpList_load_run (o := ⟨some 22, _, _, _, _, _⟩) (x := .tmp 21) ?_ ?_ ?_ HLD.out ?_); rfl; rfl; rfl)
      refine (covers_any va ca l x i wr hlr hln hi0 hi1).mono ?_
      rintro e w1 ⟨rfl, hb1⟩
      have hB1 := HB.out.trans (hb1.mono HB.out.size)
      have HB1 := Lib.hid hB1
      have hcell1 : ∀ {q : Nat} {y : OpD}, ms[q]? = some y → ∀ j u, (OpD.cells y)[j]? = some u → w1.cell? ⟨b, o + q * 26 + j, none⟩ = some u := fun {q y} hy j u h => keepB hb1 (HCC.out q y hy j u h)
      have x0 : w1.cell? ⟨b, o + k * 26, none⟩ = some (.int .i64 x.id.n) := hcell1 hx 0 _ rfl
      have x1 : w1.cell? ⟨b, o + k * 26 + 1, none⟩ = some (.int .i64 x.id.r) := hcell1 hx 1 _ rfl
      have x18 : w1.cell? ⟨b, o + k * 26 + 18, none⟩ = some (.string x.name) := hcell1 hx 18 _ rfl
      have HC1 := Lib.hid (fun (q : Nat) (y : OpD) => @hcell1 q y)
      clear hcell1 hb1 hB1 hlr HCC HLD hx
      cases hcov : covB l x i with
      | false =>
        have HN : Hid (¬ (Cov l x i ∧ x.name = n)) := Lib.hid (fun h => by rw [(covB_iff l x i).2 h.1] at hcov; cases hcov)
        clear hcov
        go_upto_region 6 with fail
        go_quiet (fail)
        go_wp2_with fail
        go_roundg (ms.length - (k + 1))
        case measure => rw [HG.out]; omega
        case rel => exact ⟨k + 1, c, rfl, by omega, rfl, by simp, Lib.hid (hBe.out.skip HX.out HN.out), below_drewN HB1.out _⟩
      | true =>
        have hcv := (covB_iff l x i).1 hcov
        clear hcov
        by_cases hn : x.name = n
        · rw [hn] at x18
          have HN := Lib.hid hn
          have HCV := Lib.hid hcv
          clear hn hcv
          by_cases hc0 : c < 0
          · have hc1 : c = -1 := by
              rcases hBe.out with ⟨h, _⟩ | ⟨q, _, h, _⟩
              · exact h
              · omega
            subst hc1
            clear hc0
            go_upto_region 6 with fail
            go_quiet (fail)
            go_wp2_with fail
            go_roundg (ms.length - (k + 1))
            case measure => rw [HG.out]; omega
            case rel => exact ⟨k + 1, k, rfl, by omega, rfl, by simp, Lib.hid (hBe.out.first HX.out HCV.out HN.out), below_drewN HB1.out _⟩
          · obtain ⟨q, y, rfl, hqk, hy⟩ : ∃ (q : Nat) (y : OpD), c = (q : Int) ∧ q < k ∧ ms[q]? = some y := by
              rcases hBe.out with ⟨h, _⟩ | ⟨q, y, h1, h2, h3, _⟩
              · omega
              · exact ⟨q, y, h1, h2, h3⟩
            have y0 : w1.cell? ⟨b, o + q * 26, none⟩ = some (.int .i64 y.id.n) := HC1.out q y hy 0 _ rfl
            have y1 : w1.cell? ⟨b, o + q * 26 + 1, none⟩ = some (.int .i64 y.id.r) := HC1.out q y hy 1 _ rfl
            have hqq : (q : Int) < (ms.length : Int) := by omega
            have HY := Lib.hid hy
            clear hy
            go_upto_region 6 with fail
            by_cases hgt : 0 < cmpS ⟨x.id.n, x.id.r⟩ ⟨y.id.n, y.id.r⟩
            · have HLT : Hid (stLt y.id x.id) := Lib.hid ((cmpS_gt x.id y.id).1 hgt)
              go_region_held3 (fun W => W.cell? ⟨b, o + k * 26, none⟩ = some (.int .i64 x.id.n) ∧ W.cell? ⟨b, o + k * 26 + 1, none⟩ = some (.int .i64 x.id.r) ∧ W.cell? ⟨b, o + k * 26 + 18, none⟩ = some (.string n) ∧ W.cell? ⟨b, o + q * 26, none⟩ = some (.int .i64 y.id.n) ∧ W.cell? ⟨b, o + q * 26 + 1, none⟩ = some (.int .i64 y.id.r)) (first | exact ⟨x0, x1, x18, y0, y1⟩ | exact ⟨keepB b5 x0, keepB b5 x1, keepB b5 x18, keepB b5 y0, keepB b5 y1⟩) ((go_at_call 19; ((with_reducible refine (rcompare_any _ _ _ _ _).mono ?_); rintro e w5 ⟨rfl, b5⟩; simp only [heap_drew, below_drew] at b5)))
              all_goals
                go_wp2_with fail
                go_roundg (ms.length - (k + 1))
                case measure => rw [HG.out]; omega
                case rel => exact ⟨k + 1, k, rfl, by omega, rfl, by simp, Lib.hid (hBe.out.more HY.out HX.out HCV.out HN.out HLT.out), by first | exact HB1.out.trans (b5.mono HB1.out.size) | exact (HB1.out.trans (b5.mono HB1.out.size)).drew⟩
            · have HLT : Hid (¬ stLt y.id x.id) := Lib.hid (fun h => hgt ((cmpS_gt x.id y.id).2 h))
              go_region_held3 (fun W => W.cell? ⟨b, o + k * 26, none⟩ = some (.int .i64 x.id.n) ∧ W.cell? ⟨b, o + k * 26 + 1, none⟩ = some (.int .i64 x.id.r) ∧ W.cell? ⟨b, o + k * 26 + 18, none⟩ = some (.string n) ∧ W.cell? ⟨b, o + q * 26, none⟩ = some (.int .i64 y.id.n) ∧ W.cell? ⟨b, o + q * 26 + 1, none⟩ = some (.int .i64 y.id.r)) (first | exact ⟨x0, x1, x18, y0, y1⟩ | exact ⟨keepB b5 x0, keepB b5 x1, keepB b5 x18, keepB b5 y0, keepB b5 y1⟩) ((go_at_call 19; ((with_reducible refine (rcompare_any _ _ _ _ _).mono ?_); rintro e w5 ⟨rfl, b5⟩; simp only [heap_drew, below_drew] at b5)))
              all_goals
                go_wp2_with fail
                go_roundg (ms.length - (k + 1))
                case measure => rw [HG.out]; omega
                case rel => exact ⟨k + 1, q, rfl, by omega, rfl, by simp, Lib.hid (hBe.out.less HY.out HX.out HLT.out), by first | exact HB1.out.trans (b5.mono HB1.out.size) | exact (HB1.out.trans (b5.mono HB1.out.size)).drew⟩
        · have hn1 : (x.name.toList == n.toList) = false := by
            cases h : (x.name.toList == n.toList) with
            | false => rfl
            | true => exact absurd ((eq_bytes _ _).1 (eq_of_beq h)) hn
          have hn2 : (x.name == n) = false := by rw [beq_bytes]; simp [hn]
          have HN : Hid (¬ (Cov l x i ∧ x.name = n)) := Lib.hid (fun h => hn h.2)
          clear hn hcv
          go_upto_region 6 with fail
          go_quiet (fail)
          go_wp2_with fail
          go_roundg (ms.length - (k + 1))
          case measure => rw [HG.out]; omega
          case rel => exact ⟨k + 1, c, rfl, by omega, rfl, by simp, Lib.hid (hBe.out.skip HX.out HN.out), below_drewN HB1.out _⟩
    · obtain rfl : k = ms.length := by omega
      clear hB hg
      go_wp2_with fail
      go_ret
      exact ⟨c, rfl, Lib.hid hBe.out.cnt, HB.out⟩

end Go.Proofs.Ytlfmkoapddihcaa
