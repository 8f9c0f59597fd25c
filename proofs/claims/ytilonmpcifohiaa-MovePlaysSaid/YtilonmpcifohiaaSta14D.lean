/- Stable sorting of structs: the library's own functions, each by a contract. -/
import Derived.Test.YtilonmpcifohiaaRuns
import Derived.Test.YtilonmpcifohiaaHand
import Derived.BigRegion
import Derived.BigQuiet
import Derived.Deep.QuietTactic
import Derived.Deep.LoopGhost
import Derived.Deep.RegionHeld3
import Derived.Deep.CutBlock
import Derived.Deep.DeepCutAuto
import Derived.IntWalk
import Derived.Lib.Hide
import Derived.Test.YtilonmpcifohiaaSta14C
namespace Go.Proofs.Ytilonmpcifohiaa
open Go.RowKit
set_option linter.unusedSimpArgs false
set_option linter.unusedVariables false

section
variable {cap sz blk n : Nat} {lt : (Ch × Nat) → (Ch × Nat) → Prop}

theorem mergePre_congr {a m b : Nat} {f g : Nat → (Ch × Nat)} (h : MergePre lt Prod.snd a m b f) (hg : ∀ i, a ≤ i → i < b → g i = f i) : MergePre lt Prod.snd a m b g :=
  ⟨h.am, h.mb, h.left.congr (fun i h1 h2 => hg i h1 (by have := h.mb; omega)), h.right.congr (fun i h1 h2 => hg i (by have := h.am; omega) h2), fun i j h1 h2 h3 h4 => by have e1 := h.am; have e2 := h.mb; rw [hg i h1 (by omega), hg j (by omega) h4]; exact h.apart i j h1 h2 h3 h4⟩
  
set_option maxRecDepth 100000 in
set_option maxHeartbeats 4000000 in
theorem merge3_any (a m b : Nat) (f : Nat → (Ch × Nat)) (w : World) (hS : Slab celT 5 36 sz w blk n f) (R : Ranks lt Prod.snd (fun x y : (Ch × Nat) => cfKey x.1 y.1)) (h : MergePre lt Prod.snd a m b f) (h1 : a + 1 < m) (h2 : m + 1 < b) (hbn : b ≤ n) (hcap : n ≤ cap) (hn : cap ≤ maxLen) (hN : n ≤ 1000000) (IH : ∀ (a' m' b' : Nat) (f' : Nat → (Ch × Nat)) (w0 : World), b' - a' < b - a → Slab celT 5 36 sz w0 blk n f' → MergePre lt Prod.snd a' m' b' f' → b' ≤ n → Calls Try.prog 68 #[.slice (some ⟨blk, 0, none⟩) n cap, .int .i64 a', .int .i64 m', .int .i64 b', .func (.func 41) #[] #[]] w0 fun e w' => (∃ v, e = .returned v) ∧ Hid (∃ g, Slab celT 5 36 sz w' blk n g ∧ PermF a' b' f' g ∧ SortF lt a' b' g) ∧ Ext (· = blk) w0 w') :
    Calls Try.prog 68 #[.slice (some ⟨blk, 0, none⟩) n cap, .int .i64 a, .int .i64 m, .int .i64 b, .func (.func 41) #[] #[]] w fun e w' => (∃ v, e = .returned v) ∧ Hid (∃ g, Slab celT 5 36 sz w' blk n g ∧ PermF a b f g ∧ SortF lt a b g) ∧ Ext (· = blk) w w' := by
  have HN := Lib.hid hn
  unfold maxLen at hn
  have HR := Lib.hid R
  have HM := Lib.hid h
  have HI := Lib.hid IH
  clear R h IH
  have t1 : ((m : Int) - (a : Int) == 1) = false := by rw [beq_eq_false_iff_ne]; omega
  have t2 : ((b : Int) - (m : Int) == 1) = false := by rw [beq_eq_false_iff_ne]; omega
  obtain ⟨c0, hc0⟩ : ∃ c0 : Nat, c0 = (a + b) / 2 := ⟨_, rfl⟩
  have hcc : a < c0 ∧ c0 < b := by omega
  have hcz : ((a : Int) + (b : Int)) / 2 = (c0 : Int) := by omega
  have hc3 : 2 * c0 ≤ a + b ∧ a + b ≤ 2 * c0 + 1 := by omega
  clear hc0
  go_enter Try.func68, Try.ntmps68
  go_upto_if 140 with fail
  go_cut [20, 21] (fun sv rv wx => ∃ s r : Nat, sv = .int .i64 s ∧ rv = .int .i64 r ∧ a ≤ s ∧ s ≤ r ∧ r ≤ m ∧ c0 + m ≤ b + s ∧ r ≤ c0 ∧ Hid (s = a ∨ c0 + m - s = b ∨ ¬ lt (f (c0 + m - s)) (f (s - 1))) ∧ Hid (r = m ∨ c0 + m - r = m ∨ lt (f (c0 + m - r - 1)) (f r)) ∧ w = wx)
  case first => as_aux_lemma =>
    clear hcz
    by_cases hgt : c0 < m
    · go_wp2_with fail
      go_meet
      exact ⟨c0 + m - b, c0, by go_num, rfl, by omega, by omega, by omega, by omega, Nat.le_refl _, Lib.hid (.inr (.inl (by omega))), Lib.hid (.inr (.inl (by omega))), rfl⟩
    · go_wp2_with fail
      go_meet
      exact ⟨a, m, rfl, rfl, Nat.le_refl _, by omega, Nat.le_refl _, by omega, by omega, Lib.hid (.inl rfl), Lib.hid (.inl rfl), rfl⟩
  case rest =>
    obtain ⟨s0, r0, rfl, rfl, i1, i2, i3, i4, i5, l1, l2, rfl⟩ := hcut
    clear hcz
    go_wp2_with fail
    go_loopg [20, 21] (r0 - s0) (fun g0 sv rv wx => ∃ s r : Nat, g0 = r - s ∧ sv = .int .i64 s ∧ rv = .int .i64 r ∧ a ≤ s ∧ s ≤ r ∧ r ≤ m ∧ c0 + m ≤ b + s ∧ r ≤ c0 ∧ Hid (s = a ∨ c0 + m - s = b ∨ ¬ lt (f (c0 + m - s)) (f (s - 1))) ∧ Hid (r = m ∨ c0 + m - r = m ∨ lt (f (c0 + m - r - 1)) (f r)) ∧ Slab celT 5 36 sz wx blk n f ∧ Ext (· = blk) w wx)
    case atStart => exact ⟨s0, r0, rfl, rfl, rfl, i1, i2, i3, i4, i5, l1, l2, hS, Ext.refl _ _⟩
    case round =>
      clear i1 i2 i3 i4 i5 l1 l2 hS
      obtain ⟨s, r, hg, rfl, rfl, i1, i2, i3, i4, i5, l1, l2, hW, hx⟩ := hrel
      have HG := Lib.hid hg
      clear hg
      have HX := Lib.hid hx
      clear hx
      by_cases hlt : s < r
      · as_aux_lemma =>
        obtain ⟨c, hh⟩ : ∃ c : Nat, c = (s + r) / 2 := ⟨_, rfl⟩
        have hhi : s ≤ c ∧ c < r := by omega
        have hhz : ((s : Int) + (r : Int)) / 2 = (c : Int) := by omega
        obtain ⟨q, hq⟩ : ∃ q : Nat, q = c0 + m - 1 - c := ⟨_, rfl⟩
        have hqn : q < n := by omega
        have hcn : c < n := by omega
        have iwq : IntKind.i64.wrap ((c0 : Int) + (m : Int) - 1 - (c : Int)) = (q : Int) := by rw [show (c0 : Int) + (m : Int) - 1 - (c : Int) = (q : Int) by omega]; exact IntWalk.i64_in _ (by omega)
        have b0q : (0 : Int) ≤ (q : Int) := by omega
        have b1q : (q : Int) < (n : Int) := by omega
        have b0c : (0 : Int) ≤ (c : Int) := by omega
        have b1c : (c : Int) < (n : Int) := by omega
        have eq1 : c0 + m - c - 1 = q := by omega
        have eq2 : c0 + m - (c + 1) = q := by omega
        have EQ1 := Lib.hid eq1
        have EQ2 := Lib.hid eq2
        clear eq1 eq2
        obtain ⟨x, hx⟩ : ∃ x, x = f q := ⟨_, rfl⟩
        have xc0 : wr.cell? ⟨blk, q * 5, none⟩ = some (.int .i64 x.1.block.n) := hW.cell (i := q) (j := 0) hqn (by rw [← hx]; rfl)
        have xc1 : wr.cell? ⟨blk, q * 5 + 1, none⟩ = some (.int .i64 x.1.block.r) := hW.cell (i := q) (j := 1) hqn (by rw [← hx]; rfl)
        have xc2 : wr.cell? ⟨blk, q * 5 + 2, none⟩ = some (.int .i64 x.1.under.n) := hW.cell (i := q) (j := 2) hqn (by rw [← hx]; rfl)
        have xc3 : wr.cell? ⟨blk, q * 5 + 3, none⟩ = some (.int .i64 x.1.under.r) := hW.cell (i := q) (j := 3) hqn (by rw [← hx]; rfl)
        have xc4 : wr.cell? ⟨blk, q * 5 + 4, none⟩ = some (.string x.1.key) := hW.cell (i := q) (j := 4) hqn (by rw [← hx]; rfl)
        obtain ⟨y, hy⟩ : ∃ y, y = f c := ⟨_, rfl⟩
        have yc0 : wr.cell? ⟨blk, c * 5, none⟩ = some (.int .i64 y.1.block.n) := hW.cell (i := c) (j := 0) hcn (by rw [← hy]; rfl)
        have yc1 : wr.cell? ⟨blk, c * 5 + 1, none⟩ = some (.int .i64 y.1.block.r) := hW.cell (i := c) (j := 1) hcn (by rw [← hy]; rfl)
        have yc2 : wr.cell? ⟨blk, c * 5 + 2, none⟩ = some (.int .i64 y.1.under.n) := hW.cell (i := c) (j := 2) hcn (by rw [← hy]; rfl)
        have yc3 : wr.cell? ⟨blk, c * 5 + 3, none⟩ = some (.int .i64 y.1.under.r) := hW.cell (i := c) (j := 3) hcn (by rw [← hy]; rfl)
        have yc4 : wr.cell? ⟨blk, c * 5 + 4, none⟩ = some (.string y.1.key) := hW.cell (i := c) (j := 4) hcn (by rw [← hy]; rfl)
        have hcc2 : cfKey x.1 y.1 < 0 ↔ lt (f q) (f c) := by rw [hx, hy]; exact HR.out.says _ _ (HM.out.apart c q (by omega) (by omega) (by omega) (by omega))
        have HCC := Lib.hid hcc2
        clear hcc2 hx hy hh hq
        go_wp2_with fail
        clear hhz
        go_region_held3 (fun W => W.cell? ⟨blk, q * 5, none⟩ = some (.int .i64 x.1.block.n) ∧ W.cell? ⟨blk, q * 5 + 1, none⟩ = some (.int .i64 x.1.block.r) ∧ W.cell? ⟨blk, q * 5 + 2, none⟩ = some (.int .i64 x.1.under.n) ∧ W.cell? ⟨blk, q * 5 + 3, none⟩ = some (.int .i64 x.1.under.r) ∧ W.cell? ⟨blk, q * 5 + 4, none⟩ = some (.string x.1.key) ∧ W.cell? ⟨blk, c * 5, none⟩ = some (.int .i64 y.1.block.n) ∧ W.cell? ⟨blk, c * 5 + 1, none⟩ = some (.int .i64 y.1.block.r) ∧ W.cell? ⟨blk, c * 5 + 2, none⟩ = some (.int .i64 y.1.under.n) ∧ W.cell? ⟨blk, c * 5 + 3, none⟩ = some (.int .i64 y.1.under.r) ∧ W.cell? ⟨blk, c * 5 + 4, none⟩ = some (.string y.1.key)) (first | exact ⟨xc0, xc1, xc2, xc3, xc4, yc0, yc1, yc2, yc3, yc4⟩ | exact ⟨keepB b5 xc0, keepB b5 xc1, keepB b5 xc2, keepB b5 xc3, keepB b5 xc4, keepB b5 yc0, keepB b5 yc1, keepB b5 yc2, keepB b5 yc3, keepB b5 yc4⟩) ((go_at_call 41; ((with_reducible refine (kids2_any x.1 y.1 _).mono ?_); rintro e w5 ⟨rfl, b5⟩; simp only [heap_drew, below_drew] at b5)))
        have HS5 := Lib.hid (hW.below b5)
        have HX5 := Lib.hid (HX.out.then_below b5)
        clear xc0 xc1 xc2 xc3 xc4 yc0 yc1 yc2 yc3 yc4 hW b5 iwq
        by_cases hc : cfKey x.1 y.1 < 0
        · have hcb : decide (cfKey x.1 y.1 < 0) = true := decide_eq_true hc
          simp only [hcb, Bool.not_true]
          go_wp2_with fail
          go_roundg (c - s)
          case measure => rw [HG.out]; omega
          case rel => exact ⟨s, c, rfl, rfl, rfl, i1, by omega, by omega, i4, by omega, l1, Lib.hid (.inr (.inr (by rw [EQ1.out]; exact HCC.out.1 hc))), HS5.out, HX5.out⟩
        · have hcb : decide (cfKey x.1 y.1 < 0) = false := decide_eq_false hc
          simp only [hcb, Bool.not_false]
          go_wp2_with fail
          go_roundg (r - (c + 1))
          case measure => rw [HG.out]; omega
          case rel => exact ⟨c + 1, r, rfl, by go_num, rfl, by omega, by omega, i3, by omega, i5, Lib.hid (.inr (.inr (by rw [EQ2.out, Nat.add_sub_cancel]; exact fun t => by have := HCC.out.2 t; omega))), l2, HS5.out, HX5.out⟩
      · obtain rfl : s = r := by omega
        obtain ⟨e1, he1⟩ : ∃ e1 : Nat, e1 = c0 + m - s := ⟨_, rfl⟩
        have iwe : ((c0 : Int) + (m : Int) - (s : Int)) = (e1 : Int) := by omega
        have hce : s + e1 = c0 + m := by omega
        have HC : Hid (CutAt lt a m b c0 s e1 f) := Lib.hid ⟨i1, i3, by omega, by omega, by omega, by rw [he1]; exact l1.out, by rw [he1]; exact l2.out⟩
        clear l1 l2 he1 hlt
        go_upto_region 39 with fail
        clear iwe
        go_cut [185] (fun cv wx => cv = .bool (decide (s < m) && decide (m < e1)) ∧ wr = wx)
        case first => as_aux_lemma =>
          by_cases hs1 : s < m
          · by_cases hs2 : m < e1
            · go_wp2_with fail
              go_meet
              exact ⟨by simp [hs1, hs2], rfl⟩
            · go_wp2_with fail
              go_meet
              exact ⟨by simp [hs1, hs2], rfl⟩
          · go_wp2_with fail
            go_meet
            exact ⟨by simp [hs1], rfl⟩
        case rest =>
          obtain ⟨rfl, rfl⟩ := hcut
          go_upto_if 185 with fail
          go_cut [] (fun wx => Slab celT 5 36 sz wx blk n (rotF f s m e1) ∧ Ext (· = blk) w wx)
          case first => as_aux_lemma =>
            by_cases hs : s < m ∧ m < e1
            · have hb : (decide (s < m) && decide (m < e1)) = true := by simp [hs.1, hs.2]
              simp only [hb]
              go_wp2_with fail
              (with_reducible refine (rotate_any s m e1 f _ _ hW hs.1 hs.2 (by omega) hcap HN.out).mono ?_)
              rintro e w5 ⟨⟨v5, rfl⟩, s5, x5⟩
              go_wp2_with fail
              go_meet
              exact ⟨s5, HX.out.trans x5⟩
            · have hb : (decide (s < m) && decide (m < e1)) = false := by rw [Bool.eq_false_iff]; simpa using hs
              simp only [hb]
              go_wp2_with fail
              go_meet
              exact ⟨by rw [rotF_id f i3 (by omega) (by omega)]; exact hW, HX.out⟩
          case rest =>
            obtain ⟨hW2, hx2⟩ := hcut
            have HX2 := Lib.hid hx2
            clear hx2 hW
            go_upto_region 41 with fail
            go_cut [199] (fun cv wx => cv = .bool (decide (a < s) && decide (s < c0)) ∧ wc = wx)
            case first => as_aux_lemma =>
              by_cases hs1 : a < s
              · by_cases hs2 : s < c0
                · go_wp2_with fail
                  go_meet
                  exact ⟨by simp [hs1, hs2], rfl⟩
                · go_wp2_with fail
                  go_meet
                  exact ⟨by simp [hs1, hs2], rfl⟩
              · go_wp2_with fail
                go_meet
                exact ⟨by simp [hs1], rfl⟩
            case rest =>
              obtain ⟨rfl, rfl⟩ := hcut
              go_upto_if 199 with fail
              go_cut [] (fun wx => Hid (∃ g, Slab celT 5 36 sz wx blk n g ∧ PermF a c0 (rotF f s m e1) g ∧ SortF lt a c0 g) ∧ Ext (· = blk) w wx)
              case first => as_aux_lemma =>
                by_cases hs : a < s ∧ s < c0
                · have hb : (decide (a < s) && decide (s < c0)) = true := by simp [hs.1, hs.2]
                  simp only [hb]
                  go_wp2_with fail
                  (with_reducible refine (HI.out a s c0 _ _ (by omega) hW2 (HC.out.pre1 HM.out hs.1 hs.2) (by omega)).mono ?_)
                  rintro e w5 ⟨⟨v5, rfl⟩, s5, x5⟩
                  go_wp2_with fail
                  go_meet
                  exact ⟨s5, HX2.out.trans x5⟩
                · have hb : (decide (a < s) && decide (s < c0)) = false := by rw [Bool.eq_false_iff]; simpa using hs
                  simp only [hb]
                  go_wp2_with fail
                  go_meet
                  exact ⟨Lib.hid ⟨_, hW2, PermF.refl _ _ _, HC.out.sort1 HM.out hs⟩, HX2.out⟩
              case rest =>
                obtain ⟨hQ, hx3⟩ := hcut
                have HX3 := Lib.hid hx3
                clear hx3 hW2
                obtain ⟨g1, hW3, p1, q1⟩ := hQ.out
                have P1 := Lib.hid p1
                have Q1 := Lib.hid q1
                clear p1 q1 hQ
                go_upto_region 43 with fail
                go_cut [213] (fun cv wx => cv = .bool (decide (c0 < e1) && decide (e1 < b)) ∧ wc = wx)
                case first => as_aux_lemma =>
                  by_cases hs1 : c0 < e1
                  · by_cases hs2 : e1 < b
                    · go_wp2_with fail
                      go_meet
                      exact ⟨by simp [hs1, hs2], rfl⟩
                    · go_wp2_with fail
                      go_meet
                      exact ⟨by simp [hs1, hs2], rfl⟩
                  · go_wp2_with fail
                    go_meet
                    exact ⟨by simp [hs1], rfl⟩
                case rest =>
                  obtain ⟨rfl, rfl⟩ := hcut
                  go_upto_if 213 with fail
                  have hfin : ∀ (g2 : Nat → (Ch × Nat)) (w6 : World), Slab celT 5 36 sz w6 blk n g2 → PermF c0 b g1 g2 → SortF lt c0 b g2 → Hid (∃ g, Slab celT 5 36 sz w6 blk n g ∧ PermF a b f g ∧ SortF lt a b g) := fun g2 w6 W6 p2 q2 => Lib.hid ⟨g2, W6, ((rotF_perm f i3 (by omega) i1 (by omega)).trans (P1.out.mono (Nat.le_refl _) (by omega))).trans (p2.mono (by omega) (Nat.le_refl _)), join_sorted (fun i j => HC.out.cross HR.out HM.out) P1.out Q1.out p2 q2⟩
                  have HF := Lib.hid hfin
                  clear hfin
                  by_cases hs : c0 < e1 ∧ e1 < b
                  · have hb : (decide (c0 < e1) && decide (e1 < b)) = true := by simp [hs.1, hs.2]
                    simp only [hb]
                    go_wp2_with fail
                    (with_reducible refine (HI.out c0 e1 b _ _ (by omega) hW3 (mergePre_congr (HC.out.pre2 HM.out hs.1 hs.2) (fun i h1 h2 => P1.out.out (.inr h1))) (by omega)).mono ?_)
                    rintro e w5 ⟨⟨v5, rfl⟩, s5, x5⟩
                    go_wp2_with fail
                    go_end0
                    obtain ⟨g2, a1, a2, a3⟩ := s5.out
                    exact ⟨⟨_, rfl⟩, HF.out g2 _ a1 a2 a3, HX3.out.trans x5⟩
                  · have hb : (decide (c0 < e1) && decide (e1 < b)) = false := by rw [Bool.eq_false_iff]; simpa using hs
                    simp only [hb]
                    go_wp2_with fail
                    go_end0
                    exact ⟨⟨_, rfl⟩, HF.out g1 _ hW3 (PermF.refl _ _ _) ((HC.out.sort2 HM.out hs).congr (fun i h1 h2 => P1.out.out (.inr h1))), HX3.out⟩
                  
theorem merge_any : ∀ (k a m b : Nat) (f : Nat → (Ch × Nat)) (w : World), b - a ≤ k → Slab celT 5 36 sz w blk n f → Ranks lt Prod.snd (fun x y : (Ch × Nat) => cfKey x.1 y.1) → MergePre lt Prod.snd a m b f → b ≤ n → n ≤ cap → cap ≤ maxLen → n ≤ 1000000 → Calls Try.prog 68 #[.slice (some ⟨blk, 0, none⟩) n cap, .int .i64 a, .int .i64 m, .int .i64 b, .func (.func 41) #[] #[]] w fun e w' => (∃ v, e = .returned v) ∧ Hid (∃ g, Slab celT 5 36 sz w' blk n g ∧ PermF a b f g ∧ SortF lt a b g) ∧ Ext (· = blk) w w'
  | 0, a, m, b, f, w, hk, hS, R, h, hbn, hcap, hn, hN => by have e1 := h.am; have e2 := h.mb; omega
  | k + 1, a, m, b, f, w, hk, hS, R, h, hbn, hcap, hn, hN => by
    by_cases c1 : m = a + 1
    · exact merge1_any a m b c1 f w hS R h hbn hcap hn hN
    · by_cases c2 : b = m + 1
      · exact merge2_any a m b c2 f w hS R h (by have := h.am; omega) hbn hcap hn hN
      · exact merge3_any a m b f w hS R h (by have := h.am; omega) (by have := h.mb; omega) hbn hcap hn hN (fun a' m' b' f' w0 h1 h2 h3 h4 => merge_any k a' m' b' f' w0 (by omega) h2 R h3 h4 hcap hn hN)
  
end

end Go.Proofs.Ytilonmpcifohiaa
