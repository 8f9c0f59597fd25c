/- The law SetLast: the same writes, each at a stamp of its own, in the order given, turned round, and from the middle on, are told alike; for every input. -/
import Derived.Test.YtkkffnejgbhbmaaSame15
import Derived.Test.YtkkffnejgbhbmaaPlain15
import Derived.Test.YtkkffnejgbhbmaaAlive15
import Derived.ProofKit
import Derived.OpenShut
import Derived.ShutString
import Derived.ChangeOld
import Derived.Below
namespace Go.Proofs.Ytkkffnejgbhbmaa
open Go.ChangeShapes Go.WideShapes Go.ChangeAt Go.RowKit
set_option linter.unusedSimpArgs false
set_option linter.unusedVariables false

/-- The cells of element i of a slice of writes. -/
def WCells (w : World) (b o i : Nat) (x : Write) : Prop :=
  w.cell? ⟨b, o + i * 6, none⟩ = some (.int .i64 x.at_.n) ∧ w.cell? ⟨b, o + i * 6 + 1, none⟩ = some (.int .i64 x.at_.r) ∧ w.cell? ⟨b, o + i * 6 + 2, none⟩ = some (.int .i64 x.blk.n) ∧
  w.cell? ⟨b, o + i * 6 + 3, none⟩ = some (.int .i64 x.blk.r) ∧ w.cell? ⟨b, o + i * 6 + 4, none⟩ = some (.string x.name) ∧ w.cell? ⟨b, o + i * 6 + 5, none⟩ = some (.string x.value)

theorem SliceIs.wcells {w : World} {v : Value} {l : List Write} (h : SliceIs Write.cells 6 w v l) (hl : l ≠ []) : ∃ b o cap, v = .slice (some ⟨b, o, none⟩) l.length cap ∧ ∀ i x, l[i]? = some x → WCells w b o i x := by
  obtain ⟨a, cap, rfl, h2, h3, h4⟩ := h
  obtain ⟨b, o, rfl, hc⟩ := h4 hl
  exact ⟨b, o, cap, rfl, fun i x hx => ⟨hc i x hx 0 _ rfl, hc i x hx 1 _ rfl, hc i x hx 2 _ rfl, hc i x hx 3 _ rfl, hc i x hx 4 _ rfl, hc i x hx 5 _ rfl⟩⟩

theorem WCells.below {w w' : World} {b o i : Nat} {x : Write} (h : WCells w b o i x) (hb : Below w.heap.size w w') : WCells w' b o i x :=
  ⟨keepB hb h.1, keepB hb h.2.1, keepB hb h.2.2.1, keepB hb h.2.2.2.1, keepB hb h.2.2.2.2.1, keepB hb h.2.2.2.2.2⟩

/-- A box that holds a write. -/
structure BoxIs (w : World) (b : Nat) (x : Write) : Prop where
  c0 : w.cell? ⟨b, 0, none⟩ = some (.int .i64 x.at_.n)
  c1 : w.cell? ⟨b, 1, none⟩ = some (.int .i64 x.at_.r)
  c2 : w.cell? ⟨b, 2, none⟩ = some (.int .i64 x.blk.n)
  c3 : w.cell? ⟨b, 3, none⟩ = some (.int .i64 x.blk.r)
  c4 : w.cell? ⟨b, 4, none⟩ = some (.string x.name)
  c5 : w.cell? ⟨b, 5, none⟩ = some (.string x.value)
theorem BoxIs.new (w : World) (x : Write) : BoxIs (w.alloc (.cells #[.int .i64 x.at_.n, .int .i64 x.at_.r, .int .i64 x.blk.n, .int .i64 x.blk.r, .string x.name, .string x.value] 32)) w.heap.size x :=
  ⟨by go_simp, by go_simp, by go_simp, by go_simp, by go_simp, by go_simp⟩
theorem BoxIs.alloc {w : World} {b : Nat} {x : Write} (h : BoxIs w b x) (o : Obj) : BoxIs (w.alloc o) b x :=
  ⟨cell_alloc h.c0 o, cell_alloc h.c1 o, cell_alloc h.c2 o, cell_alloc h.c3 o, cell_alloc h.c4 o, cell_alloc h.c5 o⟩
theorem BoxIs.ext {w w' : World} {b : Nat} {x : Write} (h : BoxIs w b x) {S : Nat → Prop} (hx : Ext S w w') (hn : ¬ S b) : BoxIs w' b x :=
  ⟨hx.keep h.c0 hn, hx.keep h.c1 hn, hx.keep h.c2 hn, hx.keep h.c3 hn, hx.keep h.c4 hn, hx.keep h.c5 hn⟩
theorem RegIs.alloc {w : World} {r mv ma : Nat} {vs : List (Pl × Wr)} {ats : List (St × Bool)} (h : RegIs w r mv ma vs ats) (o : Obj) : RegIs (w.alloc o) r mv ma vs ats :=
  ⟨cell_alloc h.c0 o, cell_alloc h.c1 o, h.hv.alloc o, h.ha.alloc o, h.ne⟩
theorem RegIs.drew {w : World} {r mv ma : Nat} {vs : List (Pl × Wr)} {ats : List (St × Bool)} (h : RegIs w r mv ma vs ats) : RegIs w.drew r mv ma vs ats := ⟨h.c0, h.c1, h.hv, h.ha, h.ne⟩
theorem RegIs.lt {w : World} {r mv ma : Nat} {vs : List (Pl × Wr)} {ats : List (St × Bool)} (h : RegIs w r mv ma vs ats) : r < w.heap.size ∧ mv < w.heap.size ∧ ma < w.heap.size := ⟨cell_lt h.c0, h.hv.lt, h.ha.lt⟩

/-- The first k of l turned round (n in all), and from f on. -/
def revL (l : List Write) (n k : Nat) : List Write := (List.range k).filterMap (fun i => l[n - 1 - i]?)
def rotL (l : List Write) (n f k : Nat) : List Write := (List.range k).filterMap (fun i => l[(f % n + i) % n]?)

theorem revL_snoc {l : List Write} {n k : Nat} {x : Write} (h : l[n - 1 - k]? = some x) : revL l n (k + 1) = revL l n k ++ [x] := by
  simp [revL, List.range_succ, h]
theorem rotL_snoc {l : List Write} {n f k : Nat} {x : Write} (h : l[(f % n + k) % n]? = some x) : rotL l n f (k + 1) = rotL l n f k ++ [x] := by
  rw [rotL, List.range_succ, List.filterMap_append]
  simp only [List.filterMap_cons, h, List.filterMap_nil]
  rfl
theorem take_snoc' {l : List Write} {k : Nat} {x : Write} (h : l[k]? = some x) : l.take (k + 1) = l.take k ++ [x] := by
  obtain ⟨hl, rfl⟩ := List.getElem?_eq_some_iff.1 h
  rw [List.take_succ_eq_append_getElem hl]

theorem mem_take {l : List Write} {n : Nat} {x : Write} : x ∈ l.take n ↔ ∃ i, i < n ∧ l[i]? = some x := by
  rw [List.mem_iff_getElem?]
  constructor
  · rintro ⟨i, hi⟩
    rw [List.getElem?_take] at hi
    split at hi
    · exact ⟨i, by assumption, hi⟩
    · cases hi
  · rintro ⟨i, h1, h2⟩
    exact ⟨i, by rw [List.getElem?_take, if_pos h1]; exact h2⟩

theorem mem_revL {l : List Write} {n : Nat} {x : Write} : x ∈ l.take n ↔ x ∈ revL l n n := by
  rw [mem_take]
  simp only [revL, List.mem_filterMap, List.mem_range]
  constructor
  · rintro ⟨i, h1, h2⟩
    exact ⟨n - 1 - i, by omega, by rw [show n - 1 - (n - 1 - i) = i from by omega]; exact h2⟩
  · rintro ⟨i, h1, h2⟩
    exact ⟨n - 1 - i, by omega, h2⟩

theorem mem_rotL {l : List Write} {n f : Nat} {x : Write} : x ∈ l.take n ↔ x ∈ rotL l n f n := by
  rw [mem_take]
  simp only [rotL, List.mem_filterMap, List.mem_range]
  constructor
  · rintro ⟨i, h1, h2⟩
    have hf : f % n < n := Nat.mod_lt _ (by omega)
    refine ⟨(i + (n - f % n)) % n, Nat.mod_lt _ (by omega), ?_⟩
    have : (f % n + (i + (n - f % n)) % n) % n = i := by
      rw [Nat.add_mod_mod, show f % n + (i + (n - f % n)) = i + n from by omega, Nat.add_mod_right, Nat.mod_eq_of_lt h1]
    rw [this]; exact h2
  · rintro ⟨i, h1, h2⟩
    exact ⟨(f % n + i) % n, Nat.mod_lt _ (by omega), h2⟩

/-- What the loop that sets has at its head. -/
def LastRel (w : World) (l : List Write) (N F za zb zc : Nat) (g : Nat) (i : Value) (wr : World) : Prop :=
  ∃ k : Nat, g = N - k ∧ k ≤ N ∧ i = .int .i64 k ∧ RegIs wr (za + 2) za (za + 1) (setAll (l.take k)).1 (setAll (l.take k)).2 ∧ RegIs wr (zb + 2) zb (zb + 1) (setAll (revL l N k)).1 (setAll (revL l N k)).2 ∧
    RegIs wr (zc + 2) zc (zc + 1) (setAll (rotL l N F k)).1 (setAll (rotL l N F k)).2 ∧ Below w.heap.size w wr

set_option maxRecDepth 100000 in
set_option maxHeartbeats 4000000 in
theorem setLast_walk (v : Value) (l : List Write) (frm : Int) (w : World) (hv : SliceIs Write.cells 6 w v l) (hf0 : -9223372036854775808 ≤ frm) (hf1 : frm ≤ 9223372036854775807) :
    Calls Try.prog 4 #[v, .int .i64 frm] w fun e w' => e = .returned (.bool true) ∧ Below w.heap.size w w' := by
  obtain ⟨a, cap, hve, hcap, hmax, _⟩ := id hv
  unfold maxLen at hmax
  obtain ⟨N, hN⟩ : ∃ N : Nat, N = min l.length 80 := ⟨_, rfl⟩
  have hmin : ((min (l.length : Int) 80) : Int) = (N : Int) := by omega
  have hN80 : N ≤ 80 := by omega
  have hNl : N ≤ l.length := by omega
  subst hve
  have HN := Lib.hid hN
  clear hN
  go_enter Try.func4, Try.ntmps4
  go_wp2_with fail
  go_loopg [6] N (fun g i wr => ∃ k : Nat, g = N - k ∧ k ≤ N ∧ i = .int .i64 k ∧ Hid (∀ i' k', k' < i' → i' < k → ∀ x y, l[i']? = some x → l[k']? = some y → x.at_ ≠ y.at_) ∧ Below w.heap.size w wr)
  case atStart => exact ⟨0, rfl, Nat.zero_le _, rfl, fun i' k' h1 h2 => absurd h2 (by omega), Below.refl _ _⟩
  case round =>
    obtain ⟨k, hg, hk, rfl, hpre, hB⟩ := hrel
    have HG := Lib.hid hg
    clear hg
    by_cases hlt : k < N
    · go_wp2_with fail
      obtain ⟨wo, rfl⟩ : ∃ wo : World, wo = wr := ⟨_, rfl⟩
      go_loopg [7] k (fun g i wr => ∃ j : Nat, g = k - j ∧ j ≤ k ∧ i = .int .i64 j ∧ Hid (∀ k', k' < j → ∀ x y, l[k]? = some x → l[k']? = some y → x.at_ ≠ y.at_) ∧ Below w.heap.size w wr)
      case atStart => exact ⟨0, rfl, Nat.zero_le _, rfl, fun k' h1 => absurd h1 (by omega), hB⟩
      case round =>
        obtain ⟨j, hg2, hj, rfl, hpre2, hB2⟩ := hrel
        have HG2 := Lib.hid hg2
        clear hg2
        by_cases hlt2 : j < k
        · obtain ⟨x, hx⟩ : ∃ x, l[k]? = some x := ⟨_, List.getElem?_eq_getElem (by omega)⟩
          obtain ⟨y, hy⟩ : ∃ y, l[j]? = some y := ⟨_, List.getElem?_eq_getElem (by omega)⟩
          obtain ⟨b, o, cp, hve, hcs⟩ := hv.wcells (by intro e; rw [e] at hx; simp at hx)
          cases hve
          obtain ⟨x0, x1, _⟩ := (hcs k x hx).below hB2
          obtain ⟨y0, y1, _⟩ := (hcs j y hy).below hB2
          have hkl : k < l.length := by omega
          have hjl : j < l.length := by omega
          have HX := Lib.hid hx
          have HY := Lib.hid hy
          clear hx hy hcs
          by_cases hat : x.at_ = y.at_
          · have e1 : x.at_.n = y.at_.n := by rw [hat]
            have e2 : x.at_.r = y.at_.r := by rw [hat]
            rw [e1] at x0
            rw [e2] at x1
            clear hat e1 e2
            go_wp2_with fail
            go_region_held3 (fun W => W.cell? ⟨b, o + k * 6, none⟩ = some (.int .i64 y.at_.n) ∧ W.cell? ⟨b, o + k * 6 + 1, none⟩ = some (.int .i64 y.at_.r) ∧ W.cell? ⟨b, o + j * 6, none⟩ = some (.int .i64 y.at_.n) ∧ W.cell? ⟨b, o + j * 6 + 1, none⟩ = some (.int .i64 y.at_.r)) (exact ⟨x0, x1, y0, y1⟩) (fail)
            go_wp2_with fail
            refine (alive_any _).mono ?_
            rintro e w5 ⟨rfl, b5⟩
            go_wp2_with fail
            go_ret
            exact ⟨rfl, hB2.drew.trans (b5.mono hB2.size)⟩
          · by_cases e1 : x.at_.n = y.at_.n
            · have e2 : ¬ x.at_.r = y.at_.r := fun e2 => hat (by cases hxa : x.at_; cases hya : y.at_; rw [hxa, hya] at e1 e2; simp_all)
              go_wp2_with fail
              go_region_held3 (fun W => W.cell? ⟨b, o + k * 6, none⟩ = some (.int .i64 x.at_.n) ∧ W.cell? ⟨b, o + k * 6 + 1, none⟩ = some (.int .i64 x.at_.r) ∧ W.cell? ⟨b, o + j * 6, none⟩ = some (.int .i64 y.at_.n) ∧ W.cell? ⟨b, o + j * 6 + 1, none⟩ = some (.int .i64 y.at_.r)) (exact ⟨x0, x1, y0, y1⟩) (fail)
              go_wp2_with fail
              go_roundg (k - (j + 1))
              case measure => rw [HG2.out]; omega
              case rel =>
                refine ⟨j + 1, rfl, hlt2, by go_num, fun k' hk' x' y' hx' hy' => ?_, hB2.drew⟩
                by_cases hkj : k' < j
                · exact hpre2.out k' hkj x' y' hx' hy'
                · obtain rfl : k' = j := by omega
                  rw [HX.out] at hx'; rw [HY.out] at hy'
                  cases hx'; cases hy'
                  exact hat
            · go_wp2_with fail
              go_region_held3 (fun W => W.cell? ⟨b, o + k * 6, none⟩ = some (.int .i64 x.at_.n) ∧ W.cell? ⟨b, o + k * 6 + 1, none⟩ = some (.int .i64 x.at_.r) ∧ W.cell? ⟨b, o + j * 6, none⟩ = some (.int .i64 y.at_.n) ∧ W.cell? ⟨b, o + j * 6 + 1, none⟩ = some (.int .i64 y.at_.r)) (exact ⟨x0, x1, y0, y1⟩) (fail)
              go_wp2_with fail
              go_roundg (k - (j + 1))
              case measure => rw [HG2.out]; omega
              case rel =>
                refine ⟨j + 1, rfl, hlt2, by go_num, fun k' hk' x' y' hx' hy' => ?_, hB2.drew⟩
                by_cases hkj : k' < j
                · exact hpre2.out k' hkj x' y' hx' hy'
                · obtain rfl : k' = j := by omega
                  rw [HX.out] at hx'; rw [HY.out] at hy'
                  cases hx'; cases hy'
                  exact hat
        · go_wp2_with fail
          go_roundg (N - (k + 1))
          case measure => rw [HG.out]; omega
          case rel =>
            refine ⟨k + 1, rfl, hlt, by go_num, fun i' k' h1 h2 x' y' hx' hy' => ?_, hB2⟩
            by_cases hik : i' < k
            · exact hpre.out i' k' h1 hik x' y' hx' hy'
            · obtain rfl : i' = k := by omega
              exact hpre2.out k' (by omega) x' y' hx' hy'
    · obtain rfl : k = N := by omega
      by_cases hN0 : k = 0
      · have hq : (((k : Nat) : Int) == 0) = true := by simp [hN0]
        go_wp2_with fail
        refine (alive_any _).mono ?_
        rintro e w5 ⟨rfl, b5⟩
        go_wp2_with fail
        go_ret
        exact ⟨rfl, hB.trans (b5.mono hB.size)⟩
      · have hq : (((k : Nat) : Int) == 0) = false := by simp; omega
        have hfin : ∃ Fn : Nat, (Fn : Int) ≤ 9223372036854775807 ∧ ((frm < 0 ∧ -(frm + 1) = (Fn : Int)) ∨ (0 ≤ frm ∧ frm = (Fn : Int))) := by
          by_cases h : frm < 0
          · obtain ⟨F, hF⟩ := Int.eq_ofNat_of_zero_le (show 0 ≤ -(frm + 1) by omega)
            exact ⟨F, by omega, .inl ⟨h, hF⟩⟩
          · obtain ⟨F, hF⟩ := Int.eq_ofNat_of_zero_le (show 0 ≤ frm by omega)
            exact ⟨F, by omega, .inr ⟨by omega, hF⟩⟩
        obtain ⟨Fn, hFb, hfin⟩ := hfin
        have HFun : Hid (Fun1 (l.take k)) := by
          intro x hx y hy he
          obtain ⟨i1, h1, h2⟩ := mem_take.1 hx
          obtain ⟨i2, h3, h4⟩ := mem_take.1 hy
          rcases Nat.lt_trichotomy i1 i2 with t | t | t
          · exact absurd he.symm (hpre.out i2 i1 t h3 y x h4 h2)
          · subst t; rw [h2] at h4; exact Option.some.inj h4
          · exact absurd he (hpre.out i1 i2 t h1 x y h2 h4)
        clear hpre
        rcases hfin with ⟨hneg, hF⟩ | ⟨hneg, hF⟩
        · have HF := Lib.hid hF
          clear hF
          go_wp2_with fail
          rw [HF.out]
          refine (new_reg _).mono ?_
          rintro e w1 ⟨rfl, r1, b1, z1⟩
          have y1 := hB.trans (b1.mono hB.size)
          have t0 := hB.size
          have Z1 := Lib.hid z1
          clear z1 b1
          go_wp2_with fail
          refine (new_reg _).mono ?_
          rintro e w2 ⟨rfl, r2, b2, z2⟩
          replace r1 := r1.below b2
          have y2 := y1.trans (b2.mono y1.size)
          have Z2 := Lib.hid z2
          clear z2 b2
          go_wp2_with fail
          refine (new_reg _).mono ?_
          rintro e w3 ⟨rfl, r3, b3, z3⟩
          replace r1 := r1.below b3
          replace r2 := r2.below b3
          have y3 := y2.trans (b3.mono y2.size)
          clear b3 z3
          go_wp2_with fail
          refine (alive_any _).mono ?_
          rintro e w4 ⟨rfl, b4⟩
          replace r1 := r1.below b4
          replace r2 := r2.below b4
          replace r3 := r3.below b4
          have y4 := y3.trans (b4.mono y3.size)
          clear b4
          have t1 : wr.heap.size + 3 ≤ w1.heap.size := by rw [Z1.out]; exact Nat.le_refl _
          have t2 : w1.heap.size + 3 ≤ w2.heap.size := by rw [Z2.out]; exact Nat.le_refl _
          clear y1 y2 y3 hB Z1 Z2
          generalize wr.heap.size = za at *
          generalize w1.heap.size = zb at *
          generalize w2.heap.size = zc at *
          clear HG
          go_wp2_with fail
          obtain ⟨M, hM1, hM2, hM3, HM⟩ : ∃ M : Nat, (Fn : Int) % (k : Int) = (M : Int) ∧ (Fn : Int).tmod (k : Int) = (M : Int) ∧ M < k ∧ Hid (M = Fn % k) :=
            ⟨Fn % k, rfl, by rw [Int.tmod_eq_emod_of_nonneg (by omega)]; rfl, Nat.mod_lt _ (by omega), rfl⟩
          go_loopg [11] k (fun g i wx => LastRel w l k Fn za zb zc g i wx)
          case atStart =>
            refine ⟨0, rfl, Nat.zero_le _, rfl, ?_, ?_, ?_, y4⟩
            · simpa [setAll_nil] using r1
            · simpa [setAll_nil, revL] using r2
            · simpa [setAll_nil, rotL] using r3
          case round =>
            obtain ⟨j, hg2, hj, rfl, q1, q2, q3, hB2⟩ := hrel
            have HG2 := Lib.hid hg2
            clear hg2 r1 r2 r3 y4
            by_cases hlt2 : j < k
            · obtain ⟨Q, hQ1, hQ2, hQ3, HQ⟩ : ∃ Q : Nat, ((M : Int) + (j : Int)) % (k : Int) = (Q : Int) ∧ ((M : Int) + (j : Int)).tmod (k : Int) = (Q : Int) ∧ Q < k ∧ Hid (Q = (Fn % k + j) % k) :=
                ⟨(M + j) % k, rfl, by rw [Int.tmod_eq_emod_of_nonneg (by omega)]; rfl, Nat.mod_lt _ (by omega), by show _ = _; rw [HM.out]⟩
              obtain ⟨x, hx⟩ : ∃ x, l[j]? = some x := ⟨_, List.getElem?_eq_getElem (by omega)⟩
              obtain ⟨y, hy⟩ : ∃ y, l[k - 1 - j]? = some y := ⟨_, List.getElem?_eq_getElem (by omega)⟩
              obtain ⟨z, hz⟩ : ∃ z, l[Q]? = some z := ⟨_, List.getElem?_eq_getElem (by omega)⟩
              obtain ⟨b, o, cp, hve, hcs⟩ := hv.wcells (by intro e; rw [e] at hx; simp at hx)
              cases hve
              obtain ⟨x0, x1, x2, x3, x4, x5⟩ := (hcs j x hx).below hB2
              obtain ⟨y0, y1, y2, y3, y4, y5⟩ := (hcs (k - 1 - j) y hy).below hB2
              obtain ⟨u0, u1, u2, u3, u4', u5⟩ := (hcs Q z hz).below hB2
              have hjl : j < l.length := by omega
              have hkl : k - 1 - j < l.length := by omega
              have hql : Q < l.length := by omega
              have HX := Lib.hid hx
              have HY := Lib.hid hy
              have HZ := Lib.hid hz
              clear hx hy hz hcs
              have c1 := cell_lt x0
              go_wp2_with fail
              have p1 := ((q1.alloc (.cells #[.int .i64 x.at_.n, .int .i64 x.at_.r, .int .i64 x.blk.n, .int .i64 x.blk.r, .string x.name, .string x.value] 32)).alloc (.cells #[.int .i64 y.at_.n, .int .i64 y.at_.r, .int .i64 y.blk.n, .int .i64 y.blk.r, .string y.name, .string y.value] 32)).alloc (.cells #[.int .i64 z.at_.n, .int .i64 z.at_.r, .int .i64 z.blk.n, .int .i64 z.blk.r, .string z.name, .string z.value] 32)
              have p2 := ((q2.alloc (.cells #[.int .i64 x.at_.n, .int .i64 x.at_.r, .int .i64 x.blk.n, .int .i64 x.blk.r, .string x.name, .string x.value] 32)).alloc (.cells #[.int .i64 y.at_.n, .int .i64 y.at_.r, .int .i64 y.blk.n, .int .i64 y.blk.r, .string y.name, .string y.value] 32)).alloc (.cells #[.int .i64 z.at_.n, .int .i64 z.at_.r, .int .i64 z.blk.n, .int .i64 z.blk.r, .string z.name, .string z.value] 32)
              have p3 := ((q3.alloc (.cells #[.int .i64 x.at_.n, .int .i64 x.at_.r, .int .i64 x.blk.n, .int .i64 x.blk.r, .string x.name, .string x.value] 32)).alloc (.cells #[.int .i64 y.at_.n, .int .i64 y.at_.r, .int .i64 y.blk.n, .int .i64 y.blk.r, .string y.name, .string y.value] 32)).alloc (.cells #[.int .i64 z.at_.n, .int .i64 z.at_.r, .int .i64 z.blk.n, .int .i64 z.blk.r, .string z.name, .string z.value] 32)
              have by_ := (BoxIs.new (wr.alloc (.cells #[.int .i64 x.at_.n, .int .i64 x.at_.r, .int .i64 x.blk.n, .int .i64 x.blk.r, .string x.name, .string x.value] 32)) y).alloc (.cells #[.int .i64 z.at_.n, .int .i64 z.at_.r, .int .i64 z.blk.n, .int .i64 z.blk.r, .string z.name, .string z.value] 32)
              have bz_ := BoxIs.new ((wr.alloc (.cells #[.int .i64 x.at_.n, .int .i64 x.at_.r, .int .i64 x.blk.n, .int .i64 x.blk.r, .string x.name, .string x.value] 32)).alloc (.cells #[.int .i64 y.at_.n, .int .i64 y.at_.r, .int .i64 y.blk.n, .int .i64 y.blk.r, .string y.name, .string y.value] 32)) z
              have hB3 := ((hB2.alloc hB2.size (.cells #[.int .i64 x.at_.n, .int .i64 x.at_.r, .int .i64 x.blk.n, .int .i64 x.blk.r, .string x.name, .string x.value] 32)).alloc (by have := hB2.size; simp; omega) (.cells #[.int .i64 y.at_.n, .int .i64 y.at_.r, .int .i64 y.blk.n, .int .i64 y.blk.r, .string y.name, .string y.value] 32)).alloc (by have := hB2.size; simp; omega) (.cells #[.int .i64 z.at_.n, .int .i64 z.at_.r, .int .i64 z.blk.n, .int .i64 z.blk.r, .string z.name, .string z.value] 32)
              simp only [World.size_alloc] at by_ bz_
              have l1 := q1.lt
              have l2 := q2.lt
              have l3 := q3.lt
              clear q1 q2 q3 hB2 x0 x1 x2 x3 x4 x5 y0 y1 y2 y3 y4 y5 u0 u1 u2 u3 u4' u5
              generalize ((wr.alloc (.cells #[.int .i64 x.at_.n, .int .i64 x.at_.r, .int .i64 x.blk.n, .int .i64 x.blk.r, .string x.name, .string x.value] 32)).alloc (.cells #[.int .i64 y.at_.n, .int .i64 y.at_.r, .int .i64 y.blk.n, .int .i64 y.blk.r, .string y.name, .string y.value] 32)).alloc (.cells #[.int .i64 z.at_.n, .int .i64 z.at_.r, .int .i64 z.blk.n, .int .i64 z.blk.r, .string z.name, .string z.value] 32) = w5 at *
              refine (set_any _ _ _ _ _ _ _ _ _ _ _ _ p1).mono ?_
              rintro e w6 ⟨rfl, o1, x6⟩
              have o2 := p2.ext x6 (by omega) (by omega) (by omega)
              have o3 := p3.ext x6 (by omega) (by omega) (by omega)
              obtain ⟨y0, y1, y2, y3, y4, y5⟩ := by_.ext x6 (by omega)
              have bz2 := bz_.ext x6 (by omega)
              have hB4 := Ext.new hB3 x6 (fun i hi _ => by omega) hB3.size
              clear p1 p2 p3 by_ bz_ x6 hB3
              go_wp2_with fail
              refine (set_any _ _ _ _ _ _ _ _ _ _ _ _ o2).mono ?_
              rintro e w7 ⟨rfl, n2, x7⟩
              have n1 := o1.ext x7 (by omega) (by omega) (by omega)
              have n3 := o3.ext x7 (by omega) (by omega) (by omega)
              obtain ⟨u0, u1, u2, u3, u4', u5⟩ := bz2.ext x7 (by omega)
              have hB5 := Ext.new hB4 x7 (fun i hi _ => by omega) hB4.size
              clear o1 o2 o3 x7 bz2 hB4 y0 y1 y2 y3 y4 y5
              go_wp2_with fail
              refine (set_any _ _ _ _ _ _ _ _ _ _ _ _ n3).mono ?_
              rintro e w8 ⟨rfl, m3, x8⟩
              have m1 := n1.ext x8 (by omega) (by omega) (by omega)
              have m2 := n2.ext x8 (by omega) (by omega) (by omega)
              have hB6 := Ext.new hB5 x8 (fun i hi _ => by omega) hB5.size
              clear n1 n2 n3 x8 hB5 u0 u1 u2 u3 u4' u5
              go_wp2_with fail
              go_roundg (k - (j + 1))
              case measure => rw [HG2.out]; omega
              case rel =>
                refine ⟨j + 1, rfl, hlt2, by go_num, ?_, ?_, ?_, hB6⟩
                · rw [take_snoc' HX.out, setAll_snoc]; exact m1
                · rw [revL_snoc HY.out, setAll_snoc]; exact m2
                · rw [rotL_snoc (by rw [← HQ.out]; exact HZ.out), setAll_snoc]; exact m3
            · obtain rfl : j = k := by omega
              have s1 : ∀ p, aget (setAll (l.take j)).1 p = aget (setAll (revL l j j)).1 p := fun p => setAll_same HFun.out (fun x => mem_revL) p
              have s2 : ∀ p, aget (setAll (l.take j)).1 p = aget (setAll (rotL l j Fn j)).1 p := fun p => setAll_same HFun.out (fun x => mem_rotL) p
              have z1 : (setAll (l.take j)).1.length ≤ 1099511627776 := by have := setAll_length (l.take j); rw [List.length_take] at this; omega
              have z2 : (setAll (revL l j j)).1.length ≤ 1099511627776 := by
                have := setAll_length (revL l j j)
                have h2 : (revL l j j).length ≤ j := by unfold revL; exact Nat.le_trans (List.length_filterMap_le _ _) (by simp)
                omega
              have z3 : (setAll (rotL l j Fn j)).1.length ≤ 1099511627776 := by
                have := setAll_length (rotL l j Fn j)
                have h2 : (rotL l j Fn j).length ≤ j := by unfold rotL; exact Nat.le_trans (List.length_filterMap_le _ _) (by simp)
                omega
              generalize (setAll (l.take j)).1 = va at *
              generalize (setAll (l.take j)).2 = ta at *
              generalize (setAll (revL l j j)).1 = vb at *
              generalize (setAll (revL l j j)).2 = tb at *
              generalize (setAll (rotL l j Fn j)).1 = vc at *
              generalize (setAll (rotL l j Fn j)).2 = tc at *
              have S1 := Lib.hid s1
              have S2 := Lib.hid s2
              clear s1 s2 hM1 hM2 hM3 HM HFun HG2 hj
              go_wp2_with fail
              obtain ⟨wo, rfl⟩ : ∃ wo : World, wo = wr := ⟨_, rfl⟩
              go_loopg [15] j (fun g i wx => ∃ m : Nat, g = j - m ∧ m ≤ j ∧ i = .int .i64 m ∧ RegIs wx (za + 2) za (za + 1) va ta ∧ RegIs wx (zb + 2) zb (zb + 1) vb tb ∧ RegIs wx (zc + 2) zc (zc + 1) vc tc ∧ Below w.heap.size w wx)
              case atStart => exact ⟨0, rfl, Nat.zero_le _, rfl, q1, q2, q3, hB2⟩
              case round =>
                clear q1 q2 q3 hB2
                obtain ⟨m, hg3, hm, rfl, q1, q2, q3, hB2⟩ := hrel
                have HG3 := Lib.hid hg3
                clear hg3
                by_cases hlt3 : m < j
                · obtain ⟨x, hx⟩ : ∃ x, l[m]? = some x := ⟨_, List.getElem?_eq_getElem (by omega)⟩
                  obtain ⟨b, o, cp, hve, hcs⟩ := hv.wcells (by intro e; rw [e] at hx; simp at hx)
                  cases hve
                  obtain ⟨_, _, x2, x3, _⟩ := (hcs m x hx).below hB2
                  have hml : m < l.length := by omega
                  clear hx hcs
                  have hA : ∀ W, RegIs W (za + 2) za (za + 1) va ta → _ := fun W hW => all_list _ _ _ _ _ x.blk.n x.blk.r W hW z1
                  have hBc : ∀ W, RegIs W (zb + 2) zb (zb + 1) vb tb → _ := fun W hW => all_list _ _ _ _ _ x.blk.n x.blk.r W hW z2
                  have hC : ∀ W, RegIs W (zc + 2) zc (zc + 1) vc tc → _ := fun W hW => all_list _ _ _ _ _ x.blk.n x.blk.r W hW z3
                  have HA := Lib.hid hA
                  have HBc := Lib.hid hBc
                  have HC := Lib.hid hC
                  clear hA hBc hC
                  go_wp2_with fail
                  go_region_held3 (fun W => W.cell? ⟨b, o + m * 6 + 2, none⟩ = some (.int .i64 x.blk.n) ∧ W.cell? ⟨b, o + m * 6 + 3, none⟩ = some (.int .i64 x.blk.r)) (first | exact ⟨x2, x3⟩ | exact ⟨keepB b5 x2, keepB b5 x3⟩ | exact ⟨keepB b6 (keepB b5 x2), keepB b6 (keepB b5 x3)⟩ | exact ⟨keepB b7 (keepB b6 (keepB b5 x2)), keepB b7 (keepB b6 (keepB b5 x3))⟩) (first | (go_at_call 14; ((with_reducible refine (HA.out _ q1.drew).mono ?_); rintro e w5 ⟨v5, l5, rfl, s5, a5, n5, b5⟩; simp only [heap_drew, below_drew] at b5)) | (go_at_call 14; ((with_reducible refine (HBc.out _ (q2.below b5)).mono ?_); rintro e w6 ⟨v6, l6, rfl, s6, a6, n6, b6⟩)) | (go_at_call 13; ((with_reducible refine (same_any _ _ _ _ _ (s5.below b6) s6 n5).mono ?_); rintro e w7 ⟨rfl, b7⟩)))
                  have e56 : decide (l5 = l6) = true := by rw [decide_eq_true_eq]; exact a5.unique a6 (fun n => S1.out _)
                  rw [e56]
                  have hB7 : Below w.heap.size w w7 := ((hB2.trans (b5.mono hB2.size)).trans (b6.mono (Nat.le_trans hB2.size b5.size))).trans (b7.mono (Nat.le_trans hB2.size (Nat.le_trans b5.size b6.size)))
                  replace q1 := ((q1.below b5).below b6).below b7
                  replace q2 := ((q2.below b5).below b6).below b7
                  replace q3 := ((q3.below b5).below b6).below b7
                  replace x2 := keepB b7 (keepB b6 (keepB b5 x2))
                  replace x3 := keepB b7 (keepB b6 (keepB b5 x3))
                  clear e56 s5 s6 a5 a6 n5 n6 b5 b6 b7 hB2
                  go_wp2_with fail
                  go_region_held3 (fun W => W.cell? ⟨b, o + m * 6 + 2, none⟩ = some (.int .i64 x.blk.n) ∧ W.cell? ⟨b, o + m * 6 + 3, none⟩ = some (.int .i64 x.blk.r)) (first | exact ⟨x2, x3⟩ | exact ⟨keepB b5 x2, keepB b5 x3⟩ | exact ⟨keepB b6 (keepB b5 x2), keepB b6 (keepB b5 x3)⟩ | exact ⟨keepB b8 (keepB b6 (keepB b5 x2)), keepB b8 (keepB b6 (keepB b5 x3))⟩) (first | (go_at_call 14; ((with_reducible refine (HA.out _ q1.drew).mono ?_); rintro e w5 ⟨v5, l5, rfl, s5, a5, n5, b5⟩; simp only [heap_drew, below_drew] at b5)) | (go_at_call 14; ((with_reducible refine (HC.out _ (q3.below b5)).mono ?_); rintro e w6 ⟨v6, l6, rfl, s6, a6, n6, b6⟩)) | (go_at_call 13; ((with_reducible refine (same_any _ _ _ _ _ (s5.below b6) s6 n5).mono ?_); rintro e w8 ⟨rfl, b8⟩)))
                  have e56 : decide (l5 = l6) = true := by rw [decide_eq_true_eq]; exact a5.unique a6 (fun n => S2.out _)
                  rw [e56]
                  have hB8 : Below w.heap.size w w8 := ((hB7.trans (b5.mono hB7.size)).trans (b6.mono (Nat.le_trans hB7.size b5.size))).trans (b8.mono (Nat.le_trans hB7.size (Nat.le_trans b5.size b6.size)))
                  replace q1 := ((q1.below b5).below b6).below b8
                  replace q2 := ((q2.below b5).below b6).below b8
                  replace q3 := ((q3.below b5).below b6).below b8
                  clear e56 s5 s6 a5 a6 n5 n6 b5 b6 b8 hB7 x2 x3
                  go_wp2_with fail
                  go_roundg (j - (m + 1))
                  case measure => rw [HG3.out]; omega
                  case rel => exact ⟨m + 1, rfl, hlt3, by go_num, q1, q2, q3, hB8⟩
                · go_wp2_with fail
                  go_ret
                  exact ⟨rfl, hB2⟩
        · subst hF
          go_wp2_with fail
          refine (new_reg _).mono ?_
          rintro e w1 ⟨rfl, r1, b1, z1⟩
          have y1 := hB.trans (b1.mono hB.size)
          have t0 := hB.size
          have Z1 := Lib.hid z1
          clear z1 b1
          go_wp2_with fail
          refine (new_reg _).mono ?_
          rintro e w2 ⟨rfl, r2, b2, z2⟩
          replace r1 := r1.below b2
          have y2 := y1.trans (b2.mono y1.size)
          have Z2 := Lib.hid z2
          clear z2 b2
          go_wp2_with fail
          refine (new_reg _).mono ?_
          rintro e w3 ⟨rfl, r3, b3, z3⟩
          replace r1 := r1.below b3
          replace r2 := r2.below b3
          have y3 := y2.trans (b3.mono y2.size)
          clear b3 z3
          go_wp2_with fail
          refine (alive_any _).mono ?_
          rintro e w4 ⟨rfl, b4⟩
          replace r1 := r1.below b4
          replace r2 := r2.below b4
          replace r3 := r3.below b4
          have y4 := y3.trans (b4.mono y3.size)
          clear b4
          have t1 : wr.heap.size + 3 ≤ w1.heap.size := by rw [Z1.out]; exact Nat.le_refl _
          have t2 : w1.heap.size + 3 ≤ w2.heap.size := by rw [Z2.out]; exact Nat.le_refl _
          clear y1 y2 y3 hB Z1 Z2
          generalize wr.heap.size = za at *
          generalize w1.heap.size = zb at *
          generalize w2.heap.size = zc at *
          clear HG
          go_wp2_with fail
          obtain ⟨M, hM1, hM2, hM3, HM⟩ : ∃ M : Nat, (Fn : Int) % (k : Int) = (M : Int) ∧ (Fn : Int).tmod (k : Int) = (M : Int) ∧ M < k ∧ Hid (M = Fn % k) :=
            ⟨Fn % k, rfl, by rw [Int.tmod_eq_emod_of_nonneg (by omega)]; rfl, Nat.mod_lt _ (by omega), rfl⟩
          go_loopg [11] k (fun g i wx => LastRel w l k Fn za zb zc g i wx)
          case atStart =>
            refine ⟨0, rfl, Nat.zero_le _, rfl, ?_, ?_, ?_, y4⟩
            · simpa [setAll_nil] using r1
            · simpa [setAll_nil, revL] using r2
            · simpa [setAll_nil, rotL] using r3
          case round =>
            obtain ⟨j, hg2, hj, rfl, q1, q2, q3, hB2⟩ := hrel
            have HG2 := Lib.hid hg2
            clear hg2 r1 r2 r3 y4
            by_cases hlt2 : j < k
            · obtain ⟨Q, hQ1, hQ2, hQ3, HQ⟩ : ∃ Q : Nat, ((M : Int) + (j : Int)) % (k : Int) = (Q : Int) ∧ ((M : Int) + (j : Int)).tmod (k : Int) = (Q : Int) ∧ Q < k ∧ Hid (Q = (Fn % k + j) % k) :=
                ⟨(M + j) % k, rfl, by rw [Int.tmod_eq_emod_of_nonneg (by omega)]; rfl, Nat.mod_lt _ (by omega), by show _ = _; rw [HM.out]⟩
              obtain ⟨x, hx⟩ : ∃ x, l[j]? = some x := ⟨_, List.getElem?_eq_getElem (by omega)⟩
              obtain ⟨y, hy⟩ : ∃ y, l[k - 1 - j]? = some y := ⟨_, List.getElem?_eq_getElem (by omega)⟩
              obtain ⟨z, hz⟩ : ∃ z, l[Q]? = some z := ⟨_, List.getElem?_eq_getElem (by omega)⟩
              obtain ⟨b, o, cp, hve, hcs⟩ := hv.wcells (by intro e; rw [e] at hx; simp at hx)
              cases hve
              obtain ⟨x0, x1, x2, x3, x4, x5⟩ := (hcs j x hx).below hB2
              obtain ⟨y0, y1, y2, y3, y4, y5⟩ := (hcs (k - 1 - j) y hy).below hB2
              obtain ⟨u0, u1, u2, u3, u4', u5⟩ := (hcs Q z hz).below hB2
              have hjl : j < l.length := by omega
              have hkl : k - 1 - j < l.length := by omega
              have hql : Q < l.length := by omega
              have HX := Lib.hid hx
              have HY := Lib.hid hy
              have HZ := Lib.hid hz
              clear hx hy hz hcs
              have c1 := cell_lt x0
              go_wp2_with fail
              have p1 := ((q1.alloc (.cells #[.int .i64 x.at_.n, .int .i64 x.at_.r, .int .i64 x.blk.n, .int .i64 x.blk.r, .string x.name, .string x.value] 32)).alloc (.cells #[.int .i64 y.at_.n, .int .i64 y.at_.r, .int .i64 y.blk.n, .int .i64 y.blk.r, .string y.name, .string y.value] 32)).alloc (.cells #[.int .i64 z.at_.n, .int .i64 z.at_.r, .int .i64 z.blk.n, .int .i64 z.blk.r, .string z.name, .string z.value] 32)
              have p2 := ((q2.alloc (.cells #[.int .i64 x.at_.n, .int .i64 x.at_.r, .int .i64 x.blk.n, .int .i64 x.blk.r, .string x.name, .string x.value] 32)).alloc (.cells #[.int .i64 y.at_.n, .int .i64 y.at_.r, .int .i64 y.blk.n, .int .i64 y.blk.r, .string y.name, .string y.value] 32)).alloc (.cells #[.int .i64 z.at_.n, .int .i64 z.at_.r, .int .i64 z.blk.n, .int .i64 z.blk.r, .string z.name, .string z.value] 32)
              have p3 := ((q3.alloc (.cells #[.int .i64 x.at_.n, .int .i64 x.at_.r, .int .i64 x.blk.n, .int .i64 x.blk.r, .string x.name, .string x.value] 32)).alloc (.cells #[.int .i64 y.at_.n, .int .i64 y.at_.r, .int .i64 y.blk.n, .int .i64 y.blk.r, .string y.name, .string y.value] 32)).alloc (.cells #[.int .i64 z.at_.n, .int .i64 z.at_.r, .int .i64 z.blk.n, .int .i64 z.blk.r, .string z.name, .string z.value] 32)
              have by_ := (BoxIs.new (wr.alloc (.cells #[.int .i64 x.at_.n, .int .i64 x.at_.r, .int .i64 x.blk.n, .int .i64 x.blk.r, .string x.name, .string x.value] 32)) y).alloc (.cells #[.int .i64 z.at_.n, .int .i64 z.at_.r, .int .i64 z.blk.n, .int .i64 z.blk.r, .string z.name, .string z.value] 32)
              have bz_ := BoxIs.new ((wr.alloc (.cells #[.int .i64 x.at_.n, .int .i64 x.at_.r, .int .i64 x.blk.n, .int .i64 x.blk.r, .string x.name, .string x.value] 32)).alloc (.cells #[.int .i64 y.at_.n, .int .i64 y.at_.r, .int .i64 y.blk.n, .int .i64 y.blk.r, .string y.name, .string y.value] 32)) z
              have hB3 := ((hB2.alloc hB2.size (.cells #[.int .i64 x.at_.n, .int .i64 x.at_.r, .int .i64 x.blk.n, .int .i64 x.blk.r, .string x.name, .string x.value] 32)).alloc (by have := hB2.size; simp; omega) (.cells #[.int .i64 y.at_.n, .int .i64 y.at_.r, .int .i64 y.blk.n, .int .i64 y.blk.r, .string y.name, .string y.value] 32)).alloc (by have := hB2.size; simp; omega) (.cells #[.int .i64 z.at_.n, .int .i64 z.at_.r, .int .i64 z.blk.n, .int .i64 z.blk.r, .string z.name, .string z.value] 32)
              simp only [World.size_alloc] at by_ bz_
              have l1 := q1.lt
              have l2 := q2.lt
              have l3 := q3.lt
              clear q1 q2 q3 hB2 x0 x1 x2 x3 x4 x5 y0 y1 y2 y3 y4 y5 u0 u1 u2 u3 u4' u5
              generalize ((wr.alloc (.cells #[.int .i64 x.at_.n, .int .i64 x.at_.r, .int .i64 x.blk.n, .int .i64 x.blk.r, .string x.name, .string x.value] 32)).alloc (.cells #[.int .i64 y.at_.n, .int .i64 y.at_.r, .int .i64 y.blk.n, .int .i64 y.blk.r, .string y.name, .string y.value] 32)).alloc (.cells #[.int .i64 z.at_.n, .int .i64 z.at_.r, .int .i64 z.blk.n, .int .i64 z.blk.r, .string z.name, .string z.value] 32) = w5 at *
              refine (set_any _ _ _ _ _ _ _ _ _ _ _ _ p1).mono ?_
              rintro e w6 ⟨rfl, o1, x6⟩
              have o2 := p2.ext x6 (by omega) (by omega) (by omega)
              have o3 := p3.ext x6 (by omega) (by omega) (by omega)
              obtain ⟨y0, y1, y2, y3, y4, y5⟩ := by_.ext x6 (by omega)
              have bz2 := bz_.ext x6 (by omega)
              have hB4 := Ext.new hB3 x6 (fun i hi _ => by omega) hB3.size
              clear p1 p2 p3 by_ bz_ x6 hB3
              go_wp2_with fail
              refine (set_any _ _ _ _ _ _ _ _ _ _ _ _ o2).mono ?_
              rintro e w7 ⟨rfl, n2, x7⟩
              have n1 := o1.ext x7 (by omega) (by omega) (by omega)
              have n3 := o3.ext x7 (by omega) (by omega) (by omega)
              obtain ⟨u0, u1, u2, u3, u4', u5⟩ := bz2.ext x7 (by omega)
              have hB5 := Ext.new hB4 x7 (fun i hi _ => by omega) hB4.size
              clear o1 o2 o3 x7 bz2 hB4 y0 y1 y2 y3 y4 y5
              go_wp2_with fail
              refine (set_any _ _ _ _ _ _ _ _ _ _ _ _ n3).mono ?_
              rintro e w8 ⟨rfl, m3, x8⟩
              have m1 := n1.ext x8 (by omega) (by omega) (by omega)
              have m2 := n2.ext x8 (by omega) (by omega) (by omega)
              have hB6 := Ext.new hB5 x8 (fun i hi _ => by omega) hB5.size
              clear n1 n2 n3 x8 hB5 u0 u1 u2 u3 u4' u5
              go_wp2_with fail
              go_roundg (k - (j + 1))
              case measure => rw [HG2.out]; omega
              case rel =>
                refine ⟨j + 1, rfl, hlt2, by go_num, ?_, ?_, ?_, hB6⟩
                · rw [take_snoc' HX.out, setAll_snoc]; exact m1
                · rw [revL_snoc HY.out, setAll_snoc]; exact m2
                · rw [rotL_snoc (by rw [← HQ.out]; exact HZ.out), setAll_snoc]; exact m3
            · obtain rfl : j = k := by omega
              have s1 : ∀ p, aget (setAll (l.take j)).1 p = aget (setAll (revL l j j)).1 p := fun p => setAll_same HFun.out (fun x => mem_revL) p
              have s2 : ∀ p, aget (setAll (l.take j)).1 p = aget (setAll (rotL l j Fn j)).1 p := fun p => setAll_same HFun.out (fun x => mem_rotL) p
              have z1 : (setAll (l.take j)).1.length ≤ 1099511627776 := by have := setAll_length (l.take j); rw [List.length_take] at this; omega
              have z2 : (setAll (revL l j j)).1.length ≤ 1099511627776 := by
                have := setAll_length (revL l j j)
                have h2 : (revL l j j).length ≤ j := by unfold revL; exact Nat.le_trans (List.length_filterMap_le _ _) (by simp)
                omega
              have z3 : (setAll (rotL l j Fn j)).1.length ≤ 1099511627776 := by
                have := setAll_length (rotL l j Fn j)
                have h2 : (rotL l j Fn j).length ≤ j := by unfold rotL; exact Nat.le_trans (List.length_filterMap_le _ _) (by simp)
                omega
              generalize (setAll (l.take j)).1 = va at *
              generalize (setAll (l.take j)).2 = ta at *
              generalize (setAll (revL l j j)).1 = vb at *
              generalize (setAll (revL l j j)).2 = tb at *
              generalize (setAll (rotL l j Fn j)).1 = vc at *
              generalize (setAll (rotL l j Fn j)).2 = tc at *
              have S1 := Lib.hid s1
              have S2 := Lib.hid s2
              clear s1 s2 hM1 hM2 hM3 HM HFun HG2 hj
              go_wp2_with fail
              obtain ⟨wo, rfl⟩ : ∃ wo : World, wo = wr := ⟨_, rfl⟩
              go_loopg [15] j (fun g i wx => ∃ m : Nat, g = j - m ∧ m ≤ j ∧ i = .int .i64 m ∧ RegIs wx (za + 2) za (za + 1) va ta ∧ RegIs wx (zb + 2) zb (zb + 1) vb tb ∧ RegIs wx (zc + 2) zc (zc + 1) vc tc ∧ Below w.heap.size w wx)
              case atStart => exact ⟨0, rfl, Nat.zero_le _, rfl, q1, q2, q3, hB2⟩
              case round =>
                clear q1 q2 q3 hB2
                obtain ⟨m, hg3, hm, rfl, q1, q2, q3, hB2⟩ := hrel
                have HG3 := Lib.hid hg3
                clear hg3
                by_cases hlt3 : m < j
                · obtain ⟨x, hx⟩ : ∃ x, l[m]? = some x := ⟨_, List.getElem?_eq_getElem (by omega)⟩
                  obtain ⟨b, o, cp, hve, hcs⟩ := hv.wcells (by intro e; rw [e] at hx; simp at hx)
                  cases hve
                  obtain ⟨_, _, x2, x3, _⟩ := (hcs m x hx).below hB2
                  have hml : m < l.length := by omega
                  clear hx hcs
                  have hA : ∀ W, RegIs W (za + 2) za (za + 1) va ta → _ := fun W hW => all_list _ _ _ _ _ x.blk.n x.blk.r W hW z1
                  have hBc : ∀ W, RegIs W (zb + 2) zb (zb + 1) vb tb → _ := fun W hW => all_list _ _ _ _ _ x.blk.n x.blk.r W hW z2
                  have hC : ∀ W, RegIs W (zc + 2) zc (zc + 1) vc tc → _ := fun W hW => all_list _ _ _ _ _ x.blk.n x.blk.r W hW z3
                  have HA := Lib.hid hA
                  have HBc := Lib.hid hBc
                  have HC := Lib.hid hC
                  clear hA hBc hC
                  go_wp2_with fail
                  go_region_held3 (fun W => W.cell? ⟨b, o + m * 6 + 2, none⟩ = some (.int .i64 x.blk.n) ∧ W.cell? ⟨b, o + m * 6 + 3, none⟩ = some (.int .i64 x.blk.r)) (first | exact ⟨x2, x3⟩ | exact ⟨keepB b5 x2, keepB b5 x3⟩ | exact ⟨keepB b6 (keepB b5 x2), keepB b6 (keepB b5 x3)⟩ | exact ⟨keepB b7 (keepB b6 (keepB b5 x2)), keepB b7 (keepB b6 (keepB b5 x3))⟩) (first | (go_at_call 14; ((with_reducible refine (HA.out _ q1.drew).mono ?_); rintro e w5 ⟨v5, l5, rfl, s5, a5, n5, b5⟩; simp only [heap_drew, below_drew] at b5)) | (go_at_call 14; ((with_reducible refine (HBc.out _ (q2.below b5)).mono ?_); rintro e w6 ⟨v6, l6, rfl, s6, a6, n6, b6⟩)) | (go_at_call 13; ((with_reducible refine (same_any _ _ _ _ _ (s5.below b6) s6 n5).mono ?_); rintro e w7 ⟨rfl, b7⟩)))
                  have e56 : decide (l5 = l6) = true := by rw [decide_eq_true_eq]; exact a5.unique a6 (fun n => S1.out _)
                  rw [e56]
                  have hB7 : Below w.heap.size w w7 := ((hB2.trans (b5.mono hB2.size)).trans (b6.mono (Nat.le_trans hB2.size b5.size))).trans (b7.mono (Nat.le_trans hB2.size (Nat.le_trans b5.size b6.size)))
                  replace q1 := ((q1.below b5).below b6).below b7
                  replace q2 := ((q2.below b5).below b6).below b7
                  replace q3 := ((q3.below b5).below b6).below b7
                  replace x2 := keepB b7 (keepB b6 (keepB b5 x2))
                  replace x3 := keepB b7 (keepB b6 (keepB b5 x3))
                  clear e56 s5 s6 a5 a6 n5 n6 b5 b6 b7 hB2
                  go_wp2_with fail
                  go_region_held3 (fun W => W.cell? ⟨b, o + m * 6 + 2, none⟩ = some (.int .i64 x.blk.n) ∧ W.cell? ⟨b, o + m * 6 + 3, none⟩ = some (.int .i64 x.blk.r)) (first | exact ⟨x2, x3⟩ | exact ⟨keepB b5 x2, keepB b5 x3⟩ | exact ⟨keepB b6 (keepB b5 x2), keepB b6 (keepB b5 x3)⟩ | exact ⟨keepB b8 (keepB b6 (keepB b5 x2)), keepB b8 (keepB b6 (keepB b5 x3))⟩) (first | (go_at_call 14; ((with_reducible refine (HA.out _ q1.drew).mono ?_); rintro e w5 ⟨v5, l5, rfl, s5, a5, n5, b5⟩; simp only [heap_drew, below_drew] at b5)) | (go_at_call 14; ((with_reducible refine (HC.out _ (q3.below b5)).mono ?_); rintro e w6 ⟨v6, l6, rfl, s6, a6, n6, b6⟩)) | (go_at_call 13; ((with_reducible refine (same_any _ _ _ _ _ (s5.below b6) s6 n5).mono ?_); rintro e w8 ⟨rfl, b8⟩)))
                  have e56 : decide (l5 = l6) = true := by rw [decide_eq_true_eq]; exact a5.unique a6 (fun n => S2.out _)
                  rw [e56]
                  have hB8 : Below w.heap.size w w8 := ((hB7.trans (b5.mono hB7.size)).trans (b6.mono (Nat.le_trans hB7.size b5.size))).trans (b8.mono (Nat.le_trans hB7.size (Nat.le_trans b5.size b6.size)))
                  replace q1 := ((q1.below b5).below b6).below b8
                  replace q2 := ((q2.below b5).below b6).below b8
                  replace q3 := ((q3.below b5).below b6).below b8
                  clear e56 s5 s6 a5 a6 n5 n6 b5 b6 b8 hB7 x2 x3
                  go_wp2_with fail
                  go_roundg (j - (m + 1))
                  case measure => rw [HG3.out]; omega
                  case rel => exact ⟨m + 1, rfl, hlt3, by go_num, q1, q2, q3, hB8⟩
                · go_wp2_with fail
                  go_ret
                  exact ⟨rfl, hB2⟩

set_option maxRecDepth 100000 in
theorem setLast_lifted (os : Os) (started : os.Started) (H : Type) (enc : TypeId × Value → H) :
    ReturnsInHanded {} Try.checked os 4 .any (Rows.setLastSpec.pre6 enc Try.prog Try.f4 Rows.setLastRow.domain false) (Rows.setLastSpec.post enc Try.prog Try.f4 false true false false) := by
  refine returnsInHanded_of_change (C := Try.checked) Try.own started (by kernel_rfl) Try.func4
    (ChangeSpec.witness6 (enc := enc) (C := Try.checked) false ⟨#[], #[.slice none 0 0, .int .i64 0], []⟩ 8 (by kernel_rfl) (by kernel_rfl) (by kernel_rfl) (by kernel_rfl)) ?_
  intro W base args ds gs before hval0 hW hcnd _
  have hval : ∀ (j : Nat) t v, Try.f4.params[j]? = some t → args[j]? = some v → Value.okWide Try.prog W .any base t v := hval0
  have hW' := hW
  obtain ⟨p, q, hA0, hV, rfl, hfz, hnd⟩ := hW
  have hA : DataW.TrodAll enc Try.prog W 0 (fun _ => true) true Try.f4.params.toList args.toList ds p := hA0
  rw [Try.params4] at hA hval
  obtain ⟨v0, vs0, d0, ds0, p0, q0, hargs, rfl, rfl, h0, r0⟩ := trodAll_cons hA
  obtain ⟨v1, vs1, d1, ds1, p1, q1, rfl, rfl, rfl, h1, r1⟩ := trodAll_cons r0
  obtain ⟨rfl, rfl, rfl⟩ := trodAll_nil r1
  obtain rfl : args = #[v0, v1] := by cases args; simp_all
  obtain ⟨rfl, rfl⟩ := trodVars_none hV
  have k0 := h0
  have k1 := h1
  have lt0 : ∀ x ∈ p0, x.block < W.heap.size := by obtain ⟨m, hm⟩ := k0; exact DataW.trod_lt m _ _ _ hm
  have lt1 : ∀ x ∈ p1, x.block < W.heap.size := by obtain ⟨m, hm⟩ := k1; exact DataW.trod_lt m _ _ _ hm
  obtain ⟨l, hl⟩ := open_writes (hval 0 22 v0 rfl rfl) h0
  obtain ⟨n, rfl, rfl, rfl, wn⟩ := open_int Try.underlying3 (hval 1 3 v1 rfl rfl) h1
  clear hA0 hval0
  have bd := bounds_i64 wn
  refine (setLast_walk v0 l n W hl bd.1 bd.2).mono fun e W' ⟨he, bel⟩ => ?_
  subst he
  exact ⟨_, rfl, _, _, _, [], _, [], hW', trodAll_mk1 (shut_bool Try.underlying4 _), (trodAll_cons_mk (Below.trod Try.laidOut (by kernel_rfl) (of_decide_eq_true (by kernel_rfl)) k0 bel lt0) (trodAll_cons_mk (Below.trod Try.laidOut (by kernel_rfl) (of_decide_eq_true (by kernel_rfl)) k1 bel lt1) trodAll_mk0)), rfl, bel.frame _, fun h => by cases h⟩

theorem setLast_holds : Rows.SetLastSaid :=
  OpenClaim.holds_of_wide 4 Try.f4 rfl rfl rfl rfl rfl rfl rfl ⟨rfl, rfl, rfl, rfl, rfl⟩ rfl rfl rfl rfl rfl (by kernel_rfl) Try.func4 (by kernel_rfl)
    (of_decide_eq_true (by kernel_rfl)) (by unfold Func.isWrapper; first | (rw [if_pos (by decide +kernel)]; kernel_rfl) | (rw [if_neg (by decide +kernel)]; exact ⟨rfl, rfl⟩))
    (fun os started H enc _ => setLast_lifted os started H enc)

#print axioms setLast_holds
end Go.Proofs.Ytkkffnejgbhbmaa
