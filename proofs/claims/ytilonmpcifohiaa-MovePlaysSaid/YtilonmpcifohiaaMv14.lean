/- Layer 14: a tree's moves in memory; find. -/
import Derived.Test.YtilonmpcifohiaaRow
import Derived.Deep.LoopGhost
import Derived.Test.YtilonmpcifohiaaStamp
import Derived.Test.YtilonmpcifohiaaKeys
import Derived.Test.YtilonmpcifohiaaOrd
import Derived.BigQuiet
import Derived.Deep.QuietTactic
import Derived.Deep.RegionHeld3
namespace Go.Proofs.Ytilonmpcifohiaa
open Go.RowKit
set_option linter.unusedSimpArgs false
set_option linter.unusedVariables false

/-- Where a block hangs. -/
structure Ch where
  block : St
  under : St
  key : ByteArray
  deriving DecidableEq
def Ch.cells (c : Ch) : List Value := [.int .i64 c.block.n, .int .i64 c.block.r, .int .i64 c.under.n, .int .i64 c.under.r, .string c.key]
def Ch.val (c : Ch) : Value := .agg #[.int .i64 c.block.n, .int .i64 c.block.r, .int .i64 c.under.n, .int .i64 c.under.r, .string c.key]

def ptr (b : Option Nat) : Value := .pointer (b.map fun x => ⟨x, 0, none⟩)
/-- A move as it lies in the log. -/
structure Mv where
  at_ : St
  child : Ch
  took : Bool
  was : Option Nat
def Mv.cells (m : Mv) : List Value := [.int .i64 m.at_.n, .int .i64 m.at_.r, .int .i64 m.child.block.n, .int .i64 m.child.block.r, .int .i64 m.child.under.n, .int .i64 m.child.under.r, .string m.child.key, .bool m.took, ptr m.was]

theorem find1_any (a b : Int) (c : Ch) (tk : Bool) (ws : Value) (x y : Int) (w : World) :
    Calls Try.prog 46 #[.agg #[.int .i64 a, .int .i64 b, .int .i64 c.block.n, .int .i64 c.block.r, .int .i64 c.under.n, .int .i64 c.under.r, .string c.key, .bool tk, ws], .agg #[.int .i64 x, .int .i64 y]] w
      fun e w' => e = .returned (.int .i64 (cmpS ⟨a, b⟩ ⟨x, y⟩)) ∧ Below w.heap.size w w' := by
  go_enter Try.func46, Try.ntmps46
  go_wp2_with fail
  refine (compare_any _ _ _ _ _).mono ?_
  rintro e w1 ⟨rfl, b1⟩
  go_wp2_with fail
  go_ret
  exact ⟨rfl, (((Below.refl _ _).alloc (Nat.le_refl _) _).alloc (by simp) _).trans (b1.mono (by simp <;> omega))⟩

/-- The log stands by rising stamps. -/
def Rising (l : List Mv) : Prop := l.Pairwise (fun a b => stLt a.at_ b.at_)
theorem Rising.at {l : List Mv} (h : Rising l) {i j : Nat} {a b : Mv} (hij : i < j) (ha : l[i]? = some a) (hb : l[j]? = some b) : stLt a.at_ b.at_ := by
  obtain ⟨h1, rfl⟩ := List.getElem?_eq_some_iff.1 ha
  obtain ⟨h2, rfl⟩ := List.getElem?_eq_some_iff.1 hb
  exact List.pairwise_iff_getElem.1 h i j h1 h2 hij

set_option maxHeartbeats 1000000 in
theorem search_any (v : Value) (l : List Mv) (x y : Int) (w : World) (hv : SliceIs Mv.cells 9 w v l) (hs : Rising l) (hsz : l.length ≤ 1000) :
    Calls Try.prog 45 #[v, .agg #[.int .i64 x, .int .i64 y], .func (.func 46) #[] #[]] w
      fun e w' => ∃ (i : Nat) (is : Bool), e = .returned (.tuple #[.int .i64 i, .bool is]) ∧ i ≤ l.length ∧ (∀ (k : Nat) m, l[k]? = some m → (k < i ↔ stLt m.at_ ⟨x, y⟩)) ∧ (is = true ↔ ∃ m, l[i]? = some m ∧ m.at_ = ⟨x, y⟩) ∧ Below w.heap.size w w' := by
  obtain ⟨va, vc, rfl, hcap, hmax, hcs⟩ := hv
  unfold maxLen at hmax
  have HC := Lib.hid hcs
  have HSo := Lib.hid hs
  clear hcs hs
  go_enter Try.func45, Try.ntmps45
  go_wp2_with fail
  go_loopg [9, 10] l.length (fun g lo hi wx => ∃ i j : Nat, g = j - i ∧ i ≤ j ∧ j ≤ l.length ∧ lo = .int .i64 i ∧ hi = .int .i64 j ∧ Hid (∀ (k : Nat) m, l[k]? = some m → k < i → stLt m.at_ ⟨x, y⟩) ∧ Hid (∀ (k : Nat) m, l[k]? = some m → j ≤ k → ¬ stLt m.at_ ⟨x, y⟩) ∧ wx.cell? ⟨w.heap.size, 0, none⟩ = some (.int .i64 x) ∧ wx.cell? ⟨w.heap.size, 1, none⟩ = some (.int .i64 y) ∧ Below w.heap.size w wx)
  case atStart =>
    refine ⟨0, l.length, by omega, Nat.zero_le _, Nat.le_refl _, rfl, rfl, fun k m _ h => absurd h (by omega), fun k m hk h => ?_, by go_simp, by go_simp, (Below.refl _ _).alloc (Nat.le_refl _) _⟩
    have := (List.getElem?_eq_some_iff.1 hk).1
    omega
  case round =>
    obtain ⟨i, j, hg, hij, hjl, rfl, rfl, hlo, hhi', q0, q1, hB⟩ := hrel
    have HG := Lib.hid hg
    clear hg
    by_cases hlt : i < j
    · obtain ⟨h, hh⟩ : ∃ h : Nat, h = (i + j) / 2 := ⟨_, rfl⟩
      have hhi : i ≤ h ∧ h < j := by omega
      have hhz : ((i : Int) + (j : Int)) / 2 = (h : Int) := by omega
      have hhl : h < l.length := by omega
      obtain ⟨m, hm⟩ : ∃ m, l[h]? = some m := ⟨_, List.getElem?_eq_getElem hhl⟩
      obtain ⟨b, o, rfl, hcc⟩ := HC.out (by intro e; rw [e] at hhl; simp at hhl)
      have c0 : wr.cell? ⟨b, o + h * 9, none⟩ = some (.int .i64 m.at_.n) := keepB hB (hcc h m hm 0 _ rfl)
      have c1 : wr.cell? ⟨b, o + h * 9 + 1, none⟩ = some (.int .i64 m.at_.r) := keepB hB (hcc h m hm 1 _ rfl)
      have c2 : wr.cell? ⟨b, o + h * 9 + 2, none⟩ = some (.int .i64 m.child.block.n) := keepB hB (hcc h m hm 2 _ rfl)
      have c3 : wr.cell? ⟨b, o + h * 9 + 3, none⟩ = some (.int .i64 m.child.block.r) := keepB hB (hcc h m hm 3 _ rfl)
      have c4 : wr.cell? ⟨b, o + h * 9 + 4, none⟩ = some (.int .i64 m.child.under.n) := keepB hB (hcc h m hm 4 _ rfl)
      have c5 : wr.cell? ⟨b, o + h * 9 + 5, none⟩ = some (.int .i64 m.child.under.r) := keepB hB (hcc h m hm 5 _ rfl)
      have c6 : wr.cell? ⟨b, o + h * 9 + 6, none⟩ = some (.string m.child.key) := keepB hB (hcc h m hm 6 _ rfl)
      have c7 : wr.cell? ⟨b, o + h * 9 + 7, none⟩ = some (.bool m.took) := keepB hB (hcc h m hm 7 _ rfl)
      have c8 : wr.cell? ⟨b, o + h * 9 + 8, none⟩ = some (ptr m.was) := keepB hB (hcc h m hm 8 _ rfl)
      have HM := Lib.hid hm
      clear hcc hm hh
      go_wp2_with fail
      clear hhz
      go_region_held3 (fun W => W.cell? ⟨b, o + h * 9, none⟩ = some (.int .i64 m.at_.n) ∧ W.cell? ⟨b, o + h * 9 + 1, none⟩ = some (.int .i64 m.at_.r) ∧ W.cell? ⟨b, o + h * 9 + 2, none⟩ = some (.int .i64 m.child.block.n) ∧ W.cell? ⟨b, o + h * 9 + 3, none⟩ = some (.int .i64 m.child.block.r) ∧ W.cell? ⟨b, o + h * 9 + 4, none⟩ = some (.int .i64 m.child.under.n) ∧ W.cell? ⟨b, o + h * 9 + 5, none⟩ = some (.int .i64 m.child.under.r) ∧ W.cell? ⟨b, o + h * 9 + 6, none⟩ = some (.string m.child.key) ∧ W.cell? ⟨b, o + h * 9 + 7, none⟩ = some (.bool m.took) ∧ W.cell? ⟨b, o + h * 9 + 8, none⟩ = some (ptr m.was) ∧ W.cell? ⟨w.heap.size, 0, none⟩ = some (.int .i64 x) ∧ W.cell? ⟨w.heap.size, 1, none⟩ = some (.int .i64 y)) (first | exact ⟨c0, c1, c2, c3, c4, c5, c6, c7, c8, q0, q1⟩ | exact ⟨keepB b5 c0, keepB b5 c1, keepB b5 c2, keepB b5 c3, keepB b5 c4, keepB b5 c5, keepB b5 c6, keepB b5 c7, keepB b5 c8, keepB b5 q0, keepB b5 q1⟩) ((go_at_call 46; ((with_reducible refine (find1_any _ _ _ _ _ _ _ _).mono ?_); rintro e w5 ⟨rfl, b5⟩; simp only [heap_drew, below_drew] at b5)))
      have r0 := keepB b5 q0
      have r1 := keepB b5 q1
      have hB5 := hB.trans (b5.mono hB.size)
      clear c0 c1 c2 c3 c4 c5 c6 c7 c8 q0 q1 b5 hB
      by_cases hc : cmpS ⟨m.at_.n, m.at_.r⟩ ⟨x, y⟩ < 0
      · have hcs := (cmpS_lt m.at_ ⟨x, y⟩).1 hc
        have HCS := Lib.hid hcs
        clear hcs
        go_wp2_with fail
        go_roundg (j - (h + 1))
        case measure => rw [HG.out]; omega
        case rel =>
          refine ⟨h + 1, j, rfl, by omega, hjl, by go_num, rfl, fun k m' hk hkh => ?_, hhi', r0, r1, hB5⟩
          have hp := HSo.out
          by_cases hkk : k = h
          · rw [hkk, HM.out] at hk; cases hk; exact HCS.out
          · exact stLt_trans (hp.at (by omega) hk HM.out) HCS.out
      · have hcs : ¬ stLt m.at_ ⟨x, y⟩ := fun e => hc ((cmpS_lt m.at_ ⟨x, y⟩).2 e)
        have HCS := Lib.hid hcs
        have hc' : 0 ≤ cmpS ⟨m.at_.n, m.at_.r⟩ ⟨x, y⟩ := by omega
        clear hcs hc
        go_wp2_with fail
        go_roundg (h - i)
        case measure => rw [HG.out]; omega
        case rel =>
          refine ⟨i, h, rfl, by omega, by omega, rfl, rfl, hlo, fun k m' hk hkh hl => ?_, r0, r1, hB5⟩
          have hp := HSo.out
          by_cases hkk : k = h
          · rw [hkk, HM.out] at hk; cases hk; exact HCS.out hl
          · exact HCS.out (stLt_trans (hp.at (by omega) HM.out hk) hl)
    · obtain rfl : i = j := by omega
      have hiff : ∀ (k : Nat) m, l[k]? = some m → (k < i ↔ stLt m.at_ ⟨x, y⟩) := fun k m hk => ⟨hlo.out k m hk, fun e => Classical.byContradiction fun h => hhi'.out k m hk (by omega) e⟩
      have HI := Lib.hid hiff
      clear hiff hlo hhi'
      by_cases hil : i < l.length
      · obtain ⟨m, hm⟩ : ∃ m, l[i]? = some m := ⟨_, List.getElem?_eq_getElem hil⟩
        obtain ⟨b, o, rfl, hcc⟩ := HC.out (by intro e; rw [e] at hil; simp at hil)
        have c0 : wr.cell? ⟨b, o + i * 9, none⟩ = some (.int .i64 m.at_.n) := keepB hB (hcc i m hm 0 _ rfl)
        have c1 : wr.cell? ⟨b, o + i * 9 + 1, none⟩ = some (.int .i64 m.at_.r) := keepB hB (hcc i m hm 1 _ rfl)
        have c2 : wr.cell? ⟨b, o + i * 9 + 2, none⟩ = some (.int .i64 m.child.block.n) := keepB hB (hcc i m hm 2 _ rfl)
        have c3 : wr.cell? ⟨b, o + i * 9 + 3, none⟩ = some (.int .i64 m.child.block.r) := keepB hB (hcc i m hm 3 _ rfl)
        have c4 : wr.cell? ⟨b, o + i * 9 + 4, none⟩ = some (.int .i64 m.child.under.n) := keepB hB (hcc i m hm 4 _ rfl)
        have c5 : wr.cell? ⟨b, o + i * 9 + 5, none⟩ = some (.int .i64 m.child.under.r) := keepB hB (hcc i m hm 5 _ rfl)
        have c6 : wr.cell? ⟨b, o + i * 9 + 6, none⟩ = some (.string m.child.key) := keepB hB (hcc i m hm 6 _ rfl)
        have c7 : wr.cell? ⟨b, o + i * 9 + 7, none⟩ = some (.bool m.took) := keepB hB (hcc i m hm 7 _ rfl)
        have c8 : wr.cell? ⟨b, o + i * 9 + 8, none⟩ = some (ptr m.was) := keepB hB (hcc i m hm 8 _ rfl)
        have HM := Lib.hid hm
        clear hcc hm
        go_wp2_with fail
        go_region_held3 (fun W => W.cell? ⟨b, o + i * 9, none⟩ = some (.int .i64 m.at_.n) ∧ W.cell? ⟨b, o + i * 9 + 1, none⟩ = some (.int .i64 m.at_.r) ∧ W.cell? ⟨b, o + i * 9 + 2, none⟩ = some (.int .i64 m.child.block.n) ∧ W.cell? ⟨b, o + i * 9 + 3, none⟩ = some (.int .i64 m.child.block.r) ∧ W.cell? ⟨b, o + i * 9 + 4, none⟩ = some (.int .i64 m.child.under.n) ∧ W.cell? ⟨b, o + i * 9 + 5, none⟩ = some (.int .i64 m.child.under.r) ∧ W.cell? ⟨b, o + i * 9 + 6, none⟩ = some (.string m.child.key) ∧ W.cell? ⟨b, o + i * 9 + 7, none⟩ = some (.bool m.took) ∧ W.cell? ⟨b, o + i * 9 + 8, none⟩ = some (ptr m.was) ∧ W.cell? ⟨w.heap.size, 0, none⟩ = some (.int .i64 x) ∧ W.cell? ⟨w.heap.size, 1, none⟩ = some (.int .i64 y)) (first | exact ⟨c0, c1, c2, c3, c4, c5, c6, c7, c8, q0, q1⟩ | exact ⟨keepB b5 c0, keepB b5 c1, keepB b5 c2, keepB b5 c3, keepB b5 c4, keepB b5 c5, keepB b5 c6, keepB b5 c7, keepB b5 c8, keepB b5 q0, keepB b5 q1⟩) ((go_at_call 46; ((with_reducible refine (find1_any _ _ _ _ _ _ _ _).mono ?_); rintro e w5 ⟨rfl, b5⟩; simp only [heap_drew, below_drew] at b5)))
        have hB5 := hB.trans (b5.mono hB.size)
        have hb : ((cmpS ⟨m.at_.n, m.at_.r⟩ ⟨x, y⟩ == 0) = true) ↔ ∃ m', l[i]? = some m' ∧ m'.at_ = ⟨x, y⟩ := by
          rw [beq_iff_eq]
          have e := cmpS_eq m.at_ ⟨x, y⟩
          constructor
          · intro h; exact ⟨m, HM.out, e.1 h⟩
          · rintro ⟨m', h1, h2⟩; rw [HM.out] at h1; cases h1; exact e.2 h2
        have HBB := Lib.hid hb
        clear c0 c1 c2 c3 c4 c5 c6 c7 c8 q0 q1 b5 hB hb
        go_wp2_with fail
        go_ret2
        exact ⟨i, _, rfl, by omega, HI.out, HBB.out, hB5⟩
      · go_wp2_with fail
        go_quiet (fail)
        go_wp2_with fail
        go_ret2
        refine ⟨i, false, rfl, by omega, HI.out, ?_, below_drewN hB _⟩
        constructor
        · intro h; cases h
        · rintro ⟨m, hm, _⟩
          have := (List.getElem?_eq_some_iff.1 hm).1
          omega

end Go.Proofs.Ytilonmpcifohiaa
