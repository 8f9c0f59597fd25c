/- Layer 6's document answer, in memory: the list of all that was done; contracts of Right, without, find. -/
import Derived.Test.YtmlaojfhmaamcaaRead06
namespace Go.Proofs.Ytmlaojfhmaamcaa
open Go.RowKit Go.Deep
set_option linter.unusedSimpArgs false
set_option linter.unusedVariables false

/-- A step in memory. -/
structure Stp where
  kind : Int
  file : Int
  name : ByteArray
  s : Sl
def Stp.cells (p : Stp) : List Value := [.int .i64 p.kind, .int .i64 p.file, .string p.name, .slice p.s.a p.s.n p.s.cap]
theorem Stp.len (p : Stp) : p.cells.length = 4 := rfl
theorem Stp.one (p : Stp) : ∀ u ∈ p.cells, u.oneCell' = true := by
  intro u hu
  simp only [Stp.cells, List.mem_cons, List.not_mem_nil, or_false] at hu
  rcases hu with rfl | rfl | rfl | rfl <;> rfl
/-- A step. -/
structure StepA where
  kind : Int
  file : Int
  name : ByteArray
  bs : List UInt8
/-- A file's name. -/
structure Nm where
  name : ByteArray
  file : Int
  deriving DecidableEq
def Nm.cells (p : Nm) : List Value := [.string p.name, .int .i64 p.file]
theorem Nm.len (p : Nm) : p.cells.length = 2 := rfl
theorem Nm.one (p : Nm) : ∀ u ∈ p.cells, u.oneCell' = true := by
  intro u hu
  simp only [Nm.cells, List.mem_cons, List.not_mem_nil, or_false] at hu
  rcases hu with rfl | rfl <;> rfl

/-- The document's disk. -/
structure RefA where
  L : List StepA
  born : Int
  bse : Int

/-- The step in memory is this one. -/
def StpIs (base : Nat) (w : World) (q : Stp) (p : StepA) : Prop := q.kind = p.kind ∧ q.file = p.file ∧ q.name = p.name ∧ Own u8c 1 5 base w q.s.val p.bs
/-- Steps in memory. -/
def StepsIs (base : Nat) (w : World) (v : Value) (L : List StepA) : Prop :=
  ∃ qs : List Stp, Own Stp.cells 4 83 base w v qs ∧ qs.length = L.length ∧ ∀ (i : Nat) q p, qs[i]? = some q → L[i]? = some p → StpIs base w q p
/-- The document's disk in memory. -/
structure RefIs (base : Nat) (w : World) (rb : Nat) (v : Value) (R : RefA) : Prop where
  blk : w.heap[rb]? = some (.cells #[v, .int .i64 R.born, .int .i64 R.bse] 35 (0, 0))
  lo : base ≤ rb
  steps : StepsIs base w v R.L

/-- The blocks that its calls write. -/
def RFoot (rb : Nat) (v : Value) (b : Nat) : Prop := b = rb ∨ v.ownBlock = some b
section
variable {base : Nat} {w w' : World} {S : Nat → Prop} {rb : Nat} {v : Value} {R : RefA}
theorem StpIs.ext {q : Stp} {p : StepA} (h : StpIs base w q p) (hx : Ext S w w') (hn : ∀ b, base ≤ b → tagOf w b = some 5 → ¬ S b) : StpIs base w' q p :=
  ⟨h.1, h.2.1, h.2.2.1, h.2.2.2.ext hx (fun b hb => hn b (h.2.2.2.blk b hb).1 (tag_own h.2.2.2 hb))⟩
theorem StepsIs.ext {L : List StepA} (h : StepsIs base w v L) (hx : Ext S w w') (h1 : ∀ b, v.ownBlock = some b → ¬ S b) (hn : ∀ b, base ≤ b → tagOf w b = some 5 → ¬ S b) : StepsIs base w' v L := by
  obtain ⟨qs, ho, hl, hp⟩ := h
  exact ⟨qs, ho.ext hx h1, hl, fun i q p hq hp' => (hp i q p hq hp').ext hx hn⟩
theorem RefIs.tag (h : RefIs base w rb v R) : tagOf w rb = some 35 := tag_cells h.blk
theorem RefIs.lt (h : RefIs base w rb v R) : rb < w.heap.size := tag_lt h.tag
theorem RefIs.row (h : RefIs base w rb v R) {b : Nat} (hb : v.ownBlock = some b) : base ≤ b ∧ b < w.heap.size ∧ tagOf w b = some 83 := by
  obtain ⟨qs, ho, _⟩ := h.steps
  exact ⟨(ho.blk b hb).1, (ho.blk b hb).2, tag_own ho hb⟩
theorem RefIs.foot (h : RefIs base w rb v R) {b : Nat} (hb : RFoot rb v b) : base ≤ b ∧ b < w.heap.size ∧ (tagOf w b = some 35 ∨ tagOf w b = some 83) := by
  rcases hb with rfl | hb
  · exact ⟨h.lo, h.lt, .inl h.tag⟩
  · exact ⟨(h.row hb).1, (h.row hb).2.1, .inr (h.row hb).2.2⟩
theorem RefIs.ext (h : RefIs base w rb v R) (hx : Ext S w w') (hn : ∀ b, RFoot rb v b → ¬ S b) (hu : ∀ b, base ≤ b → tagOf w b = some 5 → ¬ S b) : RefIs base w' rb v R :=
  ⟨(hx.block _ h.lt (hn _ (.inl rfl))).trans h.blk, h.lo, h.steps.ext hx (fun b hb => hn b (.inr hb)) hu⟩
theorem RefIs.below (h : RefIs base w rb v R) (hx : Below w.heap.size w w') : RefIs base w' rb v R :=
  h.ext (Ext.of_below (S := fun _ => False) hx) (fun _ _ => id) (fun _ _ _ => id)
end

/-- A call has turned the document's disk. -/
structure RTurned (base : Nat) (w : World) (rb : Nat) (v : Value) (w' : World) (v' : Value) (R' : RefA) : Prop where
  is_ : RefIs base w' rb v' R'
  ext : Ext (RFoot rb v) w w'
  foot : ∀ b, v'.ownBlock = some b → RFoot rb v b ∨ w.heap.size ≤ b
theorem RTurned.refl {base : Nat} {w : World} {rb : Nat} {v : Value} {R : RefA} (h : RefIs base w rb v R) : RTurned base w rb v w v R := ⟨h, Ext.refl _ _, fun _ hb => .inl (.inr hb)⟩
theorem RTurned.below {base : Nat} {w w' : World} {rb : Nat} {v : Value} {R : RefA} (h : RefIs base w rb v R) (hb : Below w.heap.size w w') : RTurned base w rb v w' v R := ⟨h.below hb, Ext.of_below hb, fun _ hb => .inl (.inr hb)⟩

set_option maxHeartbeats 1000000 in
theorem rright_any (s : ByteArray) (hsz : s.size ≤ 9223372036854775807) (w : World) : Calls Try.prog 48 #[.string s] w fun e w' => e = .returned (.bool (rightN s)) ∧ w' = w := by
  go_enter Try.func48, Try.ntmps48
  go_wp2_with fail
  go_loopg [3] s.size (fun g iv wx => ∃ k : Nat, g = s.size - k ∧ k ≤ s.size ∧ iv = .int .i64 k ∧ wx = w ∧ Hid (∀ i (hi : i < s.size), i < k → okB (s[i]'hi) = true))
  case atStart => exact ⟨0, by omega, by omega, rfl, rfl, Lib.hid (fun i _ h => absurd h (by omega))⟩
  case round =>
    obtain ⟨k, hg, hk, rfl, rfl, hU⟩ := hrel
    by_cases hkl : k < s.size
    · have hkk : (k : Int) < (s.size : Int) := by omega
      by_cases h1 : (s[k]'hkl).toNat < 97
      · have hr : rightN s = false := okB_bad hkl (by simp [okB]; omega)
        go_wp2
        go_ret
        exact ⟨by first | rfl | (rw [hr]; rfl), rfl⟩
      · by_cases h2 : 122 < (s[k]'hkl).toNat
        · have hr : rightN s = false := okB_bad hkl (by simp [okB]; omega)
          go_wp2
          go_ret
          exact ⟨by first | rfl | (rw [hr]; rfl), rfl⟩
        · have ho : okB (s[k]'hkl) = true := by simp [okB]; omega
          go_wp2
          go_roundg (s.size - (k + 1))
          case measure => omega
          case rel => exact ⟨k + 1, rfl, by omega, by simp, rfl, Lib.hid (fun i hi hik => by
            by_cases h3 : i < k
            · exact hU.out i hi h3
            · obtain rfl : i = k := by omega
              exact ho)⟩
    · obtain rfl : k = s.size := by omega
      have hr := okB_all (fun i hi => hU.out i hi hi)
      by_cases h1 : 1 ≤ s.size
      · have h3 : (1 : Int) ≤ (s.size : Int) := by omega
        by_cases h2 : s.size ≤ 8
        · have h4 : (s.size : Int) ≤ 8 := by omega
          have hr2 : rightN s = true := by rw [hr]; exact decide_eq_true ⟨h1, h2⟩
          clear hr
          go_wp2
          go_ret
          exact ⟨by first | rfl | simp [hr2, h4], rfl⟩
        · have h4 : ¬ (s.size : Int) ≤ 8 := by omega
          have hr2 : rightN s = false := by rw [hr]; exact decide_eq_false (fun h => h2 h.2)
          clear hr
          go_wp2
          go_ret
          exact ⟨by first | rfl | simp [hr2, h4], rfl⟩
      · have h3 : ¬ (1 : Int) ≤ (s.size : Int) := by omega
        have hr2 : rightN s = false := by rw [hr]; exact decide_eq_false (fun h => h1 h.1)
        clear hr
        go_wp2
        go_ret
        exact ⟨by first | rfl | simp [hr2, h3], rfl⟩

end Go.Proofs.Ytmlaojfhmaamcaa
