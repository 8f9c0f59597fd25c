/- Layer 17: the reference's Place, stands and Covers. -/
import Derived.Test.YtlfmkoapddihcaaPlain17
import Derived.Test.YtlfmkoapddihcaaAnch17
import Derived.BigQuiet
import Derived.Deep.QuietTactic
import Derived.Deep.RegionHeld3
namespace Go.Proofs.Ytlfmkoapddihcaa
open Go.RowKit
set_option linter.unusedSimpArgs false
set_option linter.unusedVariables false

def placeI (l : List El) (k : St) : Int := match placeOf l k with | some i => (i : Int) | none => -1
theorem placeOf_step {l : List El} {k : Nat} {id : St} {x : El} (hx : l[k]? = some x) : placeOf (l.drop k) id = if x.id = id then some 0 else (placeOf (l.drop (k + 1)) id).map (· + 1) := by
  obtain ⟨h, rfl⟩ := List.getElem?_eq_some_iff.1 hx
  rw [List.drop_eq_getElem_cons h]
  unfold placeOf
  rw [List.findIdx?_cons]
  by_cases e : l[k].id = id <;> simp [e]

set_option maxHeartbeats 1000000 in
theorem place_any (va : Option Addr) (ca : Nat) (l : List El) (sid : St) (w : World) (hl : SliceIs El.cells 4 w (.slice va l.length ca) l) (hln : l.length ≤ 1000) :
    Calls Try.prog 18 #[.slice va l.length ca, .agg #[.int .i64 sid.n, .int .i64 sid.r]] w fun e w' => e = .returned (.int .i64 (placeI l sid)) ∧ Below w.heap.size w w' := by
  obtain ⟨_, _, e0, hcap, hmax, hcs⟩ := id hl
  cases e0
  have HC := Lib.hid hcs
  have d0 : (w.alloc (.cells #[.int .i64 sid.n, .int .i64 sid.r] 31)).cell? ⟨w.heap.size, 0, none⟩ = some (.int .i64 sid.n) := by go_simp
  have d1 : (w.alloc (.cells #[.int .i64 sid.n, .int .i64 sid.r] 31)).cell? ⟨w.heap.size, 1, none⟩ = some (.int .i64 sid.r) := by go_simp
  have hB0 : Below w.heap.size w (w.alloc (.cells #[.int .i64 sid.n, .int .i64 sid.r] 31)) := (Below.refl _ _).alloc (Nat.le_refl _) _
  clear hcs hl
  go_enter Try.func18, Try.ntmps18
  go_wp2_with fail
  go_loopg [5] l.length (fun g iv wr => ∃ k : Nat, g = l.length - k ∧ k ≤ l.length ∧ iv = .int .i64 k ∧ placeOf l sid = (placeOf (l.drop k) sid).map (· + k) ∧ wr.cell? ⟨w.heap.size, 0, none⟩ = some (.int .i64 sid.n) ∧ wr.cell? ⟨w.heap.size, 1, none⟩ = some (.int .i64 sid.r) ∧ Below w.heap.size w wr)
  case atStart => exact ⟨0, by omega, by omega, rfl, by simp, d0, d1, hB0⟩
  case round =>
    clear d0 d1 hB0
    obtain ⟨k, hg, hk, rfl, hP, d0, d1, hB⟩ := hrel
    have HB := Lib.hid hB
    have HG := Lib.hid hg
    have HP := Lib.hid hP
    by_cases hkl : k < l.length
    · obtain ⟨x, hx⟩ : ∃ x, l[k]? = some x := ⟨_, List.getElem?_eq_getElem hkl⟩
      obtain ⟨b, o, rfl, hcc⟩ := HC.out (by intro e; rw [e] at hx; simp at hx)
      have x0 : wr.cell? ⟨b, o + k * 4, none⟩ = some (.int .i64 x.id.n) := keepB hB (hcc k x hx 0 _ rfl)
      have x1 : wr.cell? ⟨b, o + k * 4 + 1, none⟩ = some (.int .i64 x.id.r) := keepB hB (hcc k x hx 1 _ rfl)
      have hkk : (k : Int) < (l.length : Int) := by omega
      have HS := Lib.hid (placeOf_step (id := sid) hx)
      clear hcc hB hg hP hx
      by_cases h1 : x.id.n = sid.n
      · by_cases h2 : x.id.r = sid.r
        · have HE : Hid (x.id = sid) := Lib.hid (by cases h3 : x.id; cases h4 : sid; simp_all)
          rw [h1] at x0
          rw [h2] at x1
          go_wp2_with fail
          go_region_held3 (fun W => W.cell? ⟨b, o + k * 4, none⟩ = some (.int .i64 sid.n) ∧ W.cell? ⟨b, o + k * 4 + 1, none⟩ = some (.int .i64 sid.r) ∧ W.cell? ⟨w.heap.size, 0, none⟩ = some (.int .i64 sid.n) ∧ W.cell? ⟨w.heap.size, 1, none⟩ = some (.int .i64 sid.r)) (exact ⟨x0, x1, d0, d1⟩) (fail)
          go_wp2_with fail
          go_ret
          refine ⟨?_, HB.out.drew⟩
          rw [placeI, HP.out, HS.out, if_pos HE.out]
          simp
        · have HE : Hid (¬ x.id = sid) := Lib.hid (fun e => h2 (by rw [e]))
          go_wp2_with fail
          go_region_held3 (fun W => W.cell? ⟨b, o + k * 4, none⟩ = some (.int .i64 x.id.n) ∧ W.cell? ⟨b, o + k * 4 + 1, none⟩ = some (.int .i64 x.id.r) ∧ W.cell? ⟨w.heap.size, 0, none⟩ = some (.int .i64 sid.n) ∧ W.cell? ⟨w.heap.size, 1, none⟩ = some (.int .i64 sid.r)) (exact ⟨x0, x1, d0, d1⟩) (fail)
          go_wp2_with fail
          go_roundg (l.length - (k + 1))
          case measure => rw [HG.out]; omega
          case rel => exact ⟨k + 1, rfl, by omega, by simp, by rw [HP.out, HS.out, if_neg HE.out, Option.map_map]; congr 1; funext j; simp only [Function.comp_apply]; omega, d0, d1, HB.out.drew⟩
      · have HE : Hid (¬ x.id = sid) := Lib.hid (fun e => h1 (by rw [e]))
        go_wp2_with fail
        go_region_held3 (fun W => W.cell? ⟨b, o + k * 4, none⟩ = some (.int .i64 x.id.n) ∧ W.cell? ⟨b, o + k * 4 + 1, none⟩ = some (.int .i64 x.id.r) ∧ W.cell? ⟨w.heap.size, 0, none⟩ = some (.int .i64 sid.n) ∧ W.cell? ⟨w.heap.size, 1, none⟩ = some (.int .i64 sid.r)) (exact ⟨x0, x1, d0, d1⟩) (fail)
        go_wp2_with fail
        go_roundg (l.length - (k + 1))
        case measure => rw [HG.out]; omega
        case rel => exact ⟨k + 1, rfl, by omega, by simp, by rw [HP.out, HS.out, if_neg HE.out, Option.map_map]; congr 1; funext j; simp only [Function.comp_apply]; omega, d0, d1, HB.out.drew⟩
    · obtain rfl : k = l.length := by omega
      clear hB hg hP
      go_wp2_with fail
      go_ret
      refine ⟨?_, HB.out⟩
      rw [placeI, HP.out]
      simp [placeOf]

theorem placeI_none {l : List El} {k : St} (h : placeOf l k = none) : placeI l k = -1 := by rw [placeI, h]
theorem placeI_some {l : List El} {k : St} {i : Nat} (h : placeOf l k = some i) : placeI l k = (i : Int) := by rw [placeI, h]

/-- Where an anchor stands, as the reference says it. -/
def standsI (l : List El) (a : St) (aft : Bool) : Int := match placeOf l a with | some i => if aft = true then 2 * (i : Int) + 2 else 2 * (i : Int) | none => -1

set_option maxHeartbeats 1000000 in
theorem stands_any (va : Option Addr) (ca : Nat) (l : List El) (a : St) (aft : Bool) (w : World) (hl : SliceIs El.cells 4 w (.slice va l.length ca) l) (hln : l.length ≤ 1000) :
    Calls Try.prog 59 #[.slice va l.length ca, .agg #[.int .i64 a.n, .int .i64 a.r, .bool aft]] w fun e w' => e = .returned (.int .i64 (standsI l a aft)) ∧ Below w.heap.size w w' := by
  have hB0 : Below w.heap.size w (w.alloc (.cells #[.int .i64 a.n, .int .i64 a.r, .bool aft] 37)) := (Below.refl _ _).alloc (Nat.le_refl _) _
  have hl0 := hl.below hB0
  have d2 : (w.alloc (.cells #[.int .i64 a.n, .int .i64 a.r, .bool aft] 37)).cell? ⟨w.heap.size, 2, none⟩ = some (.bool aft) := by go_simp
  go_enter Try.func59, Try.ntmps59
  go_wp2_with fail
  refine (place_any va ca l a _ hl0 hln).mono ?_
  rintro e w1 ⟨rfl, hb1⟩
  replace d2 := keepB hb1 d2
  have HB := Lib.hid (hB0.trans (hb1.mono hB0.size))
  clear hB0 hb1 hl hl0
  cases hp : placeOf l a with
  | none =>
    have HR : Hid (standsI l a aft = -1) := Lib.hid (by rw [standsI, hp])
    rw [placeI_none hp]
    clear hp
    go_wp2_with fail
    go_ret
    exact ⟨by rw [HR.out]; rfl, HB.out⟩
  | some i =>
    have hi := placeOf_lt hp
    have hi1 : (i : Int) ≤ 1000 := by omega
    have hi0 : (0 : Int) ≤ (i : Int) := by omega
    have hi2 : ¬ (i : Int) < 0 := by omega
    have HR : Hid (standsI l a aft = if aft = true then 2 * (i : Int) + 2 else 2 * (i : Int)) := Lib.hid (by rw [standsI, hp])
    rw [placeI_some hp]
    clear hp hi
    cases aft with
    | true =>
      go_wp2_with fail
      go_ret
      exact ⟨by rw [HR.out]; simp, HB.out⟩
    | false =>
      go_wp2_with fail
      go_ret
      exact ⟨by rw [HR.out]; simp, HB.out⟩

end Go.Proofs.Ytlfmkoapddihcaa
