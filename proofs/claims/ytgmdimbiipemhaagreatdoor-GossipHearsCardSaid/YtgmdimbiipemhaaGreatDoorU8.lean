/- Bytes, numbers, truths as elements of slices. -/
import Derived.Test.YtgmdimbiipemhaaGreatDoorRow
namespace Go.Proofs.YtgmdimbiipemhaaGreatDoor
open Go.RowKit
set_option linter.unusedSimpArgs false
set_option linter.unusedVariables false

/-- A slice, as a field. -/
structure Sl where
  a : Option Addr
  n : Nat
  cap : Nat
def Sl.val (s : Sl) : Value := .slice s.a s.n s.cap
theorem Own.sl {α : Type} {ea : α → List Value} {k : Nat} {e : TypeId} {base : Nat} {w : World} {v : Value} {l : List α} (h : Own ea k e base w v l) : ∃ s : Sl, v = .slice s.a s.n s.cap := by
  rcases h.eq_slice with ⟨rfl, _⟩ | ⟨g, c, rfl, _, _⟩
  · exact ⟨⟨none, 0, 0⟩, rfl⟩
  · exact ⟨⟨_, _, _⟩, rfl⟩
theorem Own.nlen {α : Type} {ea : α → List Value} {q : Nat} {T : TypeId} {base : Nat} {w : World} {a : Option Addr} {n cap : Nat} {l : List α} (h : Own ea q T base w (.slice a n cap) l) (hk : ∀ x, (ea x).length = q) : n = l.length ∧ n ≤ cap ∧ cap ≤ 9223372036854775807 := by
  obtain ⟨a, c, e1, h2, h3, h4⟩ := h.slice hk
  cases e1
  exact ⟨rfl, h2, by unfold maxLen at h3; exact h3⟩

def u8c (x : UInt8) : List Value := [.int .u8 x.toNat]
theorem u8c_len (x : UInt8) : (u8c x).length = 1 := rfl
theorem u8c_one (x : UInt8) : ∀ u ∈ u8c x, u.oneCell' = true := by
  intro u hu
  simp only [u8c, List.mem_cons, List.not_mem_nil, or_false] at hu
  subst hu
  rfl
theorem u8_new (W : World) (x : UInt8) : ∀ j u, (u8c x)[j]? = some u → (W.alloc (.cells #[.int .u8 x.toNat] 5)).cell? ⟨W.heap.size, j, none⟩ = some u := by
  intro j u hj
  rw [World.cell?_alloc_at _ _ _ _ rfl, ← hj, u8c]
  simp
theorem info_u8 : (Tryz.prog.info? 5).map (fun i => (i.zero, i.size, i.bytes)) = some (some (.int .u8 0), 1, 1) := by kernel_rfl
def intc (x : Int) : List Value := [.int .i64 x]
theorem intc_len (x : Int) : (intc x).length = 1 := rfl
theorem intc_one (x : Int) : ∀ u ∈ intc x, u.oneCell' = true := by
  intro u hu
  simp only [intc, List.mem_cons, List.not_mem_nil, or_false] at hu
  subst hu
  rfl
theorem int_new (W : World) (x : Int) : ∀ j u, (intc x)[j]? = some u → (W.alloc (.cells #[.int .i64 x] 3)).cell? ⟨W.heap.size, j, none⟩ = some u := by
  intro j u hj
  rw [World.cell?_alloc_at _ _ _ _ rfl, ← hj, intc]
  simp
theorem info_int : (Tryz.prog.info? 3).map (fun i => (i.zero, i.size, i.bytes)) = some (some (.int .i64 0), 1, 8) := by kernel_rfl
def btc (x : Bool) : List Value := [.bool x]
theorem btc_len (x : Bool) : (btc x).length = 1 := rfl
theorem btc_one (x : Bool) : ∀ u ∈ btc x, u.oneCell' = true := by
  intro u hu
  simp only [btc, List.mem_cons, List.not_mem_nil, or_false] at hu
  subst hu
  rfl
theorem bt_new (W : World) (x : Bool) : ∀ j u, (btc x)[j]? = some u → (W.alloc (.cells #[.bool x] 4)).cell? ⟨W.heap.size, j, none⟩ = some u := by
  intro j u hj
  rw [World.cell?_alloc_at _ _ _ _ rfl, ← hj, btc]
  simp
theorem info_bt : (Tryz.prog.info? 4).map (fun i => (i.zero, i.size, i.bytes)) = some (some (.bool false), 1, 1) := by kernel_rfl
/-- The cells of a slice of one-cell elements. -/
theorem SliceIs.at1 {α : Type} {ea : α → List Value} {w : World} {a : Option Addr} {n cap : Nat} {l : List α} (h : SliceIs ea 1 w (.slice a n cap) l) {k : Nat} {x : α} {u : Value} (hx : l[k]? = some x) (hu : ea x = [u]) : ∃ b o, a = some ⟨b, o, none⟩ ∧ w.cell? ⟨b, o + k, none⟩ = some u := by
  obtain ⟨_, _, e, _, _, h4⟩ := h
  cases e
  obtain ⟨b, o, rfl, h5⟩ := h4 (by rintro rfl; simp at hx)
  have := h5 k x hx 0 u (by rw [hu]; rfl)
  rw [Nat.mul_one, Nat.add_zero] at this
  exact ⟨b, o, rfl, this⟩
theorem SliceIs.n_eq {α : Type} {ea : α → List Value} {q : Nat} {w : World} {a : Option Addr} {n cap : Nat} {l : List α} (h : SliceIs ea q w (.slice a n cap) l) : n = l.length ∧ n ≤ cap ∧ cap ≤ 9223372036854775807 := by
  obtain ⟨_, _, e, h2, h3, _⟩ := h
  cases e
  exact ⟨rfl, h2, by unfold maxLen at h3; exact h3⟩

end Go.Proofs.YtgmdimbiipemhaaGreatDoor
