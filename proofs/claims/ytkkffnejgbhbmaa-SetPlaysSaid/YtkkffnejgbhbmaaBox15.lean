/- Writes in memory: an element of a slice, a box. -/
import Derived.Test.YtkkffnejgbhbmaaPlain15
namespace Go.Proofs.Ytkkffnejgbhbmaa
open Go.RowKit
set_option linter.unusedSimpArgs false
set_option linter.unusedVariables false

/-- The cells of element i of a slice of writes. -/
def WCells (w : World) (b o i : Nat) (x : Write) : Prop :=
  w.cell? ⟨b, o + i * 6, none⟩ = some (.int .i64 x.at_.n) ∧ w.cell? ⟨b, o + i * 6 + 1, none⟩ = some (.int .i64 x.at_.r) ∧ w.cell? ⟨b, o + i * 6 + 2, none⟩ = some (.int .i64 x.blk.n) ∧
  w.cell? ⟨b, o + i * 6 + 3, none⟩ = some (.int .i64 x.blk.r) ∧ w.cell? ⟨b, o + i * 6 + 4, none⟩ = some (.string x.name) ∧ w.cell? ⟨b, o + i * 6 + 5, none⟩ = some (.string x.value)

theorem SliceIs.wcells {w : World} {v : Value} {l : List Write} (h : SliceIs Write.cells 6 w v l) (hl : l ≠ []) : ∃ b o cap, v = .slice (some ⟨b, o, none⟩) l.length cap ∧ ∀ i x, l[i]? = some x → WCells w b o i x := by
  obtain ⟨a, cap, rfl, h2, h3, h4⟩ := h
  obtain ⟨b, o, rfl, hc⟩ := h4 hl
  exact ⟨b, o, cap, rfl, fun i x hx => ⟨hc i x hx 0 _ rfl, hc i x hx 1 _ rfl, hc i x hx 2 _ rfl, hc i x hx 3 _ rfl, hc i x hx 4 _ rfl, hc i x hx 5 _ rfl⟩⟩

theorem WCells.below {w w' : World} {b o i : Nat} {x : Write} (h : WCells w b o i x) (hb : Below w.heap.size w w') : WCells w' b o i x :=
  ⟨keepB hb h.1, keepB hb h.2.1, keepB hb h.2.2.1, keepB hb h.2.2.2.1, keepB hb h.2.2.2.2.1, keepB hb h.2.2.2.2.2⟩

/-- A box that holds a write. -/
structure BoxIs (w : World) (b : Nat) (x : Write) : Prop where
  c0 : w.cell? ⟨b, 0, none⟩ = some (.int .i64 x.at_.n)
  c1 : w.cell? ⟨b, 1, none⟩ = some (.int .i64 x.at_.r)
  c2 : w.cell? ⟨b, 2, none⟩ = some (.int .i64 x.blk.n)
  c3 : w.cell? ⟨b, 3, none⟩ = some (.int .i64 x.blk.r)
  c4 : w.cell? ⟨b, 4, none⟩ = some (.string x.name)
  c5 : w.cell? ⟨b, 5, none⟩ = some (.string x.value)
theorem BoxIs.new (w : World) (x : Write) : BoxIs (w.alloc (.cells #[.int .i64 x.at_.n, .int .i64 x.at_.r, .int .i64 x.blk.n, .int .i64 x.blk.r, .string x.name, .string x.value] 32)) w.heap.size x :=
  ⟨by go_simp, by go_simp, by go_simp, by go_simp, by go_simp, by go_simp⟩
theorem BoxIs.alloc {w : World} {b : Nat} {x : Write} (h : BoxIs w b x) (o : Obj) : BoxIs (w.alloc o) b x :=
  ⟨cell_alloc h.c0 o, cell_alloc h.c1 o, cell_alloc h.c2 o, cell_alloc h.c3 o, cell_alloc h.c4 o, cell_alloc h.c5 o⟩
theorem BoxIs.ext {w w' : World} {b : Nat} {x : Write} (h : BoxIs w b x) {S : Nat → Prop} (hx : Ext S w w') (hn : ¬ S b) : BoxIs w' b x :=
  ⟨hx.keep h.c0 hn, hx.keep h.c1 hn, hx.keep h.c2 hn, hx.keep h.c3 hn, hx.keep h.c4 hn, hx.keep h.c5 hn⟩
theorem RegIs.alloc {w : World} {r mv ma : Nat} {vs : List (Pl × Wr)} {ats : List (St × Bool)} (h : RegIs w r mv ma vs ats) (o : Obj) : RegIs (w.alloc o) r mv ma vs ats :=
  ⟨cell_alloc h.c0 o, cell_alloc h.c1 o, h.hv.alloc o, h.ha.alloc o, h.ne⟩
theorem RegIs.drew {w : World} {r mv ma : Nat} {vs : List (Pl × Wr)} {ats : List (St × Bool)} (h : RegIs w r mv ma vs ats) : RegIs w.drew r mv ma vs ats := ⟨h.c0, h.c1, h.hv, h.ha, h.ne⟩
theorem RegIs.lt {w : World} {r mv ma : Nat} {vs : List (Pl × Wr)} {ats : List (St × Bool)} (h : RegIs w r mv ma vs ats) : r < w.heap.size ∧ mv < w.heap.size ∧ ma < w.heap.size := ⟨cell_lt h.c0, h.hv.lt, h.ha.lt⟩


theorem take_snoc' {l : List Write} {k : Nat} {x : Write} (h : l[k]? = some x) : l.take (k + 1) = l.take k ++ [x] := by
  obtain ⟨hl, rfl⟩ := List.getElem?_eq_some_iff.1 h
  rw [List.take_succ_eq_append_getElem hl]

theorem mem_take {l : List Write} {n : Nat} {x : Write} : x ∈ l.take n ↔ ∃ i, i < n ∧ l[i]? = some x := by
  rw [List.mem_iff_getElem?]
  constructor
  · rintro ⟨i, hi⟩
    rw [List.getElem?_take] at hi
    split at hi
    · exact ⟨i, by assumption, hi⟩
    · cases hi
  · rintro ⟨i, h1, h2⟩
    exact ⟨i, by rw [List.getElem?_take, if_pos h1]; exact h2⟩

theorem st_ext {a b : St} (h1 : a.n = b.n) (h2 : a.r = b.r) : a = b := by
  cases a
  cases b
  simp only at h1 h2
  rw [h1, h2]

/-- A store into the registers' maps turns no cell. -/
theorem RegIs.cells {w w' : World} {r mv ma : Nat} {vs : List (Pl × Wr)} {ats : List (St × Bool)} (h : RegIs w r mv ma vs ats) (hx : Ext (fun k => k = mv ∨ k = ma) w w') :
    ∀ b o u, w.cell? ⟨b, o, none⟩ = some u → w'.cell? ⟨b, o, none⟩ = some u := by
  intro b o u hu
  refine hx.keep hu ?_
  rintro (e | e)
  · obtain ⟨_, es, clock, h1, _⟩ := h.hv
    rw [← e] at h1
    simp [World.cell?, h1] at hu
  · obtain ⟨_, es, clock, h1, _⟩ := h.ha
    rw [← e] at h1
    simp [World.cell?, h1] at hu

theorem RegIs.trans {w w' : World} {r mv ma : Nat} {vs : List (Pl × Wr)} {ats : List (St × Bool)} (h : RegIs w r mv ma vs ats) (hb : Below w.heap.size w w') : RegIs w' r mv ma vs ats := h.below hb
end Go.Proofs.Ytkkffnejgbhbmaa
