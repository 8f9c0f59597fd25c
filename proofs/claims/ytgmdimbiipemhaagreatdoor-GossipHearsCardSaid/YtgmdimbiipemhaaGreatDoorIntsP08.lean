/- An operation's numbers, by their columns, plain and in memory. -/
import Derived.Test.YtgmdimbiipemhaaGreatDoorOp08
import Derived.Test.YtgmdimbiipemhaaGreatDoorTkP08
namespace Go.Proofs.YtgmdimbiipemhaaGreatDoor
open Go.RowKit Go.Deep
set_option linter.unusedSimpArgs false
set_option linter.unusedVariables false

/-- Where a column's number lies. -/
def offC (c : Nat) : Nat := if c ≤ 16 then c else if c ≤ 18 then c + 3 else c + 4
theorem offC_inj {c d : Nat} (hc : c < 21) (hd : d < 21) (h : offC c = offC d) : c = d := by
  unfold offC at h
  split at h <;> split at h <;> try split at h
  all_goals (try split at h) <;> omega
theorem offC_lt {c : Nat} (hc : c < 21) : offC c < 26 := by unfold offC; split <;> (try split) <;> omega
/-- Is it put as differences? -/
def dlt (c : Nat) : Bool := c == 0 || (decide (2 ≤ c) && decide (c < 10)) || c == 11
def fld (o : OpD) : Nat → Int
  | 0 => o.id.n
  | 1 => o.id.r
  | 2 => o.d0
  | 3 => o.d1
  | 4 => o.d2
  | 5 => o.d3
  | 6 => o.d4
  | 7 => o.d5
  | 8 => o.d6
  | 9 => o.d7
  | 10 => o.kind
  | 11 => o.ref.n
  | 12 => o.ref.r
  | 13 => o.side
  | 14 => o.ch
  | 15 => o.under.n
  | 16 => o.under.r
  | 17 => o.fr.n
  | 18 => o.fr.r
  | 19 => o.tr.n
  | _ => o.tr.r
/-- The same operation with these numbers. -/
def OpD.withF (o : OpD) (f : Nat → Int) : OpD := ⟨⟨f 0, f 1⟩, f 2, f 3, f 4, f 5, f 6, f 7, f 8, f 9, f 10, ⟨f 11, f 12⟩, f 13, f 14, ⟨f 15, f 16⟩, o.key, o.name, o.value, ⟨f 17, f 18⟩, o.fa, ⟨f 19, f 20⟩, o.ta⟩
theorem withF_fld (o : OpD) : o.withF (fld o) = o := rfl
theorem fld_withF (o : OpD) (f : Nat → Int) {c : Nat} (hc : c < 21) : fld (o.withF f) c = f c := by
  match c, hc with
  | 0, _ => rfl
  | 1, _ => rfl
  | 2, _ => rfl
  | 3, _ => rfl
  | 4, _ => rfl
  | 5, _ => rfl
  | 6, _ => rfl
  | 7, _ => rfl
  | 8, _ => rfl
  | 9, _ => rfl
  | 10, _ => rfl
  | 11, _ => rfl
  | 12, _ => rfl
  | 13, _ => rfl
  | 14, _ => rfl
  | 15, _ => rfl
  | 16, _ => rfl
  | 17, _ => rfl
  | 18, _ => rfl
  | 19, _ => rfl
  | 20, _ => rfl
  | n + 21, h => exact absurd h (by omega)
/-- An operation lies here (its numbers are these). -/
structure At (b off : Nat) (o : OpD) (g : Nat → Int) (W : World) : Prop where
  num : ∀ c, c < 21 → W.cell? ⟨b, off + offC c, none⟩ = some (.int .i64 (g c))
  key : W.cell? ⟨b, off + 17, none⟩ = some (.string o.key)
  name : W.cell? ⟨b, off + 18, none⟩ = some (.string o.name)
  value : W.cell? ⟨b, off + 19, none⟩ = some (.string o.value)
  fa : W.cell? ⟨b, off + 22, none⟩ = some (.bool o.fa)
  ta : W.cell? ⟨b, off + 25, none⟩ = some (.bool o.ta)
  free : ∀ j, j < 26 → W.frozen? ⟨b, off + j, none⟩ = false
theorem At.cells {b off : Nat} {o : OpD} {g : Nat → Int} {W : World} (h : At b off o g W) : ∀ j u, (o.withF g).cells[j]? = some u → W.cell? ⟨b, off + j, none⟩ = some u := by
  intro j u hj
  have hlt := (List.getElem?_eq_some_iff.1 hj).1
  rw [OpD.len] at hlt
  match j, hlt with
  | 0, _ => cases hj; exact h.num 0 (by omega)
  | 1, _ => cases hj; exact h.num 1 (by omega)
  | 2, _ => cases hj; exact h.num 2 (by omega)
  | 3, _ => cases hj; exact h.num 3 (by omega)
  | 4, _ => cases hj; exact h.num 4 (by omega)
  | 5, _ => cases hj; exact h.num 5 (by omega)
  | 6, _ => cases hj; exact h.num 6 (by omega)
  | 7, _ => cases hj; exact h.num 7 (by omega)
  | 8, _ => cases hj; exact h.num 8 (by omega)
  | 9, _ => cases hj; exact h.num 9 (by omega)
  | 10, _ => cases hj; exact h.num 10 (by omega)
  | 11, _ => cases hj; exact h.num 11 (by omega)
  | 12, _ => cases hj; exact h.num 12 (by omega)
  | 13, _ => cases hj; exact h.num 13 (by omega)
  | 14, _ => cases hj; exact h.num 14 (by omega)
  | 15, _ => cases hj; exact h.num 15 (by omega)
  | 16, _ => cases hj; exact h.num 16 (by omega)
  | 17, _ => cases hj; exact h.key
  | 18, _ => cases hj; exact h.name
  | 19, _ => cases hj; exact h.value
  | 20, _ => cases hj; exact h.num 17 (by omega)
  | 21, _ => cases hj; exact h.num 18 (by omega)
  | 22, _ => cases hj; exact h.fa
  | 23, _ => cases hj; exact h.num 19 (by omega)
  | 24, _ => cases hj; exact h.num 20 (by omega)
  | 25, _ => cases hj; exact h.ta
theorem At.of_cells {b off : Nat} {o : OpD} {W : World} (h : ∀ j u, o.cells[j]? = some u → W.cell? ⟨b, off + j, none⟩ = some u) (hf : ∀ j, j < 26 → W.frozen? ⟨b, off + j, none⟩ = false) : At b off o (fld o) W :=
  ⟨fun c hc => h _ _ (by
    match c, hc with
    | 0, _ => rfl
    | 1, _ => rfl
    | 2, _ => rfl
    | 3, _ => rfl
    | 4, _ => rfl
    | 5, _ => rfl
    | 6, _ => rfl
    | 7, _ => rfl
    | 8, _ => rfl
    | 9, _ => rfl
    | 10, _ => rfl
    | 11, _ => rfl
    | 12, _ => rfl
    | 13, _ => rfl
    | 14, _ => rfl
    | 15, _ => rfl
    | 16, _ => rfl
    | 17, _ => rfl
    | 18, _ => rfl
    | 19, _ => rfl
    | 20, _ => rfl
    | n + 21, h => exact absurd h (by omega)), h 17 _ rfl, h 18 _ rfl, h 19 _ rfl, h 22 _ rfl, h 25 _ rfl, hf⟩
theorem At.of_same {b off : Nat} {o : OpD} {g : Nat → Int} {W W' : World} (h : At b off o g W) (hc : ∀ q, W'.cell? ⟨b, q, none⟩ = W.cell? ⟨b, q, none⟩) (hf : ∀ q, W'.frozen? ⟨b, q, none⟩ = W.frozen? ⟨b, q, none⟩) : At b off o g W' :=
  ⟨fun c h1 => (hc _).trans (h.num c h1), (hc _).trans h.key, (hc _).trans h.name, (hc _).trans h.value, (hc _).trans h.fa, (hc _).trans h.ta, fun j h1 => (hf _).trans (h.free j h1)⟩
theorem At.lt {b off : Nat} {o : OpD} {g : Nat → Int} {W : World} (h : At b off o g W) : b < W.heap.size := cell_lt h.key
theorem At.ext {b off : Nat} {o : OpD} {g : Nat → Int} {W W' : World} {S : Nat → Prop} (h : At b off o g W) (hx : Ext S W W') (hn : ¬ S b) : At b off o g W' :=
  h.of_same (fun q => hx.cell (p := ⟨b, q, none⟩) h.lt hn) (fun q => hx.frozen (p := ⟨b, q, none⟩) h.lt hn)
/-- One number of it is another one now. -/
theorem At.put {b off : Nat} {o : OpD} {g : Nat → Int} {W W' : World} (h : At b off o g W) {c : Nat} (hc : c < 21) {x : Int} (h1 : W'.cell? ⟨b, off + offC c, none⟩ = some (.int .i64 x)) (h2 : ∀ q, q ≠ off + offC c → W'.cell? ⟨b, q, none⟩ = W.cell? ⟨b, q, none⟩) (h3 : ∀ q, W'.frozen? ⟨b, q, none⟩ = W.frozen? ⟨b, q, none⟩) :
    At b off o (fun d => if d = c then x else g d) W' := by
  have hne : ∀ j, j = 17 ∨ j = 18 ∨ j = 19 ∨ j = 22 ∨ j = 25 → off + j ≠ off + offC c := fun j hj => by
    unfold offC
    split <;> (try split) <;> omega
  refine ⟨fun d hd => ?_, (h2 _ (hne _ (by omega))).trans h.key, (h2 _ (hne _ (by omega))).trans h.name, (h2 _ (hne _ (by omega))).trans h.value, (h2 _ (hne _ (by omega))).trans h.fa, (h2 _ (hne _ (by omega))).trans h.ta, fun j hj => (h3 _).trans (h.free j hj)⟩
  by_cases e : d = c
  · subst e; rw [if_pos rfl]; exact h1
  · rw [if_neg e, h2 _ (fun e2 => e (offC_inj hd hc (by omega)))]
    exact h.num d hd
/-- How far the numbers are changed. -/
def stg (f : Nat → Int) (o : OpD) (c : Nat) (d : Nat) : Int := if d < c ∧ d ≠ 10 ∧ d ≠ 13 then f d else fld o d
theorem stg_zero (f : Nat → Int) (o : OpD) : stg f o 0 = fld o := by funext d; unfold stg; rw [if_neg (by omega)]
theorem stg_at (f : Nat → Int) (o : OpD) (c : Nat) : stg f o c c = fld o c := by unfold stg; rw [if_neg (by omega)]
theorem stg_step (f : Nat → Int) (o : OpD) {c : Nat} (h1 : c ≠ 10) (h2 : c ≠ 13) : (fun d => if d = c then f c else stg f o c d) = stg f o (c + 1) := by
  funext d
  unfold stg
  by_cases e : d = c
  · subst e; rw [if_pos rfl, if_pos ⟨by omega, h1, h2⟩]
  · rw [if_neg e]
    by_cases h : d < c ∧ d ≠ 10 ∧ d ≠ 13
    · rw [if_pos h, if_pos ⟨by omega, h.2⟩]
    · rw [if_neg h, if_neg (by omega)]
theorem stg_skip (f : Nat → Int) (o : OpD) {c : Nat} (h : c = 10 ∨ c = 13) : stg f o c = stg f o (c + 1) := by
  funext d
  unfold stg
  by_cases h1 : d < c ∧ d ≠ 10 ∧ d ≠ 13
  · rw [if_pos h1, if_pos ⟨by omega, h1.2⟩]
  · rw [if_neg h1, if_neg (by omega)]
/-- A block keeps its size and its kind. -/
def Shp (pb : Nat) (W W' : World) : Prop := ∀ cs t, W.heap[pb]? = some (.cells cs t (0, 0)) → ∃ cs', W'.heap[pb]? = some (.cells cs' t (0, 0)) ∧ cs'.size = cs.size
theorem Shp.same {pb : Nat} {W W' : World} (h : W'.heap[pb]? = W.heap[pb]?) : Shp pb W W' := fun cs t hc => ⟨cs, h.trans hc, rfl⟩
theorem Shp.trans {pb : Nat} {W W' W'' : World} (h : Shp pb W W') (k : Shp pb W' W'') : Shp pb W W'' := fun cs t hc => by
  obtain ⟨c1, h1, h2⟩ := h cs t hc
  obtain ⟨c2, h3, h4⟩ := k c1 t h1
  exact ⟨c2, h3, h4.trans h2⟩
theorem Shp.set (W : World) (pb po : Nat) (v : Value) : Shp pb W (W.setCell ⟨pb, po, none⟩ v) := fun cs t hc => ⟨_, heap_setCell_same W pb po cs t v hc, by rw [Array.size_setIfInBounds]⟩
/-- Nothing beside the operation changes in its block. -/
def Rst (b off : Nat) (W W' : World) : Prop := ∀ cs t, W.heap[b]? = some (.cells cs t (0, 0)) → ∃ cs', W'.heap[b]? = some (.cells cs' t (0, 0)) ∧ cs'.size = cs.size ∧ ∀ q, (q < off ∨ off + 26 ≤ q) → cs'[q]? = cs[q]?
theorem Rst.refl (b off : Nat) (W : World) : Rst b off W W := fun cs t hc => ⟨cs, hc, rfl, fun _ _ => rfl⟩
theorem Rst.trans {b off : Nat} {W W' W'' : World} (h : Rst b off W W') (k : Rst b off W' W'') : Rst b off W W'' := fun cs t hc => by
  obtain ⟨c1, h1, h2, h5⟩ := h cs t hc
  obtain ⟨c2, h3, h4, h6⟩ := k c1 t h1
  exact ⟨c2, h3, h4.trans h2, fun q hq => (h6 q hq).trans (h5 q hq)⟩
theorem Rst.same {b off : Nat} {W W' : World} (h : W'.heap[b]? = W.heap[b]?) : Rst b off W W' := fun cs t hc => ⟨cs, h.trans hc, rfl, fun _ _ => rfl⟩
theorem Rst.of_shp {b off po : Nat} {W W' : World} (h : Shp b W W') (hq : ∀ q, q ≠ po → W'.cell? ⟨b, q, none⟩ = W.cell? ⟨b, q, none⟩) (h1 : off ≤ po) (h2 : po < off + 26) : Rst b off W W' := fun cs t hc => by
  obtain ⟨c1, h3, h4⟩ := h cs t hc
  refine ⟨c1, h3, h4, fun q hh => ?_⟩
  have h5 := hq q (by omega)
  unfold World.cell? at h5
  rw [h3, hc] at h5
  exact h5
theorem Rst.set (W : World) {b off po : Nat} (v : Value) (h1 : off ≤ po) (h2 : po < off + 26) : Rst b off W (W.setCell ⟨b, po, none⟩ v) := fun cs t hc =>
  ⟨_, heap_setCell_same W b po cs t v hc, by rw [Array.size_setIfInBounds], fun q hh => by rw [Array.getElem?_setIfInBounds_ne (by omega)]⟩
/-- What is asked of the function that uses the numbers' places. -/
def UseOK (P : Program) (gf : Nat) (lb : Array Value) (f fl : Nat → Int) (J : Nat → (Nat → Prop) → World → Prop) : Prop :=
  ∀ (c : Nat) (A : Nat → Prop) (W : World) (pb po : Nat), c < 21 → J c A W → W.cell? ⟨pb, po, none⟩ = some (.int .i64 (fl c)) → W.frozen? ⟨pb, po, none⟩ = false → A pb →
    Calls P gf (#[.pointer (some ⟨pb, po, none⟩), .bool (dlt c)] ++ lb) W fun e W' => (∃ v, e = .returned v) ∧ J (c + 1) A W' ∧ W'.cell? ⟨pb, po, none⟩ = some (.int .i64 (f c)) ∧
      (∀ q, q ≠ po → W'.cell? ⟨pb, q, none⟩ = W.cell? ⟨pb, q, none⟩) ∧ (∀ q, W'.frozen? ⟨pb, q, none⟩ = W.frozen? ⟨pb, q, none⟩) ∧ Ext (fun k => ¬ A k ∨ k = pb) W W' ∧ Shp pb W W'
/-- What such a function's own state must bear: others' blocks change, and new ones are others'. -/
def JOK (b : Nat) (J : Nat → (Nat → Prop) → World → Prop) : Prop := ∀ c A A' W W', J c A W → Ext (fun k => k = b) W W' → (∀ k, A' k → A k ∨ (W.heap.size ≤ k ∧ k < W'.heap.size)) → A b → J c A' W'

end Go.Proofs.YtgmdimbiipemhaaGreatDoor
