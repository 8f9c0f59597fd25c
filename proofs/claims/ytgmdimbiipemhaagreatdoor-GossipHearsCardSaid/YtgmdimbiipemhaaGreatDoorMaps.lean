/- Maps as lists of pairs: the laws of look-up, store, delete and range over a block that is a map, for whatever type of keys that can be told apart. -/
import Derived.WalkKit
import Derived.WalkSpells
import Derived.WalkLawsBesides
import Derived.Lib.Hide
namespace Go.Proofs.YtgmdimbiipemhaaGreatDoor
open Go.RowKit
set_option linter.unusedSimpArgs false
set_option linter.unusedVariables false
set_option linter.unusedSectionVars false

/-- All blocks but those of S are as they were. -/
structure Ext (S : Nat → Prop) (w w' : World) : Prop where
  os : w'.os = w.os
  tape : w'.tape = w.tape
  output : w'.output = w.output
  size : w.heap.size ≤ w'.heap.size
  block : ∀ k, k < w.heap.size → ¬ S k → w'.heap[k]? = w.heap[k]?

theorem Ext.refl (S : Nat → Prop) (w : World) : Ext S w w := ⟨rfl, rfl, rfl, Nat.le_refl _, fun _ _ _ => rfl⟩
theorem Ext.trans {S : Nat → Prop} {a b c : World} (h : Ext S a b) (k : Ext S b c) : Ext S a c :=
  ⟨k.os.trans h.os, k.tape.trans h.tape, k.output.trans h.output, Nat.le_trans h.size k.size, fun i hi hn => (k.block i (Nat.lt_of_lt_of_le hi h.size) hn).trans (h.block i hi hn)⟩
theorem Ext.mono {S T : Nat → Prop} {w w' : World} (h : Ext S w w') (hs : ∀ k, k < w.heap.size → S k → T k) : Ext T w w' :=
  ⟨h.os, h.tape, h.output, h.size, fun k hk hn => h.block k hk (fun s => hn (hs k hk s))⟩
/-- Behind a second call, whose blocks are S's own or new. -/
theorem Ext.andThen {S T : Nat → Prop} {a b c : World} (h : Ext S a b) (k : Ext T b c) (hs : ∀ i, i < a.heap.size → T i → S i) : Ext S a c :=
  ⟨k.os.trans h.os, k.tape.trans h.tape, k.output.trans h.output, Nat.le_trans h.size k.size, fun i hi hn => (k.block i (Nat.lt_of_lt_of_le hi h.size) (fun t => hn (hs i hi t))).trans (h.block i hi hn)⟩
theorem Ext.drew {S : Nat → Prop} {a w : World} (h : Ext S a w) : Ext S a w.drew := ⟨h.os, h.tape, h.output, h.size, h.block⟩
theorem Ext.alloc {S : Nat → Prop} {a w : World} (h : Ext S a w) (o : Obj) : Ext S a (w.alloc o) :=
  h.trans ⟨rfl, rfl, rfl, by simp, fun k hk _ => Below.heap_alloc _ _ _ hk⟩
theorem Ext.setCell {S : Nat → Prop} {a w : World} (h : Ext S a w) {p : Addr} (hp : a.heap.size ≤ p.block ∨ S p.block) (u : Value) : Ext S a (w.setCell p u) :=
  ⟨h.os, h.tape, h.output, by simpa [World.setCell] using h.size, fun k hk hn => by
    rw [Below.heap_setCell _ _ _ _ (by intro e; subst e; rcases hp with hp | hp; omega; exact hn hp)]; exact h.block k hk hn⟩
theorem Ext.below {w w' : World} (h : Ext (fun _ => False) w w') : Below w.heap.size w w' := ⟨h.os, h.tape, h.output, h.size, fun k hk => h.block k hk id⟩
theorem Ext.of_below {S : Nat → Prop} {w w' : World} (h : Below w.heap.size w w') : Ext S w w' := ⟨h.os, h.tape, h.output, h.size, fun k hk _ => h.block k hk⟩
theorem Ext.cell {S : Nat → Prop} {w w' : World} (h : Ext S w w') {p : Addr} (hp : p.block < w.heap.size) (hn : ¬ S p.block) : w'.cell? p = w.cell? p := World.cell?_of_block (w := w) (h.block p.block hp hn)
theorem Ext.frozen {S : Nat → Prop} {w w' : World} (h : Ext S w w') {p : Addr} (hp : p.block < w.heap.size) (hn : ¬ S p.block) : w'.frozen? p = w.frozen? p := World.frozen?_of_block (w := w) (h.block p.block hp hn)

theorem below_drew {B : Nat} {w w' : World} : Below B w.drew w' ↔ Below B w w' := ⟨fun h => ⟨h.os, h.tape, h.output, h.size, h.block⟩, fun h => ⟨h.os, h.tape, h.output, h.size, h.block⟩⟩
theorem heap_drew (w : World) : w.drew.heap = w.heap := rfl
theorem ext_drew {S : Nat → Prop} {w w' : World} : Ext S w.drew w' ↔ Ext S w w' := ⟨fun h => ⟨h.os, h.tape, h.output, h.size, h.block⟩, fun h => ⟨h.os, h.tape, h.output, h.size, h.block⟩⟩
theorem Ext.new {S : Nat → Prop} {B : Nat} {w a b : World} (h : Below B w a) (k : Ext S a b) (hs : ∀ i, i < B → i < a.heap.size → ¬ S i) (hB : B ≤ a.heap.size) : Below B w b :=
  ⟨k.os.trans h.os, k.tape.trans h.tape, k.output.trans h.output, Nat.le_trans h.size k.size, fun i hi => (k.block i (by omega) (hs i hi (by omega))).trans (h.block i hi)⟩
theorem cell_lt {w : World} {b o : Nat} {v : Value} (h : w.cell? ⟨b, o, none⟩ = some v) : b < w.heap.size := by
  simp only [World.cell?] at h
  exact Classical.byContradiction fun hn => by rw [Array.getElem?_eq_none (by omega)] at h; cases h
theorem cell_alloc {w : World} {b o : Nat} {v : Value} (h : w.cell? ⟨b, o, none⟩ = some v) (x : Obj) : (w.alloc x).cell? ⟨b, o, none⟩ = some v :=
  (World.cell?_alloc_past x b o (cell_lt h)).trans h
theorem keepB {W w1 : World} (hb : Below W.heap.size W w1) {b o : Nat} {v : Value} (h : W.cell? ⟨b, o, none⟩ = some v) : w1.cell? ⟨b, o, none⟩ = some v :=
  (hb.cell (p := ⟨b, o, none⟩) (cell_lt h)).trans h
theorem Ext.keep {S : Nat → Prop} {W w1 : World} (hb : Ext S W w1) {b o : Nat} {v : Value} (h : W.cell? ⟨b, o, none⟩ = some v) (hn : ¬ S b) : w1.cell? ⟨b, o, none⟩ = some v :=
  (hb.cell (p := ⟨b, o, none⟩) (cell_lt h) hn).trans h

section maps
variable {K V : Type} [DecidableEq K]

def aget : List (K × V) → K → Option V
  | [], _ => none
  | (k', v) :: r, k => if k' = k then some v else aget r k
def aset : List (K × V) → K → V → List (K × V)
  | [], k, v => [(k, v)]
  | (k', v') :: r, k, v => if k' = k then (k', v) :: r else (k', v') :: aset r k v
def adel : List (K × V) → K → List (K × V)
  | [], _ => []
  | (k', v') :: r, k => if k' = k then r else (k', v') :: adel r k
def aidx : List (K × V) → K → Option Nat
  | [], _ => none
  | (k', _) :: r, k => if k' = k then some 0 else (aidx r k).map (· + 1)

theorem aidx_none {l : List (K × V)} {k : K} (h : aidx l k = none) : aget l k = none := by
  induction l with
  | nil => rfl
  | cons p r ih =>
    obtain ⟨k', v⟩ := p
    simp only [aidx] at h
    split at h
    · cases h
    · rename_i hne
      simp only [aget, hne, if_false]
      exact ih (by simpa using h)
theorem aidx_some {l : List (K × V)} {k : K} {i : Nat} (h : aidx l k = some i) : ∃ v, l[i]? = some (k, v) ∧ aget l k = some v := by
  induction l generalizing i with
  | nil => cases h
  | cons p r ih =>
    obtain ⟨k', v⟩ := p
    simp only [aidx] at h
    split at h
    · rename_i he
      cases h
      exact ⟨v, by simp [he], by simp [aget, he]⟩
    · rename_i hne
      cases hi : aidx r k with
      | none => rw [hi] at h; cases h
      | some j =>
        rw [hi] at h
        cases h
        obtain ⟨u, h1, h2⟩ := ih hi
        exact ⟨u, by simpa using h1, by simpa [aget, hne] using h2⟩
theorem aset_none {l : List (K × V)} {k : K} {v : V} (h : aidx l k = none) : aset l k v = l ++ [(k, v)] := by
  induction l with
  | nil => rfl
  | cons p r ih =>
    obtain ⟨k', v'⟩ := p
    simp only [aidx] at h
    split at h
    · cases h
    · rename_i hne
      simp only [aset, hne, if_false, List.cons_append]
      rw [ih (by simpa using h)]
theorem aset_some {l : List (K × V)} {k : K} {v : V} {i : Nat} (h : aidx l k = some i) : aset l k v = l.set i (k, v) := by
  induction l generalizing i with
  | nil => cases h
  | cons p r ih =>
    obtain ⟨k', v'⟩ := p
    simp only [aidx] at h
    split at h
    · rename_i he
      cases h
      simp [aset, he]
    · rename_i hne
      cases hi : aidx r k with
      | none => rw [hi] at h; cases h
      | some j =>
        rw [hi] at h
        cases h
        simp [aset, hne, ih hi]
theorem adel_none {l : List (K × V)} {k : K} (h : aidx l k = none) : adel l k = l := by
  induction l with
  | nil => rfl
  | cons p r ih =>
    obtain ⟨k', v'⟩ := p
    simp only [aidx] at h
    split at h
    · cases h
    · rename_i hne
      simp only [adel, hne, if_false]
      rw [ih (by simpa using h)]
theorem adel_some {l : List (K × V)} {k : K} {i : Nat} (h : aidx l k = some i) : adel l k = l.eraseIdx i := by
  induction l generalizing i with
  | nil => cases h
  | cons p r ih =>
    obtain ⟨k', v'⟩ := p
    simp only [aidx] at h
    split at h
    · rename_i he
      cases h
      simp [adel, he]
    · rename_i hne
      cases hi : aidx r k with
      | none => rw [hi] at h; cases h
      | some j =>
        rw [hi] at h
        cases h
        simp [adel, hne, ih hi]
theorem aget_aset_same (l : List (K × V)) (k : K) (v : V) : aget (aset l k v) k = some v := by
  induction l with
  | nil => simp [aset, aget]
  | cons p r ih =>
    obtain ⟨k', v'⟩ := p
    by_cases h : k' = k <;> simp [aset, aget, h, ih]
theorem aget_aset_other (l : List (K × V)) {k j : K} (v : V) (h : k ≠ j) : aget (aset l k v) j = aget l j := by
  induction l with
  | nil => simp [aset, aget, h]
  | cons p r ih =>
    obtain ⟨k', v'⟩ := p
    by_cases h1 : k' = k
    · subst h1; simp [aset, aget, h]
    · simp only [aset, if_neg h1, aget, ih]
theorem aset_keys (l : List (K × V)) (k : K) (v : V) : ∀ x, x ∈ (aset l k v).map (·.1) ↔ x = k ∨ x ∈ l.map (·.1) := by
  intro x
  induction l with
  | nil => simp [aset]
  | cons p r ih =>
    obtain ⟨k', v'⟩ := p
    by_cases h1 : k' = k
    · subst h1; simp [aset]
    · simp only [aset, h1, if_false, List.map_cons, List.mem_cons, ih]
      constructor
      · rintro (h | h | h)
        · exact .inr (.inl h)
        · exact .inl h
        · exact .inr (.inr h)
      · rintro (h | h | h)
        · exact .inr (.inl h)
        · exact .inl h
        · exact .inr (.inr h)
theorem aset_nodup (l : List (K × V)) (k : K) (v : V) (h : (l.map (·.1)).Nodup) : ((aset l k v).map (·.1)).Nodup := by
  induction l with
  | nil => simp [aset]
  | cons p r ih =>
    obtain ⟨k', v'⟩ := p
    by_cases h1 : k' = k
    · subst h1; simpa [aset] using h
    · simp only [aset, if_neg h1, List.map_cons, List.nodup_cons] at h ⊢
      refine ⟨fun hm => ?_, ih h.2⟩
      rcases (aset_keys r k v k').1 hm with e | e
      · exact absurd e h1
      · exact h.1 e
theorem adel_sub (l : List (K × V)) (k : K) : (adel l k).Sublist l := by
  induction l with
  | nil => exact List.Sublist.refl _
  | cons p r ih =>
    obtain ⟨k', v'⟩ := p
    by_cases h1 : k' = k
    · simp [adel, h1]
    · simp only [adel, h1, if_false]; exact ih.cons_cons _
theorem adel_nodup (l : List (K × V)) (k : K) (h : (l.map (·.1)).Nodup) : ((adel l k).map (·.1)).Nodup := List.Sublist.nodup ((adel_sub l k).map _) h
theorem aget_none_iff (l : List (K × V)) (k : K) : aget l k = none ↔ k ∉ l.map (·.1) := by
  induction l with
  | nil => simp [aget]
  | cons p r ih =>
    obtain ⟨k', v'⟩ := p
    by_cases h1 : k' = k
    · simp [aget, h1]
    · simp only [aget, h1, if_false, List.map_cons, List.mem_cons, not_or, ih]
      exact ⟨fun h => ⟨fun e => h1 e.symm, h⟩, fun h => h.2⟩
theorem aget_mem {l : List (K × V)} {k : K} {v : V} (h : aget l k = some v) : (k, v) ∈ l := by
  induction l with
  | nil => cases h
  | cons p r ih =>
    obtain ⟨k', v'⟩ := p
    by_cases h1 : k' = k
    · simp only [aget, h1, if_true] at h; cases h; simp [h1]
    · simp only [aget, h1, if_false] at h; exact List.mem_cons_of_mem _ (ih h)
theorem aget_of_mem {l : List (K × V)} {k : K} {v : V} (hn : (l.map (·.1)).Nodup) (h : (k, v) ∈ l) : aget l k = some v := by
  induction l with
  | nil => cases h
  | cons p r ih =>
    obtain ⟨k', v'⟩ := p
    simp only [List.map_cons, List.nodup_cons] at hn
    rcases List.mem_cons.1 h with e | h
    · cases e; simp [aget]
    · have : k' ≠ k := fun e => hn.1 (by subst e; exact List.mem_map.2 ⟨_, h, rfl⟩)
      simp only [aget, this, if_false]; exact ih hn.2 h
theorem aget_adel_same (l : List (K × V)) (k : K) (hn : (l.map (·.1)).Nodup) : aget (adel l k) k = none := by
  induction l with
  | nil => rfl
  | cons p r ih =>
    obtain ⟨k', v'⟩ := p
    simp only [List.map_cons, List.nodup_cons] at hn
    by_cases h1 : k' = k
    · subst h1; simp only [adel, if_true]; exact (aget_none_iff _ _).2 hn.1
    · simp only [adel, aget, h1, if_false]; exact ih hn.2
theorem aget_adel_other (l : List (K × V)) {k j : K} (h : k ≠ j) : aget (adel l k) j = aget l j := by
  induction l with
  | nil => rfl
  | cons p r ih =>
    obtain ⟨k', v'⟩ := p
    by_cases h1 : k' = k
    · subst h1; simp [adel, aget, h]
    · simp only [adel, if_neg h1, aget, ih]
theorem aset_length_le (l : List (K × V)) (k : K) (v : V) : (aset l k v).length ≤ l.length + 1 := by
  induction l with
  | nil => simp [aset]
  | cons p r ih =>
    obtain ⟨k', v'⟩ := p
    by_cases h1 : k' = k
    · simp [aset, h1]
    · simp [aset, h1]; omega

/-- What is asked of a type of keys. -/
structure KeyTy (P : Program) (kt : TypeId) (ek : K → Value) : Prop where
  check : ∀ (em : Bool) (k : K) (w : World), (Instr.checkKey em 10000 kt (ek k)).run P w = .ok () w
  find : ∀ (k : K) (es : List MapEntry) (l : List (K × V)) (w : World), es.map (·.key) = l.map (fun p => ek p.1) →
    (Instr.findKey kt (ek k) es).run P w = .ok ((aidx l k).map fun i => (i, ((es[i]?).map (·.val)).getD undef)) w
  stays : ∀ (k : K) (w : World), (Instr.keyThatStays (ek k) (ek k)).run P w = .ok (ek k) w

/-- Block b is a map that holds just these pairs. -/
def MapIs (ek : K → Value) (ev : V → Value) (w : World) (b : Nat) (l : List (K × V)) : Prop :=
  (l.map (·.1)).Nodup ∧ ∃ es clock, w.heap[b]? = some (.map es clock) ∧ es.toList.map (·.key) = l.map (fun p => ek p.1) ∧ es.toList.map (·.val) = l.map (fun p => ev p.2) ∧
    es.toList.Pairwise (fun x y => x.born < y.born) ∧ ∀ e ∈ es.toList, e.born < clock

variable {ek : K → Value} {ev : V → Value} {w : World} {b : Nat} {l : List (K × V)}

theorem MapIs.of_block {w' : World} (h : MapIs ek ev w b l) (hb : w'.heap[b]? = w.heap[b]?) : MapIs ek ev w' b l := by
  obtain ⟨hn, es, clock, h1, h2⟩ := h
  exact ⟨hn, es, clock, hb.trans h1, h2⟩
theorem MapIs.lt (h : MapIs ek ev w b l) : b < w.heap.size := by
  obtain ⟨hn, es, clock, h1, h2⟩ := h
  exact (Array.getElem?_eq_some_iff.1 h1).1
theorem MapIs.nodup (h : MapIs ek ev w b l) : (l.map (·.1)).Nodup := h.1
theorem MapIs.drew (h : MapIs ek ev w b l) : MapIs ek ev w.drew b l := h
theorem MapIs.alloc (h : MapIs ek ev w b l) (o : Obj) : MapIs ek ev (w.alloc o) b l := h.of_block (Below.heap_alloc _ _ _ h.lt)
theorem MapIs.setCell (h : MapIs ek ev w b l) (p : Addr) (v : Value) : MapIs ek ev (w.setCell p v) b l := by
  obtain ⟨hn, es, clock, h1, h2⟩ := h
  refine ⟨hn, es, clock, ?_, h2⟩
  simp only [World.setCell, Array.getElem?_modify]
  split
  · rename_i e
    subst e
    rw [h1]
    rfl
  · exact h1
theorem MapIs.ext {S : Nat → Prop} {w' : World} (h : MapIs ek ev w b l) (hx : Ext S w w') (hn : ¬ S b) : MapIs ek ev w' b l := h.of_block (hx.block b h.lt hn)
theorem MapIs.below {w' : World} (h : MapIs ek ev w b l) (hx : Below w.heap.size w w') : MapIs ek ev w' b l := h.of_block (hx.block b h.lt)
theorem MapIs.made (w : World) : MapIs ek ev (w.alloc (.map #[] 0)) w.heap.size ([] : List (K × V)) :=
  ⟨List.nodup_nil, #[], 0, by show (w.heap.push _)[w.heap.size]? = _; simp, rfl, rfl, List.Pairwise.nil, by simp⟩

theorem run_getObj_map' {P : Program} {es : Array MapEntry} {clock : Nat} (h : w.heap[b]? = some (.map es clock)) : (getObj b).run P w = .ok (.map es clock) w := MapKept.run_getObj_map h

/-- The look-up. -/
theorem MapIs.lookup {P : Program} {mt kt et : TypeId} (h : MapIs ek ev w b l) (hk : KeyTy (V := V) P kt ek) (hm : P.underlying mt = some (.map kt et)) {z : Value} (hz : ∀ w, (zeroValue et).run P w = .ok z w) (k : K) :
    (Instr.lookup mt (.map (some b)) (ek k) false).run P w = .ok (((aget l k).map ev).getD z) w := by
  obtain ⟨hn, es, clock, h1, h2, h3, h4⟩ := h
  have hf := hk.find k es.toList l w h2
  cases hi : aidx l k with
  | none =>
    have h0 := aidx_none hi
    rw [hi] at hf
    simp [Instr.lookup, run_underlying hm, run_getObj_map' h1, hk.check, hf, hz, h0, Result.andThen]
  | some i =>
    obtain ⟨v, e1, e2⟩ := aidx_some hi
    have hv : es.toList[i]?.map (·.val) = some (ev v) := by
      have := congrArg (fun l : List Value => l[i]?) h3
      simpa [e1] using this
    rw [hi] at hf
    simp only [Array.getElem?_toList] at hf hv
    simp [Instr.lookup, run_underlying hm, run_getObj_map' h1, hk.check, hf, e2, Result.andThen]
    rw [show es[i]?.map (·.val) = some (ev v) from hv]
    rfl
theorem MapIs.lookupOk {P : Program} {mt kt et : TypeId} (h : MapIs ek ev w b l) (hk : KeyTy (V := V) P kt ek) (hm : P.underlying mt = some (.map kt et)) {z : Value} (hz : ∀ w, (zeroValue et).run P w = .ok z w) (k : K) :
    (Instr.lookup mt (.map (some b)) (ek k) true).run P w = .ok (.tuple #[((aget l k).map ev).getD z, .bool (aget l k).isSome]) w := by
  obtain ⟨hn, es, clock, h1, h2, h3, h4⟩ := h
  have hf := hk.find k es.toList l w h2
  cases hi : aidx l k with
  | none =>
    have h0 := aidx_none hi
    rw [hi] at hf
    simp [Instr.lookup, run_underlying hm, run_getObj_map' h1, hk.check, hf, hz, h0, Result.andThen]
  | some i =>
    obtain ⟨v, e1, e2⟩ := aidx_some hi
    have hv : es.toList[i]?.map (·.val) = some (ev v) := by
      have := congrArg (fun l : List Value => l[i]?) h3
      simpa [e1] using this
    rw [hi] at hf
    simp only [Array.getElem?_toList] at hf hv
    simp [Instr.lookup, run_underlying hm, run_getObj_map' h1, hk.check, hf, e2, Result.andThen]
    rw [show es[i]?.map (·.val) = some (ev v) from hv]
    rfl

/-- The world behind a store into a map. -/
def mapPut (w : World) (b : Nat) (i : Option Nat) (k v : Value) : World :=
  match w.heap[b]? with
  | some (.map es clock) => match i with
    | some i => { w with heap := w.heap.setIfInBounds b (.map (es.modify i fun e => { e with key := k, val := v }) clock) }
    | none => { w with heap := w.heap.setIfInBounds b (.map (es.push { key := k, val := v, born := clock }) (clock + 1)) }
  | _ => w
def mapDel (w : World) (b : Nat) (i : Option Nat) : World :=
  match w.heap[b]? with
  | some (.map es clock) => match i with
    | some i => { w with heap := w.heap.setIfInBounds b (.map (es.eraseIdxIfInBounds i) clock) }
    | none => w
  | _ => w

theorem mapPut_size (w : World) (b : Nat) (i : Option Nat) (k v : Value) : (mapPut w b i k v).heap.size = w.heap.size := by
  unfold mapPut; split
  · split <;> simp
  · rfl
theorem mapPut_block (w : World) (b : Nat) (i : Option Nat) (k v : Value) (c : Nat) (h : c ≠ b) : (mapPut w b i k v).heap[c]? = w.heap[c]? := by
  unfold mapPut; split
  · split <;> simp [Array.getElem?_setIfInBounds, h.symm]
  · rfl
theorem mapPut_drew (w : World) (b : Nat) (i : Option Nat) (k v : Value) : mapPut w.drew b i k v = (mapPut w b i k v).drew := by
  unfold mapPut
  show (match w.heap[b]? with | some (.map es clock) => _ | _ => _) = _
  split
  · split <;> rfl
  · rfl
theorem mapPut_cell (w : World) (b : Nat) (i : Option Nat) (k v : Value) (a : Addr) : (mapPut w b i k v).cell? a = w.cell? a := by
  by_cases h : a.block = b
  · subst h
    unfold mapPut
    split
    · rename_i es clock hb
      split <;> (simp only [World.cell?, Array.getElem?_setIfInBounds, if_true, hb]; split <;> simp_all)
    · rfl
  · exact World.cell?_of_block (w := w) (mapPut_block w b i k v _ h)
theorem mapPut_frozen (w : World) (b : Nat) (i : Option Nat) (k v : Value) (a : Addr) : (mapPut w b i k v).frozen? a = w.frozen? a := by
  by_cases h : a.block = b
  · subst h
    unfold mapPut
    split
    · rename_i es clock hb
      split <;> (simp only [World.frozen?, Array.getElem?_setIfInBounds, if_true, hb]; split <;> simp_all)
    · rfl
  · exact World.frozen?_of_block (w := w) (mapPut_block w b i k v _ h)
theorem mapDel_size (w : World) (b : Nat) (i : Option Nat) : (mapDel w b i).heap.size = w.heap.size := by
  unfold mapDel; split
  · split <;> simp
  · rfl
theorem mapDel_block (w : World) (b : Nat) (i : Option Nat) (c : Nat) (h : c ≠ b) : (mapDel w b i).heap[c]? = w.heap[c]? := by
  unfold mapDel; split
  · split <;> simp [Array.getElem?_setIfInBounds, h.symm]
  · rfl
theorem mapDel_cell (w : World) (b : Nat) (i : Option Nat) (a : Addr) : (mapDel w b i).cell? a = w.cell? a := by
  by_cases h : a.block = b
  · subst h
    unfold mapDel
    split
    · rename_i es clock hb
      split <;> (simp only [World.cell?, Array.getElem?_setIfInBounds, if_true, hb]; try (split <;> simp_all))
    · rfl
  · exact World.cell?_of_block (w := w) (mapDel_block w b i _ h)
theorem mapDel_frozen (w : World) (b : Nat) (i : Option Nat) (a : Addr) : (mapDel w b i).frozen? a = w.frozen? a := by
  by_cases h : a.block = b
  · subst h
    unfold mapDel
    split
    · rename_i es clock hb
      split <;> (simp only [World.frozen?, Array.getElem?_setIfInBounds, if_true, hb]; try (split <;> simp_all))
    · rfl
  · exact World.frozen?_of_block (w := w) (mapDel_block w b i _ h)
theorem mapDel_drew (w : World) (b : Nat) (i : Option Nat) : mapDel w.drew b i = (mapDel w b i).drew := by
  unfold mapDel
  show (match w.heap[b]? with | some (.map es clock) => _ | _ => _) = _
  split
  · split <;> rfl
  · rfl
theorem mapPut_ext (w : World) (b : Nat) (i : Option Nat) (k v : Value) : Ext (· = b) w (mapPut w b i k v) := by
  refine ⟨?_, ?_, ?_, Nat.le_of_eq (mapPut_size w b i k v).symm, fun c _ h => mapPut_block w b i k v c h⟩ <;> (unfold mapPut; split <;> (try split) <;> rfl)
theorem mapDel_ext (w : World) (b : Nat) (i : Option Nat) : Ext (· = b) w (mapDel w b i) := by
  refine ⟨?_, ?_, ?_, Nat.le_of_eq (mapDel_size w b i).symm, fun c _ h => mapDel_block w b i c h⟩ <;> (unfold mapDel; split <;> (try split) <;> rfl)

theorem Ext.mapPut {S : Nat → Prop} {a w : World} (h : Ext S a w) {b : Nat} (hb : S b ∨ a.heap.size ≤ b) (i : Option Nat) (k v : Value) : Ext S a (mapPut w b i k v) :=
  h.andThen (mapPut_ext w b i k v) (fun j hj e => by rcases hb with hb | hb; exact e ▸ hb; exact absurd hj (by omega))
theorem Ext.mapDel {S : Nat → Prop} {a w : World} (h : Ext S a w) {b : Nat} (hb : S b ∨ a.heap.size ≤ b) (i : Option Nat) : Ext S a (mapDel w b i) :=
  h.andThen (mapDel_ext w b i) (fun j hj e => by rcases hb with hb | hb; exact e ▸ hb; exact absurd hj (by omega))
theorem Ext.then_below {S : Nat → Prop} {a w w' : World} (h : Ext S a w) (k : Below w.heap.size w w') : Ext S a w' := h.andThen (Ext.of_below (S := fun _ => False) k) (fun _ _ f => f.elim)

/-- The store. -/
theorem MapIs.update {P : Program} {mt kt et : TypeId} (h : MapIs ek ev w b l) (hk : KeyTy (V := V) P kt ek) (hm : P.underlying mt = some (.map kt et)) (k : K) (v : Value) :
    (Instr.mapUpdate mt (.map (some b)) (ek k) v).run P w = .ok () (mapPut w b (aidx l k) (ek k) v) := by
  obtain ⟨hn, es, clock, h1, h2, h3, h4⟩ := h
  have hf := hk.find k es.toList l w h2
  cases hi : aidx l k with
  | none =>
    rw [hi] at hf
    simp [Instr.mapUpdate, run_underlying hm, run_getObj_map' h1, hk.check, hf, Result.andThen, MapKept.run_setObj_map _ h1, mapPut, h1]
  | some i =>
    obtain ⟨u, e1, e2⟩ := aidx_some hi
    have hv : es.toList[i]?.map (·.key) = some (ek k) := by
      have := congrArg (fun l : List Value => l[i]?) h2
      simpa [e1] using this
    rw [hi] at hf
    simp only [Array.getElem?_toList] at hf hv
    simp [Instr.mapUpdate, run_underlying hm, run_getObj_map' h1, hk.check, hf, hv, hk.stays, Result.andThen, MapKept.run_setObj_map _ h1, mapPut, h1]
theorem MapIs.put (h : MapIs ek ev w b l) (k : K) (v : V) : MapIs ek ev (mapPut w b (aidx l k) (ek k) (ev v)) b (aset l k v) := by
  refine ⟨aset_nodup l k v h.1, ?_⟩
  have hlt := h.lt
  obtain ⟨hn, es, clock, h1, h2, h3, h4, h5⟩ := h
  cases hi : aidx l k with
  | none =>
    refine ⟨es.push { key := ek k, val := ev v, born := clock }, clock + 1, ?_, ?_, ?_, ?_, ?_⟩
    · simp only [mapPut, h1]; rw [Array.getElem?_setIfInBounds_self_of_lt hlt]
    · simp [aset_none hi, h2]
    · simp [aset_none hi, h3]
    · rw [Array.toList_push, List.pairwise_append]
      refine ⟨h4, List.pairwise_singleton _ _, fun x hx y hy => ?_⟩
      rw [List.mem_singleton.1 hy]
      exact h5 x hx
    · intro e he
      rw [Array.toList_push, List.mem_append] at he
      rcases he with he | he
      · exact Nat.lt_succ_of_lt (h5 e he)
      · rw [List.mem_singleton.1 he]; exact Nat.lt_succ_self _
  | some i =>
    obtain ⟨u, e1, e2⟩ := aidx_some hi
    have hset : ∀ e, es.toList[i]? = some e → (es.modify i fun e => { e with key := ek k, val := ev v }).toList = es.toList.set i { e with key := ek k, val := ev v } := fun e he => by
      rw [Array.toList_modify, ChangeMaps.modify_eq_set _ _ _ _ he]
    obtain ⟨e0, he0⟩ : ∃ e, es.toList[i]? = some e := by
      have := congrArg (fun l : List Value => l[i]?) h2
      simp only [List.getElem?_map, e1] at this
      cases hx : es.toList[i]? with
      | none => rw [hx] at this; cases this
      | some e => exact ⟨e, rfl⟩
    refine ⟨es.modify i fun e => { e with key := ek k, val := ev v }, clock, ?_, ?_, ?_, ?_, ?_⟩
    · simp only [mapPut, h1]; rw [Array.getElem?_setIfInBounds_self_of_lt hlt]
    · rw [hset e0 he0, List.map_set, h2, aset_some hi, List.map_set]
    · rw [hset e0 he0, List.map_set, h3, aset_some hi, List.map_set]
    · rw [hset e0 he0]
      have : (es.toList.set i { e0 with key := ek k, val := ev v }).map (·.born) = es.toList.map (·.born) := by
        rw [List.map_set]
        refine List.ext_getElem? fun j => ?_
        rw [List.getElem?_set]
        split
        · rename_i hij
          subst hij
          split
          · simp [he0]
          · rename_i hl
            simp only [List.length_map] at hl
            rw [List.getElem?_eq_none (by simpa using hl)]
        · rfl
      have hp : ((es.toList.set i { e0 with key := ek k, val := ev v }).map (·.born)).Pairwise (· < ·) := by rw [this]; exact List.pairwise_map.2 h4
      exact List.pairwise_map.1 hp
    · intro e he
      rw [hset e0 he0] at he
      rcases List.mem_or_eq_of_mem_set he with he | he
      · exact h5 e he
      · rw [he]; exact h5 e0 (List.mem_of_getElem? he0)

theorem MapIs.put_other (h : MapIs ek ev w b l) {c : Nat} (i : Option Nat) (k v : Value) (hne : b ≠ c) : MapIs ek ev (mapPut w c i k v) b l := h.of_block (mapPut_block w c i k v b hne)
theorem MapIs.del_other (h : MapIs ek ev w b l) {c : Nat} (i : Option Nat) (hne : b ≠ c) : MapIs ek ev (mapDel w c i) b l := h.of_block (mapDel_block w c i b hne)
/-- delete. -/
theorem MapIs.delete {P : Program} {mt kt et ty : TypeId} (h : MapIs ek ev w b l) (hk : KeyTy (V := V) P kt ek) (hm : P.underlying mt = some (.map kt et)) (k : K) :
    (Builtin.delete_ #[mt, kt] ty #[.map (some b), ek k]).run P w = .ok (.tuple #[]) (mapDel w b (aidx l k)) := by
  obtain ⟨hn, es, clock, h1, h2, h3, h4⟩ := h
  have hf := hk.find k es.toList l w h2
  have hlt := (Array.getElem?_eq_some_iff.1 h1)
  cases hi : aidx l k with
  | none =>
    rw [hi] at hf
    have : ({ w with heap := w.heap.setIfInBounds b (.map es clock) } : World) = w := by
      have e : w.heap.setIfInBounds b (.map es clock) = w.heap := by
        apply Array.ext_getElem?
        intro j
        rw [Array.getElem?_setIfInBounds]
        split
        · rename_i e; subst e; rw [if_pos hlt.1, h1]
        · rfl
      rw [e]
    simp [Builtin.delete_, run_underlying hm, run_getObj_map' h1, hk.check, hf, Result.andThen, MapKept.run_setObj_map _ h1, mapDel, h1, this]
  | some i =>
    rw [hi] at hf
    simp [Builtin.delete_, run_underlying hm, run_getObj_map' h1, hk.check, hf, Result.andThen, MapKept.run_setObj_map _ h1, mapDel, h1]
theorem MapIs.del (h : MapIs ek ev w b l) (k : K) : MapIs ek ev (mapDel w b (aidx l k)) b (adel l k) := by
  refine ⟨adel_nodup l k h.1, ?_⟩
  have hlt := h.lt
  obtain ⟨hn, es, clock, h1, h2, h3, h4, h5⟩ := h
  cases hi : aidx l k with
  | none => exact ⟨es, clock, by simp [mapDel, h1], by rw [adel_none hi]; exact h2, by rw [adel_none hi]; exact h3, h4, h5⟩
  | some i =>
    have hl : i < es.size := by
      obtain ⟨u, e1, _⟩ := aidx_some hi
      have := congrArg List.length h2
      have h6 := (List.getElem?_eq_some_iff.1 e1).1
      simp at this
      omega
    have e3 : (es.eraseIdxIfInBounds i).toList = es.toList.eraseIdx i := by
      simp [Array.eraseIdxIfInBounds, hl]
    refine ⟨es.eraseIdxIfInBounds i, clock, by simp only [mapDel, h1]; rw [Array.getElem?_setIfInBounds_self_of_lt hlt], ?_, ?_, ?_, ?_⟩
    · rw [e3, adel_some hi, ChangeMaps.map_eraseIdx, h2, ChangeMaps.map_eraseIdx]
    · rw [e3, adel_some hi, ChangeMaps.map_eraseIdx, h3, ChangeMaps.map_eraseIdx]
    · rw [e3]; exact List.Pairwise.sublist (List.eraseIdx_sublist _ _) h4
    · intro e he; rw [e3] at he; exact h5 e (List.mem_of_mem_eraseIdx he)
end maps

end Go.Proofs.YtgmdimbiipemhaaGreatDoor
