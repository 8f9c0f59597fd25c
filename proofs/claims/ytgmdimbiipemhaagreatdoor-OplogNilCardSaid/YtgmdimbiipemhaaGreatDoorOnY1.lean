/- OplogNil, part 1 of what the proof leans on (made short by a program). -/
import Derived.Test.YtgmdimbiipemhaaGreatDoorRows
import Derived.WalkKit
import Derived.WalkSpells
import Derived.WalkLawsBesides
import Derived.Lib.Hide
import Derived.ProofKit
import Derived.Deep.Slices
import Derived.OrdersHeld
import Derived.RegionTactic
import Derived.Laws.AppendOwn
import Derived.Shelf.Bits.Mul64
import Derived.Shelf.Slices.Turned
import Derived.Shelf.Slices.Clone
import Derived.Shelf.Strings.Prefix
import Derived.Shelf.Strings.SlTrimAscii
import Derived.Ground.NamesProg
import Derived.Ground.Names2Prog
import Derived.Test.YtgmdimbiipemhaaGreatDoorProg
import Derived.Deep.QuietTactic
import Derived.Deep.CutBlock
import Derived.Deep.DeepCutAuto
import Derived.Deep.LoopGhost
import Derived.Laws.BytesString
import Derived.Lib.SlBytesConst
import Derived.Lib.SlTrimSet
import Derived.Lib.ConvBytes
import Derived.Lib.AppendZeros
import Derived.IntWalk
set_option linter.unusedSimpArgs false
set_option linter.unusedVariables false
set_option linter.unusedSectionVars false
namespace Go.Proofs.YtgmdimbiipemhaaGreatDoor
open Go.RowKit
structure St where
  n : Int
  r : Int
  deriving DecidableEq
def rightB (s : St) : Bool := decide (1 ≤ s.n ∧ s.n ≤ 1048576 ∧ 0 ≤ s.r ∧ s.r < 8)
set_option maxHeartbeats 400000 in
theorem right_any (a b : Int) (w : World) :
    Calls Tryz.prog 138 #[.agg #[.int .i64 a, .int .i64 b]] w
      fun e w' => e = .returned (.bool (rightB ⟨a, b⟩)) ∧ Below w.heap.size w w' := by
  by_cases h1 : 1 ≤ a
  · by_cases h2 : a ≤ 1048576
    · by_cases h3 : 0 ≤ b
      · by_cases h4 : b < 8
        · have hr : rightB ⟨a, b⟩ = true := by simp only [rightB, decide_eq_true_eq]; exact ⟨h1, h2, h3, h4⟩
          rw [hr]; clear hr
          go_enter Tryz.func138, Tryz.ntmps138
          go_wp2
          go_ret
          exact ⟨rfl, (Below.refl _ _).alloc (Nat.le_refl _) _⟩
        · have hr : rightB ⟨a, b⟩ = false := by simp only [rightB, decide_eq_false_iff_not]; omega
          rw [hr]; clear hr
          go_enter Tryz.func138, Tryz.ntmps138
          go_wp2
          go_ret
          exact ⟨rfl, (Below.refl _ _).alloc (Nat.le_refl _) _⟩
      · have hr : rightB ⟨a, b⟩ = false := by simp only [rightB, decide_eq_false_iff_not]; omega
        rw [hr]; clear hr
        go_enter Tryz.func138, Tryz.ntmps138
        go_wp2
        go_ret
        exact ⟨rfl, (Below.refl _ _).alloc (Nat.le_refl _) _⟩
    · have hr : rightB ⟨a, b⟩ = false := by simp only [rightB, decide_eq_false_iff_not]; omega
      rw [hr]; clear hr
      go_enter Tryz.func138, Tryz.ntmps138
      go_wp2
      go_ret
      exact ⟨rfl, (Below.refl _ _).alloc (Nat.le_refl _) _⟩
  · have hr : rightB ⟨a, b⟩ = false := by simp only [rightB, decide_eq_false_iff_not]; omega
    rw [hr]; clear hr
    go_enter Tryz.func138, Tryz.ntmps138
    go_wp2
    go_ret
    exact ⟨rfl, (Below.refl _ _).alloc (Nat.le_refl _) _⟩
structure Ext (S : Nat → Prop) (w w' : World) : Prop where
  os : w'.os = w.os
  tape : w'.tape = w.tape
  output : w'.output = w.output
  size : w.heap.size ≤ w'.heap.size
  block : ∀ k, k < w.heap.size → ¬ S k → w'.heap[k]? = w.heap[k]?
theorem Ext.refl (S : Nat → Prop) (w : World) : Ext S w w := ⟨rfl, rfl, rfl, Nat.le_refl _, fun _ _ _ => rfl⟩
theorem Ext.trans {S : Nat → Prop} {a b c : World} (h : Ext S a b) (k : Ext S b c) : Ext S a c :=
  ⟨k.os.trans h.os, k.tape.trans h.tape, k.output.trans h.output, Nat.le_trans h.size k.size, fun i hi hn => (k.block i (Nat.lt_of_lt_of_le hi h.size) hn).trans (h.block i hi hn)⟩
theorem Ext.mono {S T : Nat → Prop} {w w' : World} (h : Ext S w w') (hs : ∀ k, k < w.heap.size → S k → T k) : Ext T w w' :=
  ⟨h.os, h.tape, h.output, h.size, fun k hk hn => h.block k hk (fun s => hn (hs k hk s))⟩
theorem Ext.andThen {S T : Nat → Prop} {a b c : World} (h : Ext S a b) (k : Ext T b c) (hs : ∀ i, i < a.heap.size → T i → S i) : Ext S a c :=
  ⟨k.os.trans h.os, k.tape.trans h.tape, k.output.trans h.output, Nat.le_trans h.size k.size, fun i hi hn => (k.block i (Nat.lt_of_lt_of_le hi h.size) (fun t => hn (hs i hi t))).trans (h.block i hi hn)⟩
theorem Ext.drew {S : Nat → Prop} {a w : World} (h : Ext S a w) : Ext S a w.drew := ⟨h.os, h.tape, h.output, h.size, h.block⟩
theorem Ext.alloc {S : Nat → Prop} {a w : World} (h : Ext S a w) (o : Obj) : Ext S a (w.alloc o) :=
  h.trans ⟨rfl, rfl, rfl, by simp, fun k hk _ => Below.heap_alloc _ _ _ hk⟩
theorem Ext.setCell {S : Nat → Prop} {a w : World} (h : Ext S a w) {p : Addr} (hp : a.heap.size ≤ p.block ∨ S p.block) (u : Value) : Ext S a (w.setCell p u) :=
  ⟨h.os, h.tape, h.output, by simpa [World.setCell] using h.size, fun k hk hn => by
    rw [Below.heap_setCell _ _ _ _ (by intro e; subst e; rcases hp with hp | hp; omega; exact hn hp)]; exact h.block k hk hn⟩
theorem Ext.below {w w' : World} (h : Ext (fun _ => False) w w') : Below w.heap.size w w' := ⟨h.os, h.tape, h.output, h.size, fun k hk => h.block k hk id⟩
theorem Ext.of_below {S : Nat → Prop} {w w' : World} (h : Below w.heap.size w w') : Ext S w w' := ⟨h.os, h.tape, h.output, h.size, fun k hk _ => h.block k hk⟩
theorem Ext.cell {S : Nat → Prop} {w w' : World} (h : Ext S w w') {p : Addr} (hp : p.block < w.heap.size) (hn : ¬ S p.block) : w'.cell? p = w.cell? p := World.cell?_of_block (w := w) (h.block p.block hp hn)
theorem Ext.frozen {S : Nat → Prop} {w w' : World} (h : Ext S w w') {p : Addr} (hp : p.block < w.heap.size) (hn : ¬ S p.block) : w'.frozen? p = w.frozen? p := World.frozen?_of_block (w := w) (h.block p.block hp hn)
theorem below_drew {B : Nat} {w w' : World} : Below B w.drew w' ↔ Below B w w' := ⟨fun h => ⟨h.os, h.tape, h.output, h.size, h.block⟩, fun h => ⟨h.os, h.tape, h.output, h.size, h.block⟩⟩
theorem heap_drew (w : World) : w.drew.heap = w.heap := rfl
theorem ext_drew {S : Nat → Prop} {w w' : World} : Ext S w.drew w' ↔ Ext S w w' := ⟨fun h => ⟨h.os, h.tape, h.output, h.size, h.block⟩, fun h => ⟨h.os, h.tape, h.output, h.size, h.block⟩⟩
theorem Ext.new {S : Nat → Prop} {B : Nat} {w a b : World} (h : Below B w a) (k : Ext S a b) (hs : ∀ i, i < B → i < a.heap.size → ¬ S i) (hB : B ≤ a.heap.size) : Below B w b :=
  ⟨k.os.trans h.os, k.tape.trans h.tape, k.output.trans h.output, Nat.le_trans h.size k.size, fun i hi => (k.block i (by omega) (hs i hi (by omega))).trans (h.block i hi)⟩
theorem cell_lt {w : World} {b o : Nat} {v : Value} (h : w.cell? ⟨b, o, none⟩ = some v) : b < w.heap.size := by
  simp only [World.cell?] at h
  exact Classical.byContradiction fun hn => by rw [Array.getElem?_eq_none (by omega)] at h; cases h
theorem cell_alloc {w : World} {b o : Nat} {v : Value} (h : w.cell? ⟨b, o, none⟩ = some v) (x : Obj) : (w.alloc x).cell? ⟨b, o, none⟩ = some v :=
  (World.cell?_alloc_past x b o (cell_lt h)).trans h
theorem keepB {W w1 : World} (hb : Below W.heap.size W w1) {b o : Nat} {v : Value} (h : W.cell? ⟨b, o, none⟩ = some v) : w1.cell? ⟨b, o, none⟩ = some v :=
  (hb.cell (p := ⟨b, o, none⟩) (cell_lt h)).trans h
theorem Ext.keep {S : Nat → Prop} {W w1 : World} (hb : Ext S W w1) {b o : Nat} {v : Value} (h : W.cell? ⟨b, o, none⟩ = some v) (hn : ¬ S b) : w1.cell? ⟨b, o, none⟩ = some v :=
  (hb.cell (p := ⟨b, o, none⟩) (cell_lt h) hn).trans h
section maps
variable {K V : Type} [DecidableEq K]
def aget : List (K × V) → K → Option V
  | [], _ => none
  | (k', v) :: r, k => if k' = k then some v else aget r k
def aset : List (K × V) → K → V → List (K × V)
  | [], k, v => [(k, v)]
  | (k', v') :: r, k, v => if k' = k then (k', v) :: r else (k', v') :: aset r k v
def adel : List (K × V) → K → List (K × V)
  | [], _ => []
  | (k', v') :: r, k => if k' = k then r else (k', v') :: adel r k
def aidx : List (K × V) → K → Option Nat
  | [], _ => none
  | (k', _) :: r, k => if k' = k then some 0 else (aidx r k).map (· + 1)
theorem aidx_none {l : List (K × V)} {k : K} (h : aidx l k = none) : aget l k = none := by
  induction l with
  | nil => rfl
  | cons p r ih =>
    obtain ⟨k', v⟩ := p
    simp only [aidx] at h
    split at h
    · cases h
    · rename_i hne
      simp only [aget, hne, if_false]
      exact ih (by simpa using h)
theorem aidx_some {l : List (K × V)} {k : K} {i : Nat} (h : aidx l k = some i) : ∃ v, l[i]? = some (k, v) ∧ aget l k = some v := by
  induction l generalizing i with
  | nil => cases h
  | cons p r ih =>
    obtain ⟨k', v⟩ := p
    simp only [aidx] at h
    split at h
    · rename_i he
      cases h
      exact ⟨v, by simp [he], by simp [aget, he]⟩
    · rename_i hne
      cases hi : aidx r k with
      | none => rw [hi] at h; cases h
      | some j =>
        rw [hi] at h
        cases h
        obtain ⟨u, h1, h2⟩ := ih hi
        exact ⟨u, by simpa using h1, by simpa [aget, hne] using h2⟩
theorem aset_none {l : List (K × V)} {k : K} {v : V} (h : aidx l k = none) : aset l k v = l ++ [(k, v)] := by
  induction l with
  | nil => rfl
  | cons p r ih =>
    obtain ⟨k', v'⟩ := p
    simp only [aidx] at h
    split at h
    · cases h
    · rename_i hne
      simp only [aset, hne, if_false, List.cons_append]
      rw [ih (by simpa using h)]
theorem aset_some {l : List (K × V)} {k : K} {v : V} {i : Nat} (h : aidx l k = some i) : aset l k v = l.set i (k, v) := by
  induction l generalizing i with
  | nil => cases h
  | cons p r ih =>
    obtain ⟨k', v'⟩ := p
    simp only [aidx] at h
    split at h
    · rename_i he
      cases h
      simp [aset, he]
    · rename_i hne
      cases hi : aidx r k with
      | none => rw [hi] at h; cases h
      | some j =>
        rw [hi] at h
        cases h
        simp [aset, hne, ih hi]
theorem adel_none {l : List (K × V)} {k : K} (h : aidx l k = none) : adel l k = l := by
  induction l with
  | nil => rfl
  | cons p r ih =>
    obtain ⟨k', v'⟩ := p
    simp only [aidx] at h
    split at h
    · cases h
    · rename_i hne
      simp only [adel, hne, if_false]
      rw [ih (by simpa using h)]
theorem adel_some {l : List (K × V)} {k : K} {i : Nat} (h : aidx l k = some i) : adel l k = l.eraseIdx i := by
  induction l generalizing i with
  | nil => cases h
  | cons p r ih =>
    obtain ⟨k', v'⟩ := p
    simp only [aidx] at h
    split at h
    · rename_i he
      cases h
      simp [adel, he]
    · rename_i hne
      cases hi : aidx r k with
      | none => rw [hi] at h; cases h
      | some j =>
        rw [hi] at h
        cases h
        simp [adel, hne, ih hi]
theorem aget_aset_same (l : List (K × V)) (k : K) (v : V) : aget (aset l k v) k = some v := by
  induction l with
  | nil => simp [aset, aget]
  | cons p r ih =>
    obtain ⟨k', v'⟩ := p
    by_cases h : k' = k <;> simp [aset, aget, h, ih]
theorem aget_aset_other (l : List (K × V)) {k j : K} (v : V) (h : k ≠ j) : aget (aset l k v) j = aget l j := by
  induction l with
  | nil => simp [aset, aget, h]
  | cons p r ih =>
    obtain ⟨k', v'⟩ := p
    by_cases h1 : k' = k
    · subst h1; simp [aset, aget, h]
    · simp only [aset, if_neg h1, aget, ih]
theorem aset_keys (l : List (K × V)) (k : K) (v : V) : ∀ x, x ∈ (aset l k v).map (·.1) ↔ x = k ∨ x ∈ l.map (·.1) := by
  intro x
  induction l with
  | nil => simp [aset]
  | cons p r ih =>
    obtain ⟨k', v'⟩ := p
    by_cases h1 : k' = k
    · subst h1; simp [aset]
    · simp only [aset, h1, if_false, List.map_cons, List.mem_cons, ih]
      constructor
      · rintro (h | h | h)
        · exact .inr (.inl h)
        · exact .inl h
        · exact .inr (.inr h)
      · rintro (h | h | h)
        · exact .inr (.inl h)
        · exact .inl h
        · exact .inr (.inr h)
theorem aset_nodup (l : List (K × V)) (k : K) (v : V) (h : (l.map (·.1)).Nodup) : ((aset l k v).map (·.1)).Nodup := by
  induction l with
  | nil => simp [aset]
  | cons p r ih =>
    obtain ⟨k', v'⟩ := p
    by_cases h1 : k' = k
    · subst h1; simpa [aset] using h
    · simp only [aset, if_neg h1, List.map_cons, List.nodup_cons] at h ⊢
      refine ⟨fun hm => ?_, ih h.2⟩
      rcases (aset_keys r k v k').1 hm with e | e
      · exact absurd e h1
      · exact h.1 e
theorem adel_sub (l : List (K × V)) (k : K) : (adel l k).Sublist l := by
  induction l with
  | nil => exact List.Sublist.refl _
  | cons p r ih =>
    obtain ⟨k', v'⟩ := p
    by_cases h1 : k' = k
    · simp [adel, h1]
    · simp only [adel, h1, if_false]; exact ih.cons_cons _
theorem adel_nodup (l : List (K × V)) (k : K) (h : (l.map (·.1)).Nodup) : ((adel l k).map (·.1)).Nodup := List.Sublist.nodup ((adel_sub l k).map _) h
theorem aget_none_iff (l : List (K × V)) (k : K) : aget l k = none ↔ k ∉ l.map (·.1) := by
  induction l with
  | nil => simp [aget]
  | cons p r ih =>
    obtain ⟨k', v'⟩ := p
    by_cases h1 : k' = k
    · simp [aget, h1]
    · simp only [aget, h1, if_false, List.map_cons, List.mem_cons, not_or, ih]
      exact ⟨fun h => ⟨fun e => h1 e.symm, h⟩, fun h => h.2⟩
theorem aget_mem {l : List (K × V)} {k : K} {v : V} (h : aget l k = some v) : (k, v) ∈ l := by
  induction l with
  | nil => cases h
  | cons p r ih =>
    obtain ⟨k', v'⟩ := p
    by_cases h1 : k' = k
    · simp only [aget, h1, if_true] at h; cases h; simp [h1]
    · simp only [aget, h1, if_false] at h; exact List.mem_cons_of_mem _ (ih h)
theorem aget_adel_same (l : List (K × V)) (k : K) (hn : (l.map (·.1)).Nodup) : aget (adel l k) k = none := by
  induction l with
  | nil => rfl
  | cons p r ih =>
    obtain ⟨k', v'⟩ := p
    simp only [List.map_cons, List.nodup_cons] at hn
    by_cases h1 : k' = k
    · subst h1; simp only [adel, if_true]; exact (aget_none_iff _ _).2 hn.1
    · simp only [adel, aget, h1, if_false]; exact ih hn.2
theorem aget_adel_other (l : List (K × V)) {k j : K} (h : k ≠ j) : aget (adel l k) j = aget l j := by
  induction l with
  | nil => rfl
  | cons p r ih =>
    obtain ⟨k', v'⟩ := p
    by_cases h1 : k' = k
    · subst h1; simp [adel, aget, h]
    · simp only [adel, if_neg h1, aget, ih]
theorem aset_length_le (l : List (K × V)) (k : K) (v : V) : (aset l k v).length ≤ l.length + 1 := by
  induction l with
  | nil => simp [aset]
  | cons p r ih =>
    obtain ⟨k', v'⟩ := p
    by_cases h1 : k' = k
    · simp [aset, h1]
    · simp [aset, h1]; omega
structure KeyTy (P : Program) (kt : TypeId) (ek : K → Value) : Prop where
  check : ∀ (em : Bool) (k : K) (w : World), (Instr.checkKey em 10000 kt (ek k)).run P w = .ok () w
  find : ∀ (k : K) (es : List MapEntry) (l : List (K × V)) (w : World), es.map (·.key) = l.map (fun p => ek p.1) →
    (Instr.findKey kt (ek k) es).run P w = .ok ((aidx l k).map fun i => (i, ((es[i]?).map (·.val)).getD undef)) w
  stays : ∀ (k : K) (w : World), (Instr.keyThatStays (ek k) (ek k)).run P w = .ok (ek k) w
def MapIs (ek : K → Value) (ev : V → Value) (w : World) (b : Nat) (l : List (K × V)) : Prop :=
  (l.map (·.1)).Nodup ∧ ∃ es clock, w.heap[b]? = some (.map es clock) ∧ es.toList.map (·.key) = l.map (fun p => ek p.1) ∧ es.toList.map (·.val) = l.map (fun p => ev p.2) ∧
    es.toList.Pairwise (fun x y => x.born < y.born) ∧ ∀ e ∈ es.toList, e.born < clock
variable {ek : K → Value} {ev : V → Value} {w : World} {b : Nat} {l : List (K × V)}
theorem MapIs.of_block {w' : World} (h : MapIs ek ev w b l) (hb : w'.heap[b]? = w.heap[b]?) : MapIs ek ev w' b l := by
  obtain ⟨hn, es, clock, h1, h2⟩ := h
  exact ⟨hn, es, clock, hb.trans h1, h2⟩
theorem MapIs.lt (h : MapIs ek ev w b l) : b < w.heap.size := by
  obtain ⟨hn, es, clock, h1, h2⟩ := h
  exact (Array.getElem?_eq_some_iff.1 h1).1
theorem MapIs.drew (h : MapIs ek ev w b l) : MapIs ek ev w.drew b l := h
theorem MapIs.alloc (h : MapIs ek ev w b l) (o : Obj) : MapIs ek ev (w.alloc o) b l := h.of_block (Below.heap_alloc _ _ _ h.lt)
theorem MapIs.setCell (h : MapIs ek ev w b l) (p : Addr) (v : Value) : MapIs ek ev (w.setCell p v) b l := by
  obtain ⟨hn, es, clock, h1, h2⟩ := h
  refine ⟨hn, es, clock, ?_, h2⟩
  simp only [World.setCell, Array.getElem?_modify]
  split
  · rename_i e
    subst e
    rw [h1]
    rfl
  · exact h1
theorem MapIs.ext {S : Nat → Prop} {w' : World} (h : MapIs ek ev w b l) (hx : Ext S w w') (hn : ¬ S b) : MapIs ek ev w' b l := h.of_block (hx.block b h.lt hn)
theorem MapIs.made (w : World) : MapIs ek ev (w.alloc (.map #[] 0)) w.heap.size ([] : List (K × V)) :=
  ⟨List.nodup_nil, #[], 0, by show (w.heap.push _)[w.heap.size]? = _; simp, rfl, rfl, List.Pairwise.nil, by simp⟩
theorem run_getObj_map' {P : Program} {es : Array MapEntry} {clock : Nat} (h : w.heap[b]? = some (.map es clock)) : (getObj b).run P w = .ok (.map es clock) w := MapKept.run_getObj_map h
theorem MapIs.lookup {P : Program} {mt kt et : TypeId} (h : MapIs ek ev w b l) (hk : KeyTy (V := V) P kt ek) (hm : P.underlying mt = some (.map kt et)) {z : Value} (hz : ∀ w, (zeroValue et).run P w = .ok z w) (k : K) :
    (Instr.lookup mt (.map (some b)) (ek k) false).run P w = .ok (((aget l k).map ev).getD z) w := by
  obtain ⟨hn, es, clock, h1, h2, h3, h4⟩ := h
  have hf := hk.find k es.toList l w h2
  cases hi : aidx l k with
  | none =>
    have h0 := aidx_none hi
    rw [hi] at hf
    simp [Instr.lookup, run_underlying hm, run_getObj_map' h1, hk.check, hf, hz, h0, Result.andThen]
  | some i =>
    obtain ⟨v, e1, e2⟩ := aidx_some hi
    have hv : es.toList[i]?.map (·.val) = some (ev v) := by
      have := congrArg (fun l : List Value => l[i]?) h3
      simpa [e1] using this
    rw [hi] at hf
    simp only [Array.getElem?_toList] at hf hv
    simp [Instr.lookup, run_underlying hm, run_getObj_map' h1, hk.check, hf, e2, Result.andThen]
    rw [show es[i]?.map (·.val) = some (ev v) from hv]
    rfl
def mapPut (w : World) (b : Nat) (i : Option Nat) (k v : Value) : World :=
  match w.heap[b]? with
  | some (.map es clock) => match i with
    | some i => { w with heap := w.heap.setIfInBounds b (.map (es.modify i fun e => { e with key := k, val := v }) clock) }
    | none => { w with heap := w.heap.setIfInBounds b (.map (es.push { key := k, val := v, born := clock }) (clock + 1)) }
  | _ => w
def mapDel (w : World) (b : Nat) (i : Option Nat) : World :=
  match w.heap[b]? with
  | some (.map es clock) => match i with
    | some i => { w with heap := w.heap.setIfInBounds b (.map (es.eraseIdxIfInBounds i) clock) }
    | none => w
  | _ => w
theorem mapPut_size (w : World) (b : Nat) (i : Option Nat) (k v : Value) : (mapPut w b i k v).heap.size = w.heap.size := by
  unfold mapPut; split
  · split <;> simp
  · rfl
theorem mapPut_block (w : World) (b : Nat) (i : Option Nat) (k v : Value) (c : Nat) (h : c ≠ b) : (mapPut w b i k v).heap[c]? = w.heap[c]? := by
  unfold mapPut; split
  · split <;> simp [Array.getElem?_setIfInBounds, h.symm]
  · rfl
theorem mapPut_drew (w : World) (b : Nat) (i : Option Nat) (k v : Value) : mapPut w.drew b i k v = (mapPut w b i k v).drew := by
  unfold mapPut
  show (match w.heap[b]? with | some (.map es clock) => _ | _ => _) = _
  split
  · split <;> rfl
  · rfl
theorem mapPut_cell (w : World) (b : Nat) (i : Option Nat) (k v : Value) (a : Addr) : (mapPut w b i k v).cell? a = w.cell? a := by
  by_cases h : a.block = b
  · subst h
    unfold mapPut
    split
    · rename_i es clock hb
      split <;> (simp only [World.cell?, Array.getElem?_setIfInBounds, if_true, hb]; split <;> simp_all)
    · rfl
  · exact World.cell?_of_block (w := w) (mapPut_block w b i k v _ h)
theorem mapPut_frozen (w : World) (b : Nat) (i : Option Nat) (k v : Value) (a : Addr) : (mapPut w b i k v).frozen? a = w.frozen? a := by
  by_cases h : a.block = b
  · subst h
    unfold mapPut
    split
    · rename_i es clock hb
      split <;> (simp only [World.frozen?, Array.getElem?_setIfInBounds, if_true, hb]; split <;> simp_all)
    · rfl
  · exact World.frozen?_of_block (w := w) (mapPut_block w b i k v _ h)
theorem mapDel_size (w : World) (b : Nat) (i : Option Nat) : (mapDel w b i).heap.size = w.heap.size := by
  unfold mapDel; split
  · split <;> simp
  · rfl
theorem mapDel_block (w : World) (b : Nat) (i : Option Nat) (c : Nat) (h : c ≠ b) : (mapDel w b i).heap[c]? = w.heap[c]? := by
  unfold mapDel; split
  · split <;> simp [Array.getElem?_setIfInBounds, h.symm]
  · rfl
theorem mapDel_cell (w : World) (b : Nat) (i : Option Nat) (a : Addr) : (mapDel w b i).cell? a = w.cell? a := by
  by_cases h : a.block = b
  · subst h
    unfold mapDel
    split
    · rename_i es clock hb
      split <;> (simp only [World.cell?, Array.getElem?_setIfInBounds, if_true, hb]; try (split <;> simp_all))
    · rfl
  · exact World.cell?_of_block (w := w) (mapDel_block w b i _ h)
theorem mapDel_frozen (w : World) (b : Nat) (i : Option Nat) (a : Addr) : (mapDel w b i).frozen? a = w.frozen? a := by
  by_cases h : a.block = b
  · subst h
    unfold mapDel
    split
    · rename_i es clock hb
      split <;> (simp only [World.frozen?, Array.getElem?_setIfInBounds, if_true, hb]; try (split <;> simp_all))
    · rfl
  · exact World.frozen?_of_block (w := w) (mapDel_block w b i _ h)
theorem mapDel_drew (w : World) (b : Nat) (i : Option Nat) : mapDel w.drew b i = (mapDel w b i).drew := by
  unfold mapDel
  show (match w.heap[b]? with | some (.map es clock) => _ | _ => _) = _
  split
  · split <;> rfl
  · rfl
theorem mapPut_ext (w : World) (b : Nat) (i : Option Nat) (k v : Value) : Ext (· = b) w (mapPut w b i k v) := by
  refine ⟨?_, ?_, ?_, Nat.le_of_eq (mapPut_size w b i k v).symm, fun c _ h => mapPut_block w b i k v c h⟩ <;> (unfold mapPut; split <;> (try split) <;> rfl)
theorem mapDel_ext (w : World) (b : Nat) (i : Option Nat) : Ext (· = b) w (mapDel w b i) := by
  refine ⟨?_, ?_, ?_, Nat.le_of_eq (mapDel_size w b i).symm, fun c _ h => mapDel_block w b i c h⟩ <;> (unfold mapDel; split <;> (try split) <;> rfl)
theorem Ext.mapPut {S : Nat → Prop} {a w : World} (h : Ext S a w) {b : Nat} (hb : S b ∨ a.heap.size ≤ b) (i : Option Nat) (k v : Value) : Ext S a (mapPut w b i k v) :=
  h.andThen (mapPut_ext w b i k v) (fun j hj e => by rcases hb with hb | hb; exact e ▸ hb; exact absurd hj (by omega))
theorem Ext.mapDel {S : Nat → Prop} {a w : World} (h : Ext S a w) {b : Nat} (hb : S b ∨ a.heap.size ≤ b) (i : Option Nat) : Ext S a (mapDel w b i) :=
  h.andThen (mapDel_ext w b i) (fun j hj e => by rcases hb with hb | hb; exact e ▸ hb; exact absurd hj (by omega))
theorem MapIs.update {P : Program} {mt kt et : TypeId} (h : MapIs ek ev w b l) (hk : KeyTy (V := V) P kt ek) (hm : P.underlying mt = some (.map kt et)) (k : K) (v : Value) :
    (Instr.mapUpdate mt (.map (some b)) (ek k) v).run P w = .ok () (mapPut w b (aidx l k) (ek k) v) := by
  obtain ⟨hn, es, clock, h1, h2, h3, h4⟩ := h
  have hf := hk.find k es.toList l w h2
  cases hi : aidx l k with
  | none =>
    rw [hi] at hf
    simp [Instr.mapUpdate, run_underlying hm, run_getObj_map' h1, hk.check, hf, Result.andThen, MapKept.run_setObj_map _ h1, mapPut, h1]
  | some i =>
    obtain ⟨u, e1, e2⟩ := aidx_some hi
    have hv : es.toList[i]?.map (·.key) = some (ek k) := by
      have := congrArg (fun l : List Value => l[i]?) h2
      simpa [e1] using this
    rw [hi] at hf
    simp only [Array.getElem?_toList] at hf hv
    simp [Instr.mapUpdate, run_underlying hm, run_getObj_map' h1, hk.check, hf, hv, hk.stays, Result.andThen, MapKept.run_setObj_map _ h1, mapPut, h1]
theorem MapIs.put (h : MapIs ek ev w b l) (k : K) (v : V) : MapIs ek ev (mapPut w b (aidx l k) (ek k) (ev v)) b (aset l k v) := by
  refine ⟨aset_nodup l k v h.1, ?_⟩
  have hlt := h.lt
  obtain ⟨hn, es, clock, h1, h2, h3, h4, h5⟩ := h
  cases hi : aidx l k with
  | none =>
    refine ⟨es.push { key := ek k, val := ev v, born := clock }, clock + 1, ?_, ?_, ?_, ?_, ?_⟩
    · simp only [mapPut, h1]; rw [Array.getElem?_setIfInBounds_self_of_lt hlt]
    · simp [aset_none hi, h2]
    · simp [aset_none hi, h3]
    · rw [Array.toList_push, List.pairwise_append]
      refine ⟨h4, List.pairwise_singleton _ _, fun x hx y hy => ?_⟩
      rw [List.mem_singleton.1 hy]
      exact h5 x hx
    · intro e he
      rw [Array.toList_push, List.mem_append] at he
      rcases he with he | he
      · exact Nat.lt_succ_of_lt (h5 e he)
      · rw [List.mem_singleton.1 he]; exact Nat.lt_succ_self _
  | some i =>
    obtain ⟨u, e1, e2⟩ := aidx_some hi
    have hset : ∀ e, es.toList[i]? = some e → (es.modify i fun e => { e with key := ek k, val := ev v }).toList = es.toList.set i { e with key := ek k, val := ev v } := fun e he => by
      rw [Array.toList_modify, ChangeMaps.modify_eq_set _ _ _ _ he]
    obtain ⟨e0, he0⟩ : ∃ e, es.toList[i]? = some e := by
      have := congrArg (fun l : List Value => l[i]?) h2
      simp only [List.getElem?_map, e1] at this
      cases hx : es.toList[i]? with
      | none => rw [hx] at this; cases this
      | some e => exact ⟨e, rfl⟩
    refine ⟨es.modify i fun e => { e with key := ek k, val := ev v }, clock, ?_, ?_, ?_, ?_, ?_⟩
    · simp only [mapPut, h1]; rw [Array.getElem?_setIfInBounds_self_of_lt hlt]
    · rw [hset e0 he0, List.map_set, h2, aset_some hi, List.map_set]
    · rw [hset e0 he0, List.map_set, h3, aset_some hi, List.map_set]
    · rw [hset e0 he0]
      have : (es.toList.set i { e0 with key := ek k, val := ev v }).map (·.born) = es.toList.map (·.born) := by
        rw [List.map_set]
        refine List.ext_getElem? fun j => ?_
        rw [List.getElem?_set]
        split
        · rename_i hij
          subst hij
          split
          · simp [he0]
          · rename_i hl
            simp only [List.length_map] at hl
            rw [List.getElem?_eq_none (by simpa using hl)]
        · rfl
      have hp : ((es.toList.set i { e0 with key := ek k, val := ev v }).map (·.born)).Pairwise (· < ·) := by rw [this]; exact List.pairwise_map.2 h4
      exact List.pairwise_map.1 hp
    · intro e he
      rw [hset e0 he0] at he
      rcases List.mem_or_eq_of_mem_set he with he | he
      · exact h5 e he
      · rw [he]; exact h5 e0 (List.mem_of_getElem? he0)
theorem MapIs.delete {P : Program} {mt kt et ty : TypeId} (h : MapIs ek ev w b l) (hk : KeyTy (V := V) P kt ek) (hm : P.underlying mt = some (.map kt et)) (k : K) :
    (Builtin.delete_ #[mt, kt] ty #[.map (some b), ek k]).run P w = .ok (.tuple #[]) (mapDel w b (aidx l k)) := by
  obtain ⟨hn, es, clock, h1, h2, h3, h4⟩ := h
  have hf := hk.find k es.toList l w h2
  have hlt := (Array.getElem?_eq_some_iff.1 h1)
  cases hi : aidx l k with
  | none =>
    rw [hi] at hf
    have : ({ w with heap := w.heap.setIfInBounds b (.map es clock) } : World) = w := by
      have e : w.heap.setIfInBounds b (.map es clock) = w.heap := by
        apply Array.ext_getElem?
        intro j
        rw [Array.getElem?_setIfInBounds]
        split
        · rename_i e; subst e; rw [if_pos hlt.1, h1]
        · rfl
      rw [e]
    simp [Builtin.delete_, run_underlying hm, run_getObj_map' h1, hk.check, hf, Result.andThen, MapKept.run_setObj_map _ h1, mapDel, h1, this]
  | some i =>
    rw [hi] at hf
    simp [Builtin.delete_, run_underlying hm, run_getObj_map' h1, hk.check, hf, Result.andThen, MapKept.run_setObj_map _ h1, mapDel, h1]
theorem MapIs.del (h : MapIs ek ev w b l) (k : K) : MapIs ek ev (mapDel w b (aidx l k)) b (adel l k) := by
  refine ⟨adel_nodup l k h.1, ?_⟩
  have hlt := h.lt
  obtain ⟨hn, es, clock, h1, h2, h3, h4, h5⟩ := h
  cases hi : aidx l k with
  | none => exact ⟨es, clock, by simp [mapDel, h1], by rw [adel_none hi]; exact h2, by rw [adel_none hi]; exact h3, h4, h5⟩
  | some i =>
    have hl : i < es.size := by
      obtain ⟨u, e1, _⟩ := aidx_some hi
      have := congrArg List.length h2
      have h6 := (List.getElem?_eq_some_iff.1 e1).1
      simp at this
      omega
    have e3 : (es.eraseIdxIfInBounds i).toList = es.toList.eraseIdx i := by
      simp [Array.eraseIdxIfInBounds, hl]
    refine ⟨es.eraseIdxIfInBounds i, clock, by simp only [mapDel, h1]; rw [Array.getElem?_setIfInBounds_self_of_lt hlt], ?_, ?_, ?_, ?_⟩
    · rw [e3, adel_some hi, ChangeMaps.map_eraseIdx, h2, ChangeMaps.map_eraseIdx]
    · rw [e3, adel_some hi, ChangeMaps.map_eraseIdx, h3, ChangeMaps.map_eraseIdx]
    · rw [e3]; exact List.Pairwise.sublist (List.eraseIdx_sublist _ _) h4
    · intro e he; rw [e3] at he; exact h5 e (List.mem_of_mem_eraseIdx he)
end maps
end Go.Proofs.YtgmdimbiipemhaaGreatDoor
namespace Go.Proofs.YtgmdimbiipemhaaGreatDoor
open Go.ChangeShapes Go.WideShapes Go.RowKit Go.Deep
theorem Tryz.own : ownKnob Tryz.prog.godebug = none := by kernel_rfl
theorem Tryz.laidOut : laidOutB Tryz.prog = true := by kernel_rfl
theorem list_of_all {α : Type} {p : Nat → α → Prop} : ∀ (n : Nat), (∀ i, i < n → ∃ x, p i x) → ∃ l : List α, l.length = n ∧ ∀ i x, l[i]? = some x → p i x
  | 0, _ => ⟨[], rfl, fun i x h => by simp at h⟩
  | n + 1, h => by
    obtain ⟨l, hl, hp⟩ := list_of_all n (fun i hi => h i (by omega))
    obtain ⟨x, hx⟩ := h n (by omega)
    refine ⟨l ++ [x], by simp [hl], fun i y hy => ?_⟩
    by_cases hi : i < n
    · rw [List.getElem?_append_left (by omega)] at hy
      exact hp i y hy
    · rw [List.getElem?_append_right (by omega)] at hy
      have : i - l.length = 0 := by
        have := (List.getElem?_eq_some_iff.1 hy).1
        simp at this; omega
      rw [this] at hy
      cases hy
      have : i = n := by omega
      subst this
      exact hx
def SliceIs {α : Type} (enc : α → List Value) (k : Nat) (w : World) (v : Value) (l : List α) : Prop :=
  ∃ a cap, v = .slice a l.length cap ∧ l.length ≤ cap ∧ cap ≤ maxLen ∧ (l ≠ [] → ∃ b off, a = some ⟨b, off, none⟩ ∧ ∀ i x, l[i]? = some x → ∀ j u, (enc x)[j]? = some u → w.cell? ⟨b, off + i * k + j, none⟩ = some u)
theorem SliceIs.of {α : Type} {enc : α → List Value} {k : Nat} {w w' : World} {v : Value} {l : List α} (h : SliceIs enc k w v l) (hb : ∀ b o u, w.cell? ⟨b, o, none⟩ = some u → w'.cell? ⟨b, o, none⟩ = some u) : SliceIs enc k w' v l := by
  obtain ⟨a, cap, h1, h2, h3, h4⟩ := h
  refine ⟨a, cap, h1, h2, h3, fun hl => ?_⟩
  obtain ⟨b, off, h5, h6⟩ := h4 hl
  exact ⟨b, off, h5, fun i x hi j u hj => hb _ _ _ (h6 i x hi j u hj)⟩
theorem SliceIs.below {α : Type} {enc : α → List Value} {k : Nat} {w w' : World} {v : Value} {l : List α} (h : SliceIs enc k w v l) (hb : Below w.heap.size w w') : SliceIs enc k w' v l := h.of (fun _ _ _ hu => keepB hb hu)
section
variable {H : Type} {enc : TypeId × Value → H} {P : Program} {w : World} {base : Nat} {spare : Nat → Bool} {held : Bool}
end
section
variable {H : Type} {enc : TypeId × Value → H} {w : World} {base : Nat} {spare : Nat → Bool} {held : Bool}
end
end Go.Proofs.YtgmdimbiipemhaaGreatDoor
namespace Go.Proofs.YtgmdimbiipemhaaGreatDoor
open Go.RowKit
def Own {α : Type} (ea : α → List Value) (k : Nat) (e : TypeId) (base : Nat) (w : World) (v : Value) (l : List α) : Prop := w.ownsRow base e k v l.length (l.flatMap ea)
section
variable {α : Type} {ea : α → List Value} {k : Nat} {e : TypeId} {base : Nat} {w : World} {v : Value} {l : List α}
theorem length_flatMap_k (hk : ∀ x, (ea x).length = k) : ∀ l : List α, (l.flatMap ea).length = l.length * k
  | [] => by simp
  | x :: l => by rw [List.flatMap_cons, List.length_append, hk, length_flatMap_k hk l, List.length_cons, Nat.add_mul, Nat.one_mul, Nat.add_comm]
theorem getElem?_flatMap_k (hk : ∀ x, (ea x).length = k) : ∀ (l : List α) (i : Nat) (x : α), l[i]? = some x → ∀ j u, (ea x)[j]? = some u → (l.flatMap ea)[i * k + j]? = some u
  | [], i, x, h, _, _, _ => by simp at h
  | y :: l, 0, x, h, j, u, hj => by
    simp at h
    subst h
    have := (List.getElem?_eq_some_iff.1 hj).1
    rw [List.flatMap_cons, Nat.zero_mul, Nat.zero_add, List.getElem?_append_left this]
    exact hj
  | y :: l, i + 1, x, h, j, u, hj => by
    have ih := getElem?_flatMap_k hk l i x (by simpa using h) j u hj
    rw [List.flatMap_cons, List.getElem?_append_right (by rw [hk, Nat.add_mul]; omega), hk]
    have : (i + 1) * k + j - k = i * k + j := by rw [Nat.add_mul]; omega
    rw [this]
    exact ih
theorem Own.nil : Own ea k e base w (.slice none 0 0) ([] : List α) := ⟨by simp, .inl ⟨rfl, rfl⟩⟩
theorem Own.alloc (h : Own ea k e base w v l) (o : Obj) : Own ea k e base (w.alloc o) v l := World.ownsRow.alloc h o
theorem Own.blk (h : Own ea k e base w v l) : ∀ b, v.ownBlock = some b → base ≤ b ∧ b < w.heap.size := World.ownsRow.lt h
theorem Own.ext {S : Nat → Prop} {w' : World} (h : Own ea k e base w v l) (hx : Ext S w w') (hn : ∀ b, v.ownBlock = some b → ¬ S b) : Own ea k e base w' v l := by
  obtain ⟨h1, h2⟩ := h
  refine ⟨h1, h2.imp id ?_⟩
  rintro ⟨g, cap, cur, hv, hb, hg, h3⟩
  have hlt := (Array.getElem?_eq_some_iff.1 hg).1
  exact ⟨g, cap, cur, hv, hb, (hx.block g hlt (hn g (by rw [hv]; rfl))).trans hg, h3⟩
theorem Own.mono {b' : Nat} (h : Own ea k e base w v l) (hb : b' ≤ base) : Own ea k e b' w v l := by
  obtain ⟨h1, h2⟩ := h
  refine ⟨h1, h2.imp id ?_⟩
  rintro ⟨g, cap, cur, hv, hb', h3⟩
  exact ⟨g, cap, cur, hv, by omega, h3⟩
theorem Own.slice (h : Own ea k e base w v l) (hk : ∀ x, (ea x).length = k) : SliceIs ea k w v l := by
  have h0 := h
  obtain ⟨h1, h2⟩ := h
  rcases h2 with ⟨rfl, hn⟩ | ⟨g, cap, cur, rfl, hb, hg, hnc, hcm, hcs, htake⟩
  · have : l = [] := List.eq_nil_of_length_eq_zero hn
    subst this
    exact ⟨none, 0, rfl, Nat.le_refl _, Nat.zero_le _, fun hne => absurd rfl hne⟩
  · refine ⟨some ⟨g, 0, none⟩, cap, rfl, hnc, hcm, fun _ => ⟨g, 0, rfl, fun i x hi j u hj => ?_⟩⟩
    have hil := (List.getElem?_eq_some_iff.1 hi).1
    have hjl := (List.getElem?_eq_some_iff.1 hj).1
    rw [hk] at hjl
    have hlt : i * k + j < l.length * k := by
      have := Nat.mul_le_mul_right k (show i + 1 ≤ l.length from hil)
      rw [Nat.add_mul, Nat.one_mul] at this
      omega
    have := World.ownsRow.cellAt h0 (i * k + j) hlt
    rw [getElem?_flatMap_k hk l i x hi j u hj] at this
    rw [Nat.zero_add]
    exact this
theorem Own.tag (h : Own ea k e base w v l) {b : Nat} (hb : v.ownBlock = some b) : ∃ cur, w.heap[b]? = some (.cells cur e (0, 0)) := by
  obtain ⟨_, h3⟩ := h
  rcases h3 with ⟨h3, _⟩ | ⟨g, cap, cur, h3, _, hg, _⟩
  · rw [h3] at hb; cases hb
  · rw [h3] at hb; cases hb; exact ⟨cur, hg⟩
theorem Own.eq_slice (h : Own ea k e base w v l) : (v = .slice none 0 0 ∧ l = []) ∨ ∃ g cap, v = .slice (some ⟨g, 0, none⟩) l.length cap ∧ base ≤ g ∧ g < w.heap.size := by
  obtain ⟨h1, h2⟩ := h
  rcases h2 with ⟨rfl, hn⟩ | ⟨g, cap, cur, rfl, hb, hg, h3⟩
  · exact .inl ⟨rfl, List.eq_nil_of_length_eq_zero hn⟩
  · exact .inr ⟨g, cap, rfl, hb, (Array.getElem?_eq_some_iff.1 hg).1⟩
theorem Ext.of_grown {w w' : World} {row : Option Nat} (h : w.grownBy w' row) : Ext (fun b => row = some b) w w' :=
  ⟨h.os, h.tape, h.output, h.size, fun b hb hn => h.block b hb (fun e => hn e.symm)⟩
theorem wpList_append_struct {P : Program} {ops : Array Oper} {rest : List Oper} {o : Oper} {a : Act} {Q : Exit → Act → World → Prop} (hgd : o.guard = none) (s x : Operand) (t : TypeId)
    (ho : o.op = .call { callee := .builtin .append, args := #[s, x], argTypes := #[t, t] })
    (i : TypeInfo) (z : Value) (bytes : Nat) (ht : P.underlying t = some (.slice e)) (hi : P.info? e = some i) (hz : i.zero = some z)
    (hsize : i.size = k) (hby : i.bytes = bytes) (hzs : z.cells.size = k) (hk0 : 0 < k) (hk : ∀ x, (ea x).length = k) (h1 : ∀ x, ∀ u ∈ ea x, u.oneCell' = true)
    (hs : a.eval s = v) (hown : Own ea k e base w v l) (y : α) (nb c : Nat) (hx : a.eval x = .slice (some ⟨nb, 0, none⟩) 1 c) (hnews : ∀ j u, (ea y)[j]? = some u → w.cell? ⟨nb, j, none⟩ = some u)
    (h63 : l.length + 1 ≤ maxLen) (hbytes : (l.length + 1) * bytes ≤ 140737488355328) (hbase : base ≤ w.heap.size)
    (h : ∀ v' w', Own ea k e base w' v' (l ++ [y]) → Ext (fun b => v.ownBlock = some b) w w' → wpList P ops Q rest (a.put o.dst v') w') : wpList P ops Q (o :: rest) a w := by
  refine wpList_append_own w hgd s x t ho base e i z k bytes ht hi hz hsize hby hzs hk0 v l.length (l.flatMap ea) hs hown ⟨nb, 0, none⟩ 1 c (ea y) hx (by rw [hk, Nat.one_mul]) (fun j u hj => ?_) (h1 y) h63 hbytes hbase (fun v' w' h2 h3 _ => h v' w' ?_ (Ext.of_grown h3))
  · have := hnews j u hj
    rw [show (Addr.add ⟨nb, 0, none⟩ j) = ⟨nb, j, none⟩ from by unfold Addr.add; split <;> simp_all]
    exact this
  · unfold Own
    rw [List.length_append, List.flatMap_append]
    simpa using h2
end
end Go.Proofs.YtgmdimbiipemhaaGreatDoor
namespace Go.Proofs.YtgmdimbiipemhaaGreatDoor
open Go.RowKit Go.Deep
structure OpD where
  id : St
  d0 : Int
  d1 : Int
  d2 : Int
  d3 : Int
  d4 : Int
  d5 : Int
  d6 : Int
  d7 : Int
  kind : Int
  ref : St
  side : Int
  ch : Int
  under : St
  key : ByteArray
  name : ByteArray
  value : ByteArray
  fr : St
  fa : Bool
  tr : St
  ta : Bool
  deriving DecidableEq
def OpD.cells (x : OpD) : List Value := [.int .i64 x.id.n, .int .i64 x.id.r, .int .i64 x.d0, .int .i64 x.d1, .int .i64 x.d2, .int .i64 x.d3, .int .i64 x.d4, .int .i64 x.d5, .int .i64 x.d6, .int .i64 x.d7, .int .i64 x.kind, .int .i64 x.ref.n, .int .i64 x.ref.r, .int .i64 x.side, .int .i64 x.ch, .int .i64 x.under.n, .int .i64 x.under.r, .string x.key, .string x.name, .string x.value, .int .i64 x.fr.n, .int .i64 x.fr.r, .bool x.fa, .int .i64 x.tr.n, .int .i64 x.tr.r, .bool x.ta]
theorem OpD.len (x : OpD) : x.cells.length = 26 := rfl
theorem OpD.one (x : OpD) : ∀ u ∈ x.cells, u.oneCell' = true := by
  intro u hu
  simp only [OpD.cells, List.mem_cons, List.not_mem_nil, or_false] at hu
  rcases hu with rfl | rfl | rfl | rfl | rfl | rfl | rfl | rfl | rfl | rfl | rfl | rfl | rfl | rfl | rfl | rfl | rfl | rfl | rfl | rfl | rfl | rfl | rfl | rfl | rfl | rfl <;> rfl
def OpD.val (x : OpD) : Value := .agg x.cells.toArray
def OpD.deps (x : OpD) : List Int := [x.d0, x.d1, x.d2, x.d3, x.d4, x.d5, x.d6, x.d7]
def hasV (ds : List Int) (s : St) : Bool := decide (0 ≤ s.r ∧ s.r < 8) && decide (s.n ≤ ds.getD s.r.toNat 0)
def OpD.may (x : OpD) (s : St) : Bool := rightB s && hasV x.deps s
theorem cells_new (w : World) (cs : List Value) (T : TypeId) (j : Nat) (u : Value) (h : cs[j]? = some u) : (w.alloc (.cells cs.toArray T)).cell? ⟨w.heap.size, j, none⟩ = some u := by
  rw [World.cell?_alloc_at _ _ _ _ rfl, ← h]
  simp
end Go.Proofs.YtgmdimbiipemhaaGreatDoor
namespace Go.Proofs.YtgmdimbiipemhaaGreatDoor
open Go
section
variable {P : Program} {ops : Array Oper} {Q : Exit → Act → World → Prop} {md : Region.Mode} {S : World → Prop} {Z : Nat → Bool}
def wpAnyS (P : Program) (md : Region.Mode) (ops : Array Oper) (Q : Exit → Act → World → Prop) (S : World → Prop) (Z : Nat → Bool) : Nat → Array Bool → Act → World → Prop
  | 0, listed, a, w => Region.ready md ops listed = [] ∧ Q .normal a w
  | fuel + 1, listed, a, w =>
    (Region.ready md ops listed = [] → Q .normal a w) ∧
    ∀ i ∈ Region.ready md ops listed, wpOp P ops Q i (fun a' w' => (Z i = false → S w') ∧ wpAnyS P md ops Q S Z fuel (listed.setIfInBounds i true) a' w') a w
theorem wpAny_of_s : ∀ (fuel : Nat) (listed : Array Bool) (a : Act) (w : World), wpAnyS P md ops Q S Z fuel listed a w → wpAny P md ops Q fuel listed a w
  | 0, _, _, _, h => h
  | fuel + 1, _, _, _, h => ⟨h.1, fun i hi => wpOp_mono (fun a' w' h' => wpAny_of_s fuel _ a' w' h'.2) (h.2 i hi)⟩
def more (listed : Array Bool) (js : List Nat) : Array Bool := js.foldl (fun l j => l.setIfInBounds j true) listed
theorem more_un {k : Nat} : ∀ (js : List Nat) (listed : Array Bool), (more listed js).getD k true = false → listed.getD k true = false
  | [], _, h => h
  | j :: js, listed, h => by
    have h1 := more_un js (listed.setIfInBounds j true) h
    by_cases hjk : j = k
    · subst hjk
      by_cases hs : j < listed.size
      · simp [hs] at h1
      · simp [hs] at h1
    · rwa [getD_set_ne true hjk] at h1
theorem more_still {k : Nat} : ∀ (js : List Nat) (listed : Array Bool), k ∉ js → listed.getD k true = false → (more listed js).getD k true = false
  | [], _, _, h => h
  | j :: js, listed, hn, h => more_still js _ (fun e => hn (by simp [e])) (by rw [getD_set_ne true (fun e => hn (by simp [e]))]; exact h)
theorem un_false {listed : Array Bool} {k : Nat} (h : listed.getD k true = false) : listed.getD k false = false := by
  by_cases hs : k < listed.size
  · simp [hs] at h ⊢; exact h
  · simp [hs] at h
def Ahead (md : Region.Mode) (ops : Array Oper) (i : Nat) (oi : Oper) (listed : Array Bool) : Prop :=
  i ∈ Region.ready md ops listed ∧ ∀ js, i ∉ js → ∀ j oj, j ∈ Region.ready md ops (more listed js) → j ≠ i → ops[j]? = some oj → (∀ e ∈ oj.after, Region.binds md e = true → e.on ≠ i) ∧ oi.apart ops oj = true
theorem Ahead.step {i j : Nat} {oi : Oper} {listed : Array Bool} (h : Ahead md ops i oi listed) (hj : j ≠ i) : Ahead md ops i oi (listed.setIfInBounds j true) :=
  ⟨ready_mono h.1 (Ne.symm hj), fun js hn => h.2 (j :: js) (by simp [hn, Ne.symm hj])⟩
theorem Ahead.of_free {i : Nat} {oi : Oper} {listed : Array Bool} (hi : ops[i]? = some oi) (hr : i ∈ Region.ready md ops listed) (hf : Region.free md ops listed i = true) : Ahead md ops i oi listed := by
  refine ⟨hr, fun js hn j oj hj hji hoj => ?_⟩
  obtain ⟨hun, o, ho, hall⟩ := mem_ready.1 hj
  rw [hoj] at ho
  cases ho
  have hno : ∀ e ∈ oj.after, Region.binds md e = true → e.on ≠ i := fun e he hb hei => by
    have h1 := hall e he hb
    rw [hei, un_false (more_still js listed hn (mem_ready.1 hr).1)] at h1
    cases h1
  exact ⟨hno, Region.free_spec hi hf j oj hoj hji (more_un js listed hun) hno⟩
theorem wpAnyS_at {fuel : Nat} {listed : Array Bool} {a : Act} {w : World} (h : wpAnyS P md ops Q S Z fuel listed a w) {j : Nat} (hj : j ∈ Region.ready md ops listed) :
    ∃ n, fuel = n + 1 ∧ wpOp P ops Q j (fun a' w' => (Z j = false → S w') ∧ wpAnyS P md ops Q S Z n (listed.setIfInBounds j true) a' w') a w := by
  cases fuel with
  | zero => exact absurd (h.1 ▸ hj : j ∈ []) (by simp)
  | succ n => exact ⟨n, rfl, h.2 j hj⟩
def waitsZ (md : Region.Mode) (ops : Array Oper) (Z : Nat → Bool) (listed : Array Bool) (i : Nat) : Bool :=
  (List.range ops.size).all fun j => listed.getD j true || !Z j || (match ops[j]? with
    | some o => o.after.any fun e => Region.binds md e && e.on == i
    | none => true)
theorem waitsZ_spec {i j : Nat} {oj : Oper} {listed : Array Bool} (h : waitsZ md ops Z listed i = true) (hz : Z j = true) (hu : listed.getD j true = false) (hj : ops[j]? = some oj) : ∃ e ∈ oj.after, Region.binds md e = true ∧ e.on = i := by
  have hjs : j < ops.size := (Array.getElem?_eq_some_iff.1 hj).1
  have := List.all_eq_true.1 h j (List.mem_range.2 hjs)
  rw [hz, hj, hu] at this
  simp only [Bool.not_true, Bool.false_or, Array.any_eq_true, Bool.and_eq_true, beq_iff_eq] at this
  obtain ⟨k, hk, h1, h2⟩ := this
  exact ⟨_, Array.getElem_mem hk, h1, h2⟩
theorem wpAnyS_front {i : Nat} {oi : Oper} {v : Value} (hi : ops[i]? = some oi)
    (hsel : ∀ (j : Nat) (o : Oper) cs b, ops[j]? = some o → o.op ≠ .select cs b) (hQ : ∀ c a w, Q (.panic c) (a.put oi.dst v) w → Q (.panic c) a w) (hiz : Z i = false) (fuel : Nat) :
    ∀ (listed : Array Bool) (a : Act) (w : World), (∀ j oj, Z j = true → listed.getD j true = false → ops[j]? = some oj → ∃ e ∈ oj.after, Region.binds md e = true ∧ e.on = i) → Ahead md ops i oi listed → YieldsIf P ops S oi v a → S w →
      wpAnyS P md ops Q S Z fuel (listed.setIfInBounds i true) (a.put oi.dst v) w → wpAnyS P md ops Q S Z (fuel + 1) listed a w := by
  induction fuel using Nat.strongRecOn with
  | _ fuel ih =>
    intro listed a w hwait hA hy hS H
    refine ⟨fun h0 => absurd (h0 ▸ hA.1 : i ∈ []) (by simp), fun j hj => ?_⟩
    rcases Decidable.em (j = i) with hji | hji
    · rw [hji]
      exact hy.wpOp hi hS ⟨fun _ => hS, H⟩
    · obtain ⟨n, rfl, hop⟩ := wpAnyS_at H (ready_mono hj hji)
      obtain ⟨oj, hoj⟩ : ∃ oj, ops[j]? = some oj := by
        obtain ⟨_, oj, hoj, _⟩ := mem_ready.1 hj
        exact ⟨oj, hoj⟩
      obtain ⟨hno, hap⟩ := hA.2 [] (by simp) j oj hj hji hoj
      have hjz : Z j = false := by
        cases hz : Z j with
        | false => rfl
        | true =>
          obtain ⟨e, he, hb, hei⟩ := hwait j oj hz (mem_ready.1 hj).1 hoj
          exact absurd hei (hno e he hb)
      refine wpOp_mono ?_ (wpOp_putIf hoj hap (fun cs b => hsel i oi cs b hi) (fun cs b => hsel j oj cs b hoj) hQ hy hop)
      rintro a' w' ⟨hy', hS', H'⟩
      rw [Array.setIfInBounds_comm _ _ (Ne.symm hji)] at H'
      exact ⟨hS', ih n (Nat.lt_succ_self n) _ a' w' (fun q oq hq hu => hwait q oq hq (more_un [j] listed hu)) (hA.step hji) hy' (hS' hjz) H'⟩
theorem wpAnyS_take {i : Nat} {oi : Oper} {d : Option Tmp} {v : Value} {fuel : Nat} {listed : Array Bool} {a : Act} {w : World} (hi : ops[i]? = some oi) (hd : oi.dst = d) (hiz : Z i = false) (hwait : waitsZ md ops Z listed i = true)
    (hs : Region.noSelect ops = true) (hf : Region.free md ops listed i = true) (hr : (Region.ready md ops listed).contains i = true)
    (hQ : ∀ c a w, Q (.panic c) (a.put d v) w → Q (.panic c) a w) (hy : YieldsIf P ops S oi v a) (hS : S w)
    (h : wpAnyS P md ops Q S Z fuel (listed.setIfInBounds i true) (a.put d v) w) : wpAnyS P md ops Q S Z (fuel + 1) listed a w := by
  subst hd
  exact wpAnyS_front hi (Region.noSelect_spec hs) hQ hiz fuel listed a w (fun j oj hz hu hj => waitsZ_spec hwait hz hu hj) (Ahead.of_free hi (by simpa using hr) hf) hy hS h
theorem wpAnyS_one {i : Nat} {fuel : Nat} {listed : Array Bool} {a : Act} {w : World} (hr : Region.ready md ops listed = [i])
    (h : wpOp P ops Q i (fun a' w' => (Z i = false → S w') ∧ wpAnyS P md ops Q S Z fuel (listed.setIfInBounds i true) a' w') a w) : wpAnyS P md ops Q S Z (fuel + 1) listed a w :=
  ⟨fun h0 => absurd (hr.symm.trans h0) (by simp), fun j hj => by rw [hr] at hj; rw [List.mem_singleton.1 hj]; exact h⟩
theorem wpAnyS_mute {i : Nat} {o : Oper} {d : Option Tmp} {fuel : Nat} {listed : Array Bool} {a : Act} {w w' : World} (hr : Region.ready md ops listed = [i]) (ho : ops[i]? = some o) (hd : o.dst = d) (hw : Region.wanted o (yielded ops a.tmps) = true)
    (hv : (execOp a.eval o).run P w = .ok .skip w') (hS : Z i = false → S w') (h : wpAnyS P md ops Q S Z fuel (listed.setIfInBounds i true) (a.put d undef) w') : wpAnyS P md ops Q S Z (fuel + 1) listed a w := by
  subst hd
  exact wpAnyS_one hr (wpOp_step ho fun K' hK => by
    rw [if_pos hw, Oper.wp, hv]
    exact hK _ _ ⟨hS, h⟩)
theorem wpAnyS_done {listed : Array Bool} {a : Act} {w : World} (hr : Region.ready md ops listed = []) (h : Q .normal a w) : ∀ fuel, wpAnyS P md ops Q S Z fuel listed a w
  | 0 => ⟨hr, h⟩
  | _ + 1 => ⟨fun _ => h, by rw [hr]; simp⟩
theorem wp_region_s {id : Nat} {a : Act} {w : World} (S : World → Prop) (Z : Nat → Bool) (hm : P.follows .mixedOrders = true)
    (h : wpAnyS P .any ops Q S Z ops.size (Array.replicate ops.size false) a w.drew) : (Code.region id ops true).wp P Q a w :=
  wp_region_any hm (wpAny_of_s _ _ _ _ h)
end
end Go.Proofs.YtgmdimbiipemhaaGreatDoor
namespace Go.Proofs.YtgmdimbiipemhaaGreatDoor
open Go.RowKit
section
variable {P : Program} {w : World} {α : Type} {ea : α → List Value} {k : Nat} {e : TypeId} {base : Nat} {v : Value} {l : List α}
theorem append_new (t ty : TypeId) (i : TypeInfo) (z : Value) (size bytes : Nat) (ht : P.underlying t = some (.slice e)) (hi : P.info? e = some i) (hz : i.zero = some z)
    (hsize : i.size = size) (hby : i.bytes = bytes) (v : Value) (n : Nat) (xs : List Value) (hown : w.ownsRow base e size v n xs)
    (a : Addr) (m c : Nat) (news : List Value) (hl : news.length = m * size) (hnews : ∀ j u, news[j]? = some u → w.cell? (a.add j) = some u) (h1 : ∀ u ∈ news, u.oneCell' = true)
    (h63 : n + m ≤ maxLen) (hbytes : (n + m) * bytes ≤ 140737488355328) (hm : 0 < m) {v' : Value} {w' : World}
    (hr : (Builtin.append_ #[t, t] ty #[v, .slice (some a) m c]).run P w = .ok v' w') : ∀ b, v'.ownBlock = some b → v.ownBlock = some b ∨ w.heap.size ≤ b := by
  subst hsize
  subst hby
  have hsmall : n + m ≤ 9223372036854775807 := by simp only [maxLen] at h63; omega
  rcases hown.2 with ⟨rfl, rfl⟩ | ⟨g, cap, cur, rfl, hbg, hg, hnc, hcm, hcs, htake⟩
  · have hr2 := run_append_nil (P := P) w t ty e i z ht hi hz a m c news hl hnews hm (by omega) (by have hb := hbytes; simp only [Nat.zero_add] at hb; omega)
    rw [hr] at hr2
    cases hr2
    intro b hb
    simp [Value.ownBlock] at hb
    exact .inr (by omega)
  · by_cases hroom : n + m ≤ cap
    · have hfit : n * i.size + news.length ≤ cur.size := by rw [hl, hcs, ← Nat.add_mul]; exact Nat.mul_le_mul_right _ hroom
      have hr2 := run_append_room (P := P) w t ty e i ht hi g n cap cur hg a m c news hl hnews h1 hroom hfit
      rw [hr] at hr2
      cases hr2
      intro b hb
      simp [Value.ownBlock] at hb ⊢
      exact .inl hb
    · have holds : ∀ j u, xs[j]? = some u → w.cell? ((⟨g, 0, none⟩ : Addr).add j) = some u := hown.cells (g := g) rfl
      have hr2 := run_append_grow (P := P) w t ty e i z ht hi hz ⟨g, 0, none⟩ n cap xs hown.1 holds a m c news hl hnews (by omega) (by omega) (growslice_fits (by omega) hbytes)
      rw [hr] at hr2
      cases hr2
      intro b hb
      simp [Value.ownBlock] at hb
      exact .inr (by omega)
theorem append_struct_run (t ty : TypeId) (i : TypeInfo) (z : Value) (bytes : Nat) (ht : P.underlying t = some (.slice e)) (hi : P.info? e = some i) (hz : i.zero = some z)
    (hsize : i.size = k) (hby : i.bytes = bytes) (hzs : z.cells.size = k) (hk0 : 0 < k) (hk : ∀ x, (ea x).length = k) (h1 : ∀ x, ∀ u ∈ ea x, u.oneCell' = true)
    (hown : Own ea k e base w v l) (y : α) (nb c : Nat) (hnews : ∀ j u, (ea y)[j]? = some u → w.cell? ⟨nb, j, none⟩ = some u)
    (h63 : l.length + 1 ≤ maxLen) (hbytes : (l.length + 1) * bytes ≤ 140737488355328) (hbase : base ≤ w.heap.size) :
    ∃ v' w', (Builtin.append_ #[t, t] ty #[v, .slice (some ⟨nb, 0, none⟩) 1 c]).run P w = .ok v' w' ∧ Own ea k e base w' v' (l ++ [y]) ∧ Ext (fun b => v.ownBlock = some b) w w' ∧
      ∀ b, v'.ownBlock = some b → v.ownBlock = some b ∨ w.heap.size ≤ b := by
  have hn : ∀ j u, (ea y)[j]? = some u → w.cell? (Addr.add ⟨nb, 0, none⟩ j) = some u := fun j u hj => by
    rw [show (Addr.add ⟨nb, 0, none⟩ j) = ⟨nb, j, none⟩ from by unfold Addr.add; split <;> simp_all]
    exact hnews j u hj
  obtain ⟨v', w', hr, h2, h3, _⟩ := run_append_own (P := P) w base t ty e i z k bytes ht hi hz hsize hby hzs hk0 v l.length (l.flatMap ea) hown ⟨nb, 0, none⟩ 1 c (ea y) (by rw [hk, Nat.one_mul]) hn (h1 y) h63 hbytes hbase
  refine ⟨v', w', hr, ?_, Ext.of_grown h3, append_new t ty i z k bytes ht hi hz hsize hby v l.length (l.flatMap ea) hown ⟨nb, 0, none⟩ 1 c (ea y) (by rw [hk, Nat.one_mul]) hn (h1 y) h63 hbytes (by omega) hr⟩
  unfold Own
  rw [List.length_append, List.flatMap_append]
  simpa using h2
theorem wpList_append_struct2 {ops : Array Oper} {rest : List Oper} {o : Oper} {a : Act} {Q : Exit → Act → World → Prop} (hgd : o.guard = none) (s x : Operand) (t : TypeId)
    (ho : o.op = .call { callee := .builtin .append, args := #[s, x], argTypes := #[t, t] })
    (i : TypeInfo) (z : Value) (bytes : Nat) (ht : P.underlying t = some (.slice e)) (hi : P.info? e = some i) (hz : i.zero = some z)
    (hsize : i.size = k) (hby : i.bytes = bytes) (hzs : z.cells.size = k) (hk0 : 0 < k) (hk : ∀ x, (ea x).length = k) (h1 : ∀ x, ∀ u ∈ ea x, u.oneCell' = true)
    (hs : a.eval s = v) (hown : Own ea k e base w v l) (y : α) (nb c : Nat) (hx : a.eval x = .slice (some ⟨nb, 0, none⟩) 1 c) (hnews : ∀ j u, (ea y)[j]? = some u → w.cell? ⟨nb, j, none⟩ = some u)
    (h63 : l.length + 1 ≤ maxLen) (hbytes : (l.length + 1) * bytes ≤ 140737488355328) (hbase : base ≤ w.heap.size)
    (h : ∀ v' w', Own ea k e base w' v' (l ++ [y]) → Ext (fun b => v.ownBlock = some b) w w' → (∀ b, v'.ownBlock = some b → v.ownBlock = some b ∨ w.heap.size ≤ b) → wpList P ops Q rest (a.put o.dst v') w') : wpList P ops Q (o :: rest) a w := by
  obtain ⟨v', w', hr, h2, h3, h4⟩ := append_struct_run (P := P) t o.type i z bytes ht hi hz hsize hby hzs hk0 hk h1 hown y nb c hnews h63 hbytes hbase
  refine wpList_plain hgd fun _ hK => ?_
  unfold Oper.wp execOp
  simp only [ho, resolve, invoke, builtin, Sem.run_bind, Sem.run_pure, Result.andThen_ok, List.map_toArray, List.map_cons, List.map_nil, hs, hx, hr]
  exact hK _ _ (h v' w' h2 h3 h4)
theorem step_append_struct2 {ops : Array Oper} {o : Oper} {a : Act} {K : Act → World → Prop} {Q : Exit → Act → World → Prop} {E : Prop} (hgd : o.guard = none) (s x : Operand) (t : TypeId)
    (ho : o.op = .call { callee := .builtin .append, args := #[s, x], argTypes := #[t, t] })
    (i : TypeInfo) (z : Value) (bytes : Nat) (ht : P.underlying t = some (.slice e)) (hi : P.info? e = some i) (hz : i.zero = some z)
    (hsize : i.size = k) (hby : i.bytes = bytes) (hzs : z.cells.size = k) (hk0 : 0 < k) (hk : ∀ x, (ea x).length = k) (h1 : ∀ x, ∀ u ∈ ea x, u.oneCell' = true)
    (hs : a.eval s = v) (hown : Own ea k e base w v l) (y : α) (nb c : Nat) (hx : a.eval x = .slice (some ⟨nb, 0, none⟩) 1 c) (hnews : ∀ j u, (ea y)[j]? = some u → w.cell? ⟨nb, j, none⟩ = some u)
    (h63 : l.length + 1 ≤ maxLen) (hbytes : (l.length + 1) * bytes ≤ 140737488355328) (hbase : base ≤ w.heap.size)
    (h : ∀ v' w', Own ea k e base w' v' (l ++ [y]) → Ext (fun b => v.ownBlock = some b) w w' → (∀ b, v'.ownBlock = some b → v.ownBlock = some b ∨ w.heap.size ≤ b) → K (a.put o.dst v') w') : if Region.wanted o (yielded ops a.tmps) = true then Oper.wp P o a w K Q else E := by
  have hw : Region.wanted o (yielded ops a.tmps) = true := by simp [Region.wanted, hgd]
  rw [if_pos hw]
  obtain ⟨v', w', hr, h2, h3, h4⟩ := append_struct_run (P := P) t o.type i z bytes ht hi hz hsize hby hzs hk0 hk h1 hown y nb c hnews h63 hbytes hbase
  unfold Oper.wp execOp
  simp only [ho, resolve, invoke, builtin, Sem.run_bind, Sem.run_pure, Result.andThen_ok, List.map_toArray, List.map_cons, List.map_nil, hs, hx, hr]
  exact h v' w' h2 h3 h4
theorem step_call {ops : Array Oper} {o : Oper} {a : Act} {K : Act → World → Prop} {Q : Exit → Act → World → Prop} {E : Prop} {f : FuncId} {args : Array Value} (hgd : o.guard = none)
    (hv : (execOp a.eval o).run P w = .ok (.enter f args) w) (h : Calls P f args w fun e w' => ∃ v, e = .returned v ∧ K (a.put o.dst v) w') : if Region.wanted o (yielded ops a.tmps) = true then Oper.wp P o a w K Q else E := by
  have hw : Region.wanted o (yielded ops a.tmps) = true := by simp [Region.wanted, hgd]
  rw [if_pos hw, Oper.wp, hv, Oper.upon_enter]
  refine Calls.mono h ?_
  rintro e w'' ⟨v, rfl, h1⟩
  exact h1
end
end Go.Proofs.YtgmdimbiipemhaaGreatDoor
namespace Go.Proofs.YtgmdimbiipemhaaGreatDoor
open Go Go.RowKit Go.Deep
section
variable {P : Program} {ops : Array Oper} {Q : Exit → Act → World → Prop} {md : Region.Mode} {S : World → Prop} {Z : Nat → Bool}
theorem wpAnyS_ran {i : Nat} {o : Oper} {d : Option Tmp} {v : Value} {fuel : Nat} {listed : Array Bool} {a : Act} {w w' : World} (hr : Region.ready md ops listed = [i]) (ho : ops[i]? = some o) (hd : o.dst = d) (hw : Region.wanted o (yielded ops a.tmps) = true)
    (hv : (execOp a.eval o).run P w = .ok (.value v) w') (hS : Z i = false → S w') (h : wpAnyS P md ops Q S Z fuel (listed.setIfInBounds i true) (a.put d v) w') : wpAnyS P md ops Q S Z (fuel + 1) listed a w := by
  subst hd
  exact wpAnyS_one hr (wpOp_step ho fun K' hK => by
    rw [if_pos hw, Oper.wp, hv]
    exact hK _ _ ⟨hS, h⟩)
theorem wpAnyS_call {i : Nat} {o : Oper} {d : Option Tmp} {f : FuncId} {args : Array Value} {fuel : Nat} {listed : Array Bool} {a : Act} {w w' : World} (hr : Region.ready md ops listed = [i]) (ho : ops[i]? = some o) (hd : o.dst = d) (hw : Region.wanted o (yielded ops a.tmps) = true)
    (hv : (execOp a.eval o).run P w = .ok (.enter f args) w')
    (h : Calls P f args w' fun e w'' => ∃ v, e = .returned v ∧ (Z i = false → S w'') ∧ wpAnyS P md ops Q S Z fuel (listed.setIfInBounds i true) (a.put d v) w'') : wpAnyS P md ops Q S Z (fuel + 1) listed a w := by
  subst hd
  exact wpAnyS_one hr (wpOp_step ho fun K' hK => by
    rw [if_pos hw, Oper.wp, hv, Oper.upon_enter]
    refine Calls.mono h ?_
    rintro e w'' ⟨v, rfl, h1, h2⟩
    exact hK _ _ ⟨h1, h2⟩)
theorem exec_append {o : Oper} {a : Act} {w w' : World} {s x : Operand} {t tn : TypeId} {v vx v' : Value} (hop : o.op = .call { callee := .builtin .append, args := #[s, x], argTypes := #[t, tn] }) (hs : a.eval s = v) (hx : a.eval x = vx)
    (hr : (Builtin.append_ #[t, tn] o.type #[v, vx]).run P w = .ok v' w') : (execOp a.eval o).run P w = .ok (.value v') w' := by
  unfold execOp
  simp only [hop, resolve, invoke, builtin, Sem.run_bind, Sem.run_pure, Result.andThen_ok, List.map_toArray, List.map_cons, List.map_nil, hs, hx, hr]
end
end Go.Proofs.YtgmdimbiipemhaaGreatDoor
namespace Go.Proofs
open Go.Shelf
def Tryz.mulF_ren : Go.Shelf.Ren := ⟨fun | 212 => 204 | 263 => 215 | 264 => 216 | n => n, fun | 46 => 189 | 51 => 199 | 146 => 292 | 53 => 97 | 148 => 294 | n => n, fun | n => n⟩
theorem Tryz.mulF : Go.Proofs.Lays.n212 Tryz.prog Tryz.mulF_ren := {
  mixed := by kernel_rfl
  f212 := Tryz.func204.trans (congrArg some (by kernel_rfl))
  f263 := Tryz.func215.trans (congrArg some (by kernel_rfl))
  f264 := Tryz.func216.trans (congrArg some (by kernel_rfl))
  t46 := Tryz.underlying189
  a46 := Tryz.isAgg189
  z46 := Tryz.sizeOf189
  v46 := Tryz.zeroValue189
  t51 := Tryz.underlying199
  a51 := Tryz.isAgg199
  z51 := Tryz.sizeOf199
  v51 := Tryz.zeroValue199
  t53 := Tryz.underlying97
  a53 := Tryz.isAgg97
  z53 := Tryz.sizeOf97
  v53 := Tryz.zeroValue97
  t146 := Tryz.underlying292
  a146 := Tryz.isAgg292
  z146 := Tryz.sizeOf292
  v146 := Tryz.zeroValue292
  t148 := Tryz.underlying294
  a148 := Tryz.isAgg294
  z148 := Tryz.sizeOf294
  v148 := Tryz.zeroValue294 }
def Tryz.minF_ren : Go.Shelf.Ren := ⟨fun | 114 => 139 | n => n, fun | 28 => 100 | 3 => 3 | 4 => 4 | 9 => 9 | 20 => 20 | 0 => 0 | n => n, fun | n => n⟩
theorem Tryz.minF : Go.Proofs.Lays.n114 Tryz.prog Tryz.minF_ren := {
  mixed := by kernel_rfl
  f114 := Tryz.func139.trans (congrArg some (by kernel_rfl))
  t0 := Tryz.underlying0
  a0 := Tryz.isAgg0
  z0 := Tryz.sizeOf0
  v0 := Tryz.zeroValue0
  t3 := Tryz.underlying3
  a3 := Tryz.isAgg3
  z3 := Tryz.sizeOf3
  v3 := Tryz.zeroValue3
  t4 := Tryz.underlying4
  a4 := Tryz.isAgg4
  z4 := Tryz.sizeOf4
  v4 := Tryz.zeroValue4
  t9 := Tryz.underlying9
  a9 := Tryz.isAgg9
  z9 := Tryz.sizeOf9
  v9 := Tryz.zeroValue9
  t20 := Tryz.underlying20
  a20 := Tryz.isAgg20
  z20 := Tryz.sizeOf20
  v20 := Tryz.zeroValue20
  t28 := Tryz.underlying100
  a28 := Tryz.isAgg100
  z28 := Tryz.sizeOf100
  v28 := Tryz.zeroValue100 }
def Tryz.maxF_ren : Go.Shelf.Ren := ⟨fun | 113 => 174 | n => n, fun | 28 => 100 | 3 => 3 | 4 => 4 | 9 => 9 | 20 => 20 | 0 => 0 | n => n, fun | n => n⟩
theorem Tryz.maxF : Go.Proofs.Lays.n113 Tryz.prog Tryz.maxF_ren := {
  mixed := by kernel_rfl
  f113 := Tryz.func174.trans (congrArg some (by kernel_rfl))
  t0 := Tryz.underlying0
  a0 := Tryz.isAgg0
  z0 := Tryz.sizeOf0
  v0 := Tryz.zeroValue0
  t3 := Tryz.underlying3
  a3 := Tryz.isAgg3
  z3 := Tryz.sizeOf3
  v3 := Tryz.zeroValue3
  t4 := Tryz.underlying4
  a4 := Tryz.isAgg4
  z4 := Tryz.sizeOf4
  v4 := Tryz.zeroValue4
  t9 := Tryz.underlying9
  a9 := Tryz.isAgg9
  z9 := Tryz.sizeOf9
  v9 := Tryz.zeroValue9
  t20 := Tryz.underlying20
  a20 := Tryz.isAgg20
  z20 := Tryz.sizeOf20
  v20 := Tryz.zeroValue20
  t28 := Tryz.underlying100
  a28 := Tryz.isAgg100
  z28 := Tryz.sizeOf100
  v28 := Tryz.zeroValue100 }
def Tryz.cloneF_ren : Go.Shelf.Ren := ⟨fun | 15 => 146 | n => n, fun | 22 => 100 | 3 => 3 | 4 => 4 | n => n, fun | n => n⟩
theorem Tryz.cloneF : Go.Proofs.Lays2.n15 Tryz.prog Tryz.cloneF_ren := {
  mixed := by kernel_rfl
  f15 := Tryz.func146.trans (congrArg some (by kernel_rfl))
  t3 := Tryz.underlying3
  a3 := Tryz.isAgg3
  z3 := Tryz.sizeOf3
  v3 := Tryz.zeroValue3
  t4 := Tryz.underlying4
  a4 := Tryz.isAgg4
  z4 := Tryz.sizeOf4
  v4 := Tryz.zeroValue4
  t22 := Tryz.underlying100
  a22 := Tryz.isAgg100
  z22 := Tryz.sizeOf100
  v22 := Tryz.zeroValue100
  i3 := by kernel_rfl }
def Tryz.sufF_ren : Go.Shelf.Ren := ⟨fun | 100 => 177 | 207 => 203 | n => n, fun | 9 => 9 | 4 => 4 | 3 => 3 | n => n, fun | n => n⟩
theorem Tryz.sufF : Go.Proofs.Lays.n100 Tryz.prog Tryz.sufF_ren := {
  mixed := by kernel_rfl
  f100 := Tryz.func177.trans (congrArg some (by kernel_rfl))
  f207 := Tryz.func203.trans (congrArg some (by kernel_rfl))
  t3 := Tryz.underlying3
  a3 := Tryz.isAgg3
  z3 := Tryz.sizeOf3
  v3 := Tryz.zeroValue3
  t4 := Tryz.underlying4
  a4 := Tryz.isAgg4
  z4 := Tryz.sizeOf4
  v4 := Tryz.zeroValue4
  t9 := Tryz.underlying9
  a9 := Tryz.isAgg9
  z9 := Tryz.sizeOf9
  v9 := Tryz.zeroValue9 }
def Tryz.trimF_ren : Go.Shelf.Ren := ⟨fun | 160 => 176 | 232 => 197 | 231 => 196 | 227 => 198 | 234 => 200 | 233 => 199 | 236 => 202 | 235 => 201 | 228 => 211 | 271 => 214 | 151 => 213 | 197 => 212 | 120 => 220 | 152 => 219 | 260 => 218 | 137 => 221 | 119 => 222 | 224 => 223 | 225 => 224 | 217 => 225 | 266 => 226 | n => n, fun | 9 => 9 | 4 => 4 | 3 => 3 | 5 => 5 | 117 => 277 | 116 => 276 | 0 => 0 | 124 => 280 | 21 => 21 | 105 => 289 | 46 => 189 | 119 => 300 | 139 => 303 | 138 => 302 | n => n, fun | 3 => 2 | 4 => 3 | n => n⟩
theorem Tryz.trimF : Go.Proofs.Lays.n160 Tryz.prog Tryz.trimF_ren := {
  mixed := by kernel_rfl
  f119 := Tryz.func222.trans (congrArg some (by kernel_rfl))
  f120 := Tryz.func220.trans (congrArg some (by kernel_rfl))
  f137 := Tryz.func221.trans (congrArg some (by kernel_rfl))
  f151 := Tryz.func213.trans (congrArg some (by kernel_rfl))
  f152 := Tryz.func219.trans (congrArg some (by kernel_rfl))
  f160 := Tryz.func176.trans (congrArg some (by kernel_rfl))
  f197 := Tryz.func212.trans (congrArg some (by kernel_rfl))
  f217 := Tryz.func225.trans (congrArg some (by kernel_rfl))
  f224 := Tryz.func223.trans (congrArg some (by kernel_rfl))
  f225 := Tryz.func224.trans (congrArg some (by kernel_rfl))
  f227 := Tryz.func198.trans (congrArg some (by kernel_rfl))
  f228 := Tryz.func211.trans (congrArg some (by kernel_rfl))
  f231 := Tryz.func196.trans (congrArg some (by kernel_rfl))
  f232 := Tryz.func197.trans (congrArg some (by kernel_rfl))
  f233 := Tryz.func199.trans (congrArg some (by kernel_rfl))
  f234 := Tryz.func200.trans (congrArg some (by kernel_rfl))
  f235 := Tryz.func201.trans (congrArg some (by kernel_rfl))
  f236 := Tryz.func202.trans (congrArg some (by kernel_rfl))
  f260 := Tryz.func218.trans (congrArg some (by kernel_rfl))
  f266 := Tryz.func226.trans (congrArg some (by kernel_rfl))
  f271 := Tryz.func214.trans (congrArg some (by kernel_rfl))
  t0 := Tryz.underlying0
  a0 := Tryz.isAgg0
  z0 := Tryz.sizeOf0
  v0 := Tryz.zeroValue0
  t3 := Tryz.underlying3
  a3 := Tryz.isAgg3
  z3 := Tryz.sizeOf3
  v3 := Tryz.zeroValue3
  t4 := Tryz.underlying4
  a4 := Tryz.isAgg4
  z4 := Tryz.sizeOf4
  v4 := Tryz.zeroValue4
  t5 := Tryz.underlying5
  a5 := Tryz.isAgg5
  z5 := Tryz.sizeOf5
  v5 := Tryz.zeroValue5
  t9 := Tryz.underlying9
  a9 := Tryz.isAgg9
  z9 := Tryz.sizeOf9
  v9 := Tryz.zeroValue9
  t21 := Tryz.underlying21
  a21 := Tryz.isAgg21
  z21 := Tryz.sizeOf21
  v21 := Tryz.zeroValue21
  t46 := Tryz.underlying189
  a46 := Tryz.isAgg189
  z46 := Tryz.sizeOf189
  v46 := Tryz.zeroValue189
  t105 := Tryz.underlying289
  a105 := Tryz.isAgg289
  z105 := Tryz.sizeOf289
  v105 := Tryz.zeroValue289
  t116 := Tryz.underlying276
  a116 := Tryz.isAgg276
  z116 := Tryz.sizeOf276
  t117 := Tryz.underlying277
  a117 := Tryz.isAgg277
  z117 := Tryz.sizeOf277
  v117 := Tryz.zeroValue277
  t119 := Tryz.underlying300
  a119 := Tryz.isAgg300
  z119 := Tryz.sizeOf300
  t124 := Tryz.underlying280
  a124 := Tryz.isAgg280
  z124 := Tryz.sizeOf280
  v124 := Tryz.zeroValue280
  t138 := Tryz.underlying302
  a138 := Tryz.isAgg302
  z138 := Tryz.sizeOf302
  v138 := Tryz.zeroValue302
  t139 := Tryz.underlying303
  a139 := Tryz.isAgg303
  z139 := Tryz.sizeOf303
  v139 := Tryz.zeroValue303
  g3 := by kernel_rfl
  g4 := by kernel_rfl }
end Go.Proofs
namespace Go.Proofs.YtgmdimbiipemhaaGreatDoor
open Go.RowKit Go.Deep
open Go.Shelf
theorem known_any (n r : Int) (w : World) : Calls Tryz.prog 195 #[.agg #[.int .i64 n, .int .i64 r]] w fun e w' => e = .returned (.bool (decide (0 ≤ r ∧ r < 8))) ∧ Below w.heap.size w w' := by
  by_cases h3 : 0 ≤ r
  · by_cases h4 : r < 8
    · rw [decide_eq_true ⟨h3, h4⟩]
      go_enter Tryz.func195, Tryz.ntmps195
      go_wp2
      go_ret
      exact ⟨rfl, (Below.refl _ _).alloc (Nat.le_refl _) _⟩
    · rw [decide_eq_false (fun h => h4 h.2)]
      go_enter Tryz.func195, Tryz.ntmps195
      go_wp2
      go_ret
      exact ⟨rfl, (Below.refl _ _).alloc (Nat.le_refl _) _⟩
  · rw [decide_eq_false (fun h => h3 h.1)]
    go_enter Tryz.func195, Tryz.ntmps195
    go_wp2
    go_ret
    exact ⟨rfl, (Below.refl _ _).alloc (Nat.le_refl _) _⟩
set_option maxRecDepth 20000 in
set_option maxHeartbeats 1000000 in
theorem has_any (d0 d1 d2 d3 d4 d5 d6 d7 n r : Int) (w : World) : Calls Tryz.prog 175 #[.agg #[.int .i64 d0, .int .i64 d1, .int .i64 d2, .int .i64 d3, .int .i64 d4, .int .i64 d5, .int .i64 d6, .int .i64 d7], .agg #[.int .i64 n, .int .i64 r]] w fun e w' => e = .returned (.bool (hasV [d0, d1, d2, d3, d4, d5, d6, d7] ⟨n, r⟩)) ∧ Below w.heap.size w w' := by
  have HDS : ∀ k : Nat, k < 8 → ([.int .i64 d0, .int .i64 d1, .int .i64 d2, .int .i64 d3, .int .i64 d4, .int .i64 d5, .int .i64 d6, .int .i64 d7] : List Value)[k]? = some (.int .i64 (([d0, d1, d2, d3, d4, d5, d6, d7] : List Int).getD k 0)) := fun k hk => by
    match k, hk with
    | 0, _ => rfl
    | 1, _ => rfl
    | 2, _ => rfl
    | 3, _ => rfl
    | 4, _ => rfl
    | 5, _ => rfl
    | 6, _ => rfl
    | 7, _ => rfl
  obtain ⟨W0, hW0⟩ : ∃ W0, (w.alloc (.cells #[.int .i64 d0, .int .i64 d1, .int .i64 d2, .int .i64 d3, .int .i64 d4, .int .i64 d5, .int .i64 d6, .int .i64 d7] 32)).alloc (.cells #[.int .i64 n, .int .i64 r] 62) = W0 := ⟨_, rfl⟩
  have HB : Hid (Below w.heap.size w W0.drew) := Lib.hid (by rw [← hW0]; exact (((Below.refl _ _).alloc (Nat.le_refl _) _).alloc (by simp) _).drew)
  have hc0 : W0.cell? ⟨w.heap.size + 1, 0, none⟩ = some (.int .i64 n) := by rw [← hW0]; clear hW0; go_simp
  have hc1 : W0.cell? ⟨w.heap.size + 1, 1, none⟩ = some (.int .i64 r) := by rw [← hW0]; clear hW0; go_simp
  have hcd : ∀ k : Nat, k < 8 → W0.cell? ⟨w.heap.size, k, none⟩ = some (.int .i64 (([d0, d1, d2, d3, d4, d5, d6, d7] : List Int).getD k 0)) := fun k hk => by
    rw [← hW0]
    exact cell_alloc (cells_new w [.int .i64 d0, .int .i64 d1, .int .i64 d2, .int .i64 d3, .int .i64 d4, .int .i64 d5, .int .i64 d6, .int .i64 d7] _ k _ (HDS k hk)) _
  have HCD := Lib.hid hcd
  have HW := Lib.hid hW0
  clear hcd HDS hW0
  by_cases hr : 0 ≤ r ∧ r < 8
  · obtain ⟨k, rfl⟩ : ∃ k : Nat, r = (k : Int) := ⟨r.toNat, by omega⟩
    have hk : k < 8 := by omega
    have hck := HCD.out k hk
    obtain ⟨dk, hdk⟩ : ∃ dk, ([d0, d1, d2, d3, d4, d5, d6, d7] : List Int).getD k 0 = dk := ⟨_, rfl⟩
    rw [hdk] at hck
    have hR : hasV [d0, d1, d2, d3, d4, d5, d6, d7] ⟨n, k⟩ = decide (n ≤ dk) := by unfold hasV; rw [decide_eq_true hr, Bool.true_and, ← hdk]; rfl
    have hK : decide ((0 : Int) ≤ (k : Int) ∧ (k : Int) < 8) = true := decide_eq_true hr
    rw [hR]
    have hk8 : (k : Int) < 8 := by omega
    have hk0 : ¬ (k : Int) < 0 := by omega
    have hk1 : (0 : Int) ≤ (k : Int) := by omega
    obtain ⟨db, hdb⟩ : ∃ db, decide (n ≤ dk) = db := ⟨_, rfl⟩
    rw [hdb]
    have HDB := Lib.hid hdb
    clear hdb hR hdk hr hk
    go_enter Tryz.func175, Tryz.ntmps175
    go_upto_region 1 with fail
    rw [HW.out]
    have hS0 : (fun W : World => W.cell? ⟨w.heap.size + 1, 0, none⟩ = some (.int .i64 n) ∧ W.cell? ⟨w.heap.size + 1, 1, none⟩ = some (.int .i64 k) ∧ W.cell? ⟨w.heap.size, k, none⟩ = some (.int .i64 dk)) W0.drew := ⟨hc0, hc1, hck⟩
    clear hc0 hc1 hck HCD HW
    refine wp_region_s (fun W : World => W.cell? ⟨w.heap.size + 1, 0, none⟩ = some (.int .i64 n) ∧ W.cell? ⟨w.heap.size + 1, 1, none⟩ = some (.int .i64 k) ∧ W.cell? ⟨w.heap.size, k, none⟩ = some (.int .i64 dk)) (fun _ => false) (by kernel_rfl) ?_
    generalize W0.drew = W1 at hS0 HB ⊢
    refine wpAnyS_take (i := 0) (d := some 5) (v := .agg #[.int .i64 n, .int .i64 k]) rfl rfl rfl (by kernel_rfl) (by kernel_rfl) (by kernel_rfl) (by kernel_rfl) (fun _ _ _ h => h) (.inl ⟨by rfl, fun W hW => by obtain ⟨q0, q1, q2⟩ := hW; go_simp; try rfl⟩) hS0 ?_
    try simp only [Act.put, List.setIfInBounds_toArray, List.set_cons_zero, List.set_cons_succ]
    refine wpAnyS_call (i := 1) (d := some 6) (f := 195) (args := #[.agg #[.int .i64 n, .int .i64 k]]) (w' := W1) (by kernel_rfl) rfl rfl (by rfl) (by go_simp; try rfl) ?_
    refine (known_any n k W1).mono ?_
    rintro e w5 ⟨rfl, b5⟩
    rw [hK]
    have hS5 : (fun W : World => W.cell? ⟨w.heap.size + 1, 0, none⟩ = some (.int .i64 n) ∧ W.cell? ⟨w.heap.size + 1, 1, none⟩ = some (.int .i64 k) ∧ W.cell? ⟨w.heap.size, k, none⟩ = some (.int .i64 dk)) w5 := ⟨keepB b5 hS0.1, keepB b5 hS0.2.1, keepB b5 hS0.2.2⟩
    refine ⟨_, rfl, fun _ => hS5, ?_⟩
    try simp only [Act.put, List.setIfInBounds_toArray, List.set_cons_zero, List.set_cons_succ]
    refine wpAnyS_take (i := 2) (d := some 7) rfl rfl rfl (by kernel_rfl) (by kernel_rfl) (by kernel_rfl) (by kernel_rfl) (fun _ _ _ h => h) (.inl ⟨by rfl, fun W hW => by obtain ⟨q0, q1, q2⟩ := hW; go_simp; try rfl⟩) hS5 ?_
    try simp only [Act.put, List.setIfInBounds_toArray, List.set_cons_zero, List.set_cons_succ]
    refine wpAnyS_take (i := 3) (d := some 8) rfl rfl rfl (by kernel_rfl) (by kernel_rfl) (by kernel_rfl) (by kernel_rfl) (fun _ _ _ h => h) (.inl ⟨by rfl, fun W hW => by obtain ⟨q0, q1, q2⟩ := hW; go_simp; try rfl⟩) hS5 ?_
    try simp only [Act.put, List.setIfInBounds_toArray, List.set_cons_zero, List.set_cons_succ]
    refine wpAnyS_take (i := 4) (d := some 9) (v := .int .i64 k) rfl rfl rfl (by kernel_rfl) (by kernel_rfl) (by kernel_rfl) (by kernel_rfl) (fun _ _ _ h => h) (.inl ⟨by rfl, fun W hW => by obtain ⟨q0, q1, q2⟩ := hW; go_simp; try rfl⟩) hS5 ?_
    try simp only [Act.put, List.setIfInBounds_toArray, List.set_cons_zero, List.set_cons_succ]
    refine wpAnyS_take (i := 5) (d := some 10) (v := .pointer (some ⟨w.heap.size, k, none⟩)) rfl rfl rfl (by kernel_rfl) (by kernel_rfl) (by kernel_rfl) (by kernel_rfl) (fun _ _ _ h => h) (.inl ⟨by rfl, fun W hW => by obtain ⟨q0, q1, q2⟩ := hW; go_simp; try rfl⟩) hS5 ?_
    try simp only [Act.put, List.setIfInBounds_toArray, List.set_cons_zero, List.set_cons_succ]
    refine wpAnyS_take (i := 6) (d := some 11) (v := .int .i64 dk) rfl rfl rfl (by kernel_rfl) (by kernel_rfl) (by kernel_rfl) (by kernel_rfl) (fun _ _ _ h => h) (.inl ⟨by rfl, fun W hW => by obtain ⟨q0, q1, q2⟩ := hW; go_simp; try rfl⟩) hS5 ?_
    try simp only [Act.put, List.setIfInBounds_toArray, List.set_cons_zero, List.set_cons_succ]
    refine wpAnyS_take (i := 7) (d := some 12) rfl rfl rfl (by kernel_rfl) (by kernel_rfl) (by kernel_rfl) (by kernel_rfl) (fun _ _ _ h => h) (.inl ⟨by rfl, fun W hW => by obtain ⟨q0, q1, q2⟩ := hW; go_simp; try rfl⟩) hS5 ?_
    try simp only [Act.put, List.setIfInBounds_toArray, List.set_cons_zero, List.set_cons_succ]
    refine wpAnyS_take (i := 8) (d := some 13) (v := .int .i64 n) rfl rfl rfl (by kernel_rfl) (by kernel_rfl) (by kernel_rfl) (by kernel_rfl) (fun _ _ _ h => h) (.inl ⟨by rfl, fun W hW => by obtain ⟨q0, q1, q2⟩ := hW; go_simp; try rfl⟩) hS5 ?_
    try simp only [Act.put, List.setIfInBounds_toArray, List.set_cons_zero, List.set_cons_succ]
    refine wpAnyS_take (i := 9) (d := some 14) (v := .bool db) rfl rfl rfl (by kernel_rfl) (by kernel_rfl) (by kernel_rfl) (by kernel_rfl) (fun _ _ _ h => h) (.inl ⟨by rfl, fun W hW => by obtain ⟨q0, q1, q2⟩ := hW; have hdb := HDB.out; go_simp; try rfl⟩) hS5 ?_
    try simp only [Act.put, List.setIfInBounds_toArray, List.set_cons_zero, List.set_cons_succ]
    refine wpAnyS_take (i := 10) (d := some 15) (v := .bool db) rfl rfl rfl (by kernel_rfl) (by kernel_rfl) (by kernel_rfl) (by kernel_rfl) (fun _ _ _ h => h) (.inl ⟨by rfl, fun W hW => by obtain ⟨q0, q1, q2⟩ := hW; go_simp; try rfl⟩) hS5 ?_
    try simp only [Act.put, List.setIfInBounds_toArray, List.set_cons_zero, List.set_cons_succ]
    refine wpAnyS_take (i := 11) (d := some 4) (v := .bool db) rfl rfl rfl (by kernel_rfl) (by kernel_rfl) (by kernel_rfl) (by kernel_rfl) (fun _ _ _ h => h) (.inl ⟨by rfl, fun W hW => by obtain ⟨q0, q1, q2⟩ := hW; go_simp; try rfl⟩) hS5 ?_
    try simp only [Act.put, List.setIfInBounds_toArray, List.set_cons_zero, List.set_cons_succ]
    refine wpAnyS_done (by kernel_rfl) ?_ _
    go_wp2_with fail
    go_ret
    exact ⟨rfl, HB.out.trans (b5.mono HB.out.size)⟩
  · have hK : decide (0 ≤ r ∧ r < 8) = false := decide_eq_false hr
    have hR : hasV [d0, d1, d2, d3, d4, d5, d6, d7] ⟨n, r⟩ = false := by unfold hasV; rw [decide_eq_false hr]; rfl
    rw [hR]
    clear hR hr
    go_enter Tryz.func175, Tryz.ntmps175
    go_upto_region 1 with fail
    rw [HW.out]
    have hS0 : (fun W : World => W.cell? ⟨w.heap.size + 1, 0, none⟩ = some (.int .i64 n) ∧ W.cell? ⟨w.heap.size + 1, 1, none⟩ = some (.int .i64 r) ∧ True) W0.drew := ⟨hc0, hc1, trivial⟩
    clear hc0 hc1 HCD HW
    refine wp_region_s (fun W : World => W.cell? ⟨w.heap.size + 1, 0, none⟩ = some (.int .i64 n) ∧ W.cell? ⟨w.heap.size + 1, 1, none⟩ = some (.int .i64 r) ∧ True) (fun _ => false) (by kernel_rfl) ?_
    generalize W0.drew = W1 at hS0 HB ⊢
    refine wpAnyS_take (i := 0) (d := some 5) (v := .agg #[.int .i64 n, .int .i64 r]) rfl rfl rfl (by kernel_rfl) (by kernel_rfl) (by kernel_rfl) (by kernel_rfl) (fun _ _ _ h => h) (.inl ⟨by rfl, fun W hW => by obtain ⟨q0, q1, q2⟩ := hW; go_simp; try rfl⟩) hS0 ?_
    try simp only [Act.put, List.setIfInBounds_toArray, List.set_cons_zero, List.set_cons_succ]
    refine wpAnyS_call (i := 1) (d := some 6) (f := 195) (args := #[.agg #[.int .i64 n, .int .i64 r]]) (w' := W1) (by kernel_rfl) rfl rfl (by rfl) (by go_simp; try rfl) ?_
    refine (known_any n r W1).mono ?_
    rintro e w5 ⟨rfl, b5⟩
    rw [hK]
    have hS5 : (fun W : World => W.cell? ⟨w.heap.size + 1, 0, none⟩ = some (.int .i64 n) ∧ W.cell? ⟨w.heap.size + 1, 1, none⟩ = some (.int .i64 r) ∧ True) w5 := ⟨keepB b5 hS0.1, keepB b5 hS0.2.1, trivial⟩
    refine ⟨_, rfl, fun _ => hS5, ?_⟩
    try simp only [Act.put, List.setIfInBounds_toArray, List.set_cons_zero, List.set_cons_succ]
    refine wpAnyS_take (i := 2) (d := some 7) rfl rfl rfl (by kernel_rfl) (by kernel_rfl) (by kernel_rfl) (by kernel_rfl) (fun _ _ _ h => h) (.inl ⟨by rfl, fun W hW => by obtain ⟨q0, q1, q2⟩ := hW; go_simp; try rfl⟩) hS5 ?_
    try simp only [Act.put, List.setIfInBounds_toArray, List.set_cons_zero, List.set_cons_succ]
    refine wpAnyS_take (i := 3) (d := some 8) (v := undef) rfl rfl rfl (by kernel_rfl) (by kernel_rfl) (by kernel_rfl) (by kernel_rfl) (fun _ _ _ h => h) (.inr ⟨by rfl, rfl⟩) hS5 ?_
    try simp only [Act.put, List.setIfInBounds_toArray, List.set_cons_zero, List.set_cons_succ]
    refine wpAnyS_take (i := 4) (d := some 9) (v := undef) rfl rfl rfl (by kernel_rfl) (by kernel_rfl) (by kernel_rfl) (by kernel_rfl) (fun _ _ _ h => h) (.inr ⟨by rfl, rfl⟩) hS5 ?_
    try simp only [Act.put, List.setIfInBounds_toArray, List.set_cons_zero, List.set_cons_succ]
    refine wpAnyS_take (i := 5) (d := some 10) (v := undef) rfl rfl rfl (by kernel_rfl) (by kernel_rfl) (by kernel_rfl) (by kernel_rfl) (fun _ _ _ h => h) (.inr ⟨by rfl, rfl⟩) hS5 ?_
    try simp only [Act.put, List.setIfInBounds_toArray, List.set_cons_zero, List.set_cons_succ]
    refine wpAnyS_take (i := 6) (d := some 11) (v := undef) rfl rfl rfl (by kernel_rfl) (by kernel_rfl) (by kernel_rfl) (by kernel_rfl) (fun _ _ _ h => h) (.inr ⟨by rfl, rfl⟩) hS5 ?_
    try simp only [Act.put, List.setIfInBounds_toArray, List.set_cons_zero, List.set_cons_succ]
    refine wpAnyS_take (i := 7) (d := some 12) (v := undef) rfl rfl rfl (by kernel_rfl) (by kernel_rfl) (by kernel_rfl) (by kernel_rfl) (fun _ _ _ h => h) (.inr ⟨by rfl, rfl⟩) hS5 ?_
    try simp only [Act.put, List.setIfInBounds_toArray, List.set_cons_zero, List.set_cons_succ]
    refine wpAnyS_take (i := 8) (d := some 13) (v := undef) rfl rfl rfl (by kernel_rfl) (by kernel_rfl) (by kernel_rfl) (by kernel_rfl) (fun _ _ _ h => h) (.inr ⟨by rfl, rfl⟩) hS5 ?_
    try simp only [Act.put, List.setIfInBounds_toArray, List.set_cons_zero, List.set_cons_succ]
    refine wpAnyS_take (i := 9) (d := some 14) (v := undef) rfl rfl rfl (by kernel_rfl) (by kernel_rfl) (by kernel_rfl) (by kernel_rfl) (fun _ _ _ h => h) (.inr ⟨by rfl, rfl⟩) hS5 ?_
    try simp only [Act.put, List.setIfInBounds_toArray, List.set_cons_zero, List.set_cons_succ]
    refine wpAnyS_take (i := 10) (d := some 15) (v := .bool false) rfl rfl rfl (by kernel_rfl) (by kernel_rfl) (by kernel_rfl) (by kernel_rfl) (fun _ _ _ h => h) (.inl ⟨by rfl, fun W hW => by obtain ⟨q0, q1, q2⟩ := hW; go_simp; try rfl⟩) hS5 ?_
    try simp only [Act.put, List.setIfInBounds_toArray, List.set_cons_zero, List.set_cons_succ]
    refine wpAnyS_take (i := 11) (d := some 4) (v := .bool false) rfl rfl rfl (by kernel_rfl) (by kernel_rfl) (by kernel_rfl) (by kernel_rfl) (fun _ _ _ h => h) (.inl ⟨by rfl, fun W hW => by obtain ⟨q0, q1, q2⟩ := hW; go_simp; try rfl⟩) hS5 ?_
    try simp only [Act.put, List.setIfInBounds_toArray, List.set_cons_zero, List.set_cons_succ]
    refine wpAnyS_done (by kernel_rfl) ?_ _
    go_wp2_with fail
    go_ret
    exact ⟨rfl, HB.out.trans (b5.mono HB.out.size)⟩
def mostV (ds : List Int) : Int := Lib.maxOf ds
set_option maxRecDepth 20000 in
set_option maxHeartbeats 1000000 in
theorem most_any (d0 d1 d2 d3 d4 d5 d6 d7 : Int) (w : World) : Calls Tryz.prog 140 #[.agg #[.int .i64 d0, .int .i64 d1, .int .i64 d2, .int .i64 d3, .int .i64 d4, .int .i64 d5, .int .i64 d6, .int .i64 d7]] w fun e w' => e = .returned (.int .i64 (mostV [d0, d1, d2, d3, d4, d5, d6, d7])) ∧ Below w.heap.size w w' := by
  obtain ⟨W0, hW0⟩ : ∃ W0, w.alloc (.cells #[.int .i64 d0, .int .i64 d1, .int .i64 d2, .int .i64 d3, .int .i64 d4, .int .i64 d5, .int .i64 d6, .int .i64 d7] 32) = W0 := ⟨_, rfl⟩
  have HB : Hid (Below w.heap.size w W0) := Lib.hid (by rw [← hW0]; exact ((Below.refl _ _).alloc (Nat.le_refl _) _))
  have hcon := Any.slices_Max_int Tryz.maxF w.heap.size 0 8 8 [d0, d1, d2, d3, d4, d5, d6, d7] W0 (by omega) (by simp) (by omega) (fun j hj => by
    rw [← hW0, Nat.zero_add]
    refine cells_new w [.int .i64 d0, .int .i64 d1, .int .i64 d2, .int .i64 d3, .int .i64 d4, .int .i64 d5, .int .i64 d6, .int .i64 d7] _ j _ ?_
    match j, hj with
    | 0, _ => rfl
    | 1, _ => rfl
    | 2, _ => rfl
    | 3, _ => rfl
    | 4, _ => rfl
    | 5, _ => rfl
    | 6, _ => rfl
    | 7, _ => rfl)
  have HC := Lib.hid (show Calls Tryz.prog 174 #[.slice (some ⟨w.heap.size, 0, none⟩) 8 8] W0 fun e w' => e = .returned (.int .i64 (mostV [d0, d1, d2, d3, d4, d5, d6, d7])) ∧ w' = W0 from hcon)
  have HW := Lib.hid hW0
  clear hcon hW0
  go_enter Tryz.func140, Tryz.ntmps140
  go_wp2_with fail
  rw [HW.out]
  refine HC.out.mono ?_
  rintro e w5 ⟨rfl, e5⟩
  rw [e5]
  go_wp2_with fail
  go_ret
  exact ⟨rfl, HB.out⟩
end Go.Proofs.YtgmdimbiipemhaaGreatDoor
namespace Go.Proofs.YtgmdimbiipemhaaGreatDoor
open Go.RowKit
structure Sl where
  a : Option Addr
  n : Nat
  cap : Nat
def Sl.val (s : Sl) : Value := .slice s.a s.n s.cap
theorem Own.sl {α : Type} {ea : α → List Value} {k : Nat} {e : TypeId} {base : Nat} {w : World} {v : Value} {l : List α} (h : Own ea k e base w v l) : ∃ s : Sl, v = .slice s.a s.n s.cap := by
  rcases h.eq_slice with ⟨rfl, _⟩ | ⟨g, c, rfl, _, _⟩
  · exact ⟨⟨none, 0, 0⟩, rfl⟩
  · exact ⟨⟨_, _, _⟩, rfl⟩
theorem Own.nlen {α : Type} {ea : α → List Value} {q : Nat} {T : TypeId} {base : Nat} {w : World} {a : Option Addr} {n cap : Nat} {l : List α} (h : Own ea q T base w (.slice a n cap) l) (hk : ∀ x, (ea x).length = q) : n = l.length ∧ n ≤ cap ∧ cap ≤ 9223372036854775807 := by
  obtain ⟨a, c, e1, h2, h3, h4⟩ := h.slice hk
  cases e1
  exact ⟨rfl, h2, by unfold maxLen at h3; exact h3⟩
def u8c (x : UInt8) : List Value := [.int .u8 x.toNat]
theorem u8c_len (x : UInt8) : (u8c x).length = 1 := rfl
theorem u8c_one (x : UInt8) : ∀ u ∈ u8c x, u.oneCell' = true := by
  intro u hu
  simp only [u8c, List.mem_cons, List.not_mem_nil, or_false] at hu
  subst hu
  rfl
theorem u8_new (W : World) (x : UInt8) : ∀ j u, (u8c x)[j]? = some u → (W.alloc (.cells #[.int .u8 x.toNat] 5)).cell? ⟨W.heap.size, j, none⟩ = some u := by
  intro j u hj
  rw [World.cell?_alloc_at _ _ _ _ rfl, ← hj, u8c]
  simp
theorem info_u8 : (Tryz.prog.info? 5).map (fun i => (i.zero, i.size, i.bytes)) = some (some (.int .u8 0), 1, 1) := by kernel_rfl
def intc (x : Int) : List Value := [.int .i64 x]
theorem intc_len (x : Int) : (intc x).length = 1 := rfl
theorem intc_one (x : Int) : ∀ u ∈ intc x, u.oneCell' = true := by
  intro u hu
  simp only [intc, List.mem_cons, List.not_mem_nil, or_false] at hu
  subst hu
  rfl
theorem int_new (W : World) (x : Int) : ∀ j u, (intc x)[j]? = some u → (W.alloc (.cells #[.int .i64 x] 3)).cell? ⟨W.heap.size, j, none⟩ = some u := by
  intro j u hj
  rw [World.cell?_alloc_at _ _ _ _ rfl, ← hj, intc]
  simp
theorem info_int : (Tryz.prog.info? 3).map (fun i => (i.zero, i.size, i.bytes)) = some (some (.int .i64 0), 1, 8) := by kernel_rfl
def btc (x : Bool) : List Value := [.bool x]
theorem btc_len (x : Bool) : (btc x).length = 1 := rfl
theorem btc_one (x : Bool) : ∀ u ∈ btc x, u.oneCell' = true := by
  intro u hu
  simp only [btc, List.mem_cons, List.not_mem_nil, or_false] at hu
  subst hu
  rfl
theorem bt_new (W : World) (x : Bool) : ∀ j u, (btc x)[j]? = some u → (W.alloc (.cells #[.bool x] 4)).cell? ⟨W.heap.size, j, none⟩ = some u := by
  intro j u hj
  rw [World.cell?_alloc_at _ _ _ _ rfl, ← hj, btc]
  simp
theorem info_bt : (Tryz.prog.info? 4).map (fun i => (i.zero, i.size, i.bytes)) = some (some (.bool false), 1, 1) := by kernel_rfl
theorem SliceIs.at1 {α : Type} {ea : α → List Value} {w : World} {a : Option Addr} {n cap : Nat} {l : List α} (h : SliceIs ea 1 w (.slice a n cap) l) {k : Nat} {x : α} {u : Value} (hx : l[k]? = some x) (hu : ea x = [u]) : ∃ b o, a = some ⟨b, o, none⟩ ∧ w.cell? ⟨b, o + k, none⟩ = some u := by
  obtain ⟨_, _, e, _, _, h4⟩ := h
  cases e
  obtain ⟨b, o, rfl, h5⟩ := h4 (by rintro rfl; simp at hx)
  have := h5 k x hx 0 u (by rw [hu]; rfl)
  rw [Nat.mul_one, Nat.add_zero] at this
  exact ⟨b, o, rfl, this⟩
theorem SliceIs.n_eq {α : Type} {ea : α → List Value} {q : Nat} {w : World} {a : Option Addr} {n cap : Nat} {l : List α} (h : SliceIs ea q w (.slice a n cap) l) : n = l.length ∧ n ≤ cap ∧ cap ≤ 9223372036854775807 := by
  obtain ⟨_, _, e, h2, h3, _⟩ := h
  cases e
  exact ⟨rfl, h2, by unfold maxLen at h3; exact h3⟩
end Go.Proofs.YtgmdimbiipemhaaGreatDoor
namespace Go.Proofs.YtgmdimbiipemhaaGreatDoor
def putB (n : Nat) : List UInt8 := if n < 128 then [UInt8.ofNat n] else UInt8.ofNat (n % 128 + 128) :: putB (n / 128)
termination_by n
decreasing_by omega
theorem putB_lt {n : Nat} (h : n < 128) : putB n = [UInt8.ofNat n] := by rw [putB, if_pos h]
theorem putB_ge {n : Nat} (h : ¬ n < 128) : putB n = UInt8.ofNat (n % 128 + 128) :: putB (n / 128) := by rw [putB, if_neg h]
theorem putB_ne (n : Nat) : putB n ≠ [] := by
  rw [putB]
  split <;> simp
theorem u8_nat {n : Nat} (h : n < 256) : (UInt8.ofNat n).toNat = n := by simp; omega
theorem putB_uniq : ∀ (n m : Nat) (b : List UInt8), putB n <+: b → putB m <+: b → n = m := by
  intro n
  induction n using Nat.strongRecOn with
  | ind n ih =>
    intro m b hn hm
    by_cases h1 : n < 128
    · by_cases h2 : m < 128
      · rw [putB_lt h1] at hn
        rw [putB_lt h2] at hm
        obtain ⟨t, rfl⟩ := hn
        obtain ⟨s, e⟩ := hm
        simp only [List.cons_append, List.nil_append, List.cons.injEq] at e
        have := congrArg UInt8.toNat e.1
        rw [u8_nat (by omega), u8_nat (by omega)] at this
        exact this.symm
      · rw [putB_lt h1] at hn
        rw [putB_ge h2] at hm
        obtain ⟨t, rfl⟩ := hn
        obtain ⟨s, e⟩ := hm
        simp only [List.cons_append, List.nil_append, List.cons.injEq] at e
        have := congrArg UInt8.toNat e.1
        rw [u8_nat (by omega), u8_nat (by omega)] at this
        omega
    · by_cases h2 : m < 128
      · rw [putB_ge h1] at hn
        rw [putB_lt h2] at hm
        obtain ⟨t, rfl⟩ := hm
        obtain ⟨s, e⟩ := hn
        simp only [List.cons_append, List.nil_append, List.cons.injEq] at e
        have := congrArg UInt8.toNat e.1
        rw [u8_nat (by omega), u8_nat (by omega)] at this
        omega
      · rw [putB_ge h1] at hn
        rw [putB_ge h2] at hm
        cases b with
        | nil => simp at hn
        | cons x b =>
          rw [List.cons_prefix_cons] at hn hm
          have e := congrArg UInt8.toNat (hn.1.trans hm.1.symm)
          rw [u8_nat (by omega), u8_nat (by omega)] at e
          have := ih (n / 128) (by omega) (m / 128) b hn.2 hm.2
          omega
def valB : List UInt8 → Nat
  | [] => 0
  | x :: l => x.toNat % 128 + 128 * valB l
theorem valB_snoc : ∀ (l : List UInt8) (x : UInt8), valB (l ++ [x]) = valB l + x.toNat % 128 * 128 ^ l.length
  | [], x => by simp [valB]
  | y :: l, x => by
    rw [List.cons_append, valB, valB_snoc l x, valB, List.length_cons, Nat.pow_succ]
    rw [Nat.mul_add, ← Nat.mul_assoc, Nat.mul_comm 128 (x.toNat % 128), Nat.mul_assoc, Nat.mul_comm 128 (128 ^ l.length)]
    omega
theorem valB_lt : ∀ l : List UInt8, valB l < 128 ^ l.length
  | [] => by simp [valB]
  | x :: l => by
    have := valB_lt l
    rw [valB, List.length_cons, Nat.pow_succ]
    have : x.toNat % 128 < 128 := Nat.mod_lt _ (by omega)
    omega
theorem putB_val : ∀ (l : List UInt8) (x : UInt8), (∀ y ∈ l, 128 ≤ y.toNat) → x.toNat < 128 → (l ≠ [] → x.toNat ≠ 0) → putB (valB (l ++ [x])) = l ++ [x]
  | [], x, _, h2, _ => by
    simp only [List.nil_append, valB, Nat.mul_zero, Nat.add_zero]
    rw [Nat.mod_eq_of_lt h2, putB_lt h2]
    simp
  | y :: l, x, h1, h2, h3 => by
    have hy := h1 y (by simp)
    have hy2 : y.toNat < 256 := y.toNat_lt
    have hp : 0 < valB (l ++ [x]) := by
      rw [valB_snoc, Nat.mod_eq_of_lt h2]
      have := h3 (by simp)
      have h4 : 0 < 128 ^ l.length := Nat.pow_pos (by omega)
      have : 0 < x.toNat * 128 ^ l.length := Nat.mul_pos (by omega) h4
      omega
    have ih := putB_val l x (fun z hz => h1 z (by simp [hz])) h2 (fun _ => h3 (by simp))
    rw [List.cons_append, valB, putB_ge (by omega)]
    have e1 : (y.toNat % 128 + 128 * valB (l ++ [x])) / 128 = valB (l ++ [x]) := by omega
    have e2 : (y.toNat % 128 + 128 * valB (l ++ [x])) % 128 + 128 = y.toNat := by omega
    rw [e1, e2, ih]
    simp
theorem putB_shape : ∀ (n : Nat), ∃ l x, putB n = l ++ [x] ∧ (∀ y ∈ l, 128 ≤ y.toNat) ∧ x.toNat < 128 ∧ (l ≠ [] → x.toNat ≠ 0) ∧ valB (l ++ [x]) = n := by
  intro n
  induction n using Nat.strongRecOn with
  | ind n ih =>
    by_cases h : n < 128
    · refine ⟨[], UInt8.ofNat n, by rw [putB_lt h]; rfl, fun y hy => by simp at hy, by rw [u8_nat (by omega)]; exact h, fun h => absurd rfl h, ?_⟩
      simp only [List.nil_append, valB]
      rw [u8_nat (by omega)]
      omega
    · obtain ⟨l, x, h1, h2, h3, h4, h5⟩ := ih (n / 128) (by omega)
      refine ⟨UInt8.ofNat (n % 128 + 128) :: l, x, by rw [putB_ge h, h1]; rfl, fun y hy => ?_, h3, fun _ hx => ?_, ?_⟩
      · rcases List.mem_cons.1 hy with rfl | hy
        · rw [u8_nat (by omega)]; omega
        · exact h2 y hy
      · by_cases hl : l = []
        · subst hl
          simp only [List.nil_append, valB] at h5
          omega
        · exact h4 hl hx
      · rw [List.cons_append, valB, h5, u8_nat (by omega)]
        omega
theorem putB_len (n k : Nat) (hk : 0 < k) : (putB n).length ≤ k ↔ n < 128 ^ k := by
  induction k generalizing n with
  | zero => omega
  | succ k ih =>
    by_cases h : n < 128
    · rw [putB_lt h]
      have : 128 ≤ 128 ^ (k + 1) := by rw [Nat.pow_succ]; have := Nat.pow_pos (n := k) (show 0 < 128 by omega); omega
      simp
      omega
    · rw [putB_ge h, List.length_cons, Nat.pow_succ]
      by_cases hk0 : k = 0
      · subst hk0
        have := putB_ne (n / 128)
        have h1 : 0 < (putB (n / 128)).length := List.length_pos_iff.2 this
        rw [Nat.pow_zero, Nat.one_mul]
        constructor
        · intro h2; omega
        · intro h2; exact absurd h2 h
      · have := ih (n / 128) (by omega)
        rw [Nat.add_le_add_iff_right, this]
        rw [Nat.div_lt_iff_lt_mul (by omega)]
def TakeIs (b : List UInt8) (n : Nat) : Prop := n < 18446744073709551616 ∧ putB n <+: b
theorem TakeIs.uniq {b : List UInt8} {n m : Nat} (h : TakeIs b n) (k : TakeIs b m) : n = m := putB_uniq n m b h.2 k.2
open Classical in
noncomputable def takeV (b : List UInt8) : Option Nat := if h : ∃ n, TakeIs b n then some (Classical.choose h) else none
theorem takeV_some {b : List UInt8} {n : Nat} : takeV b = some n ↔ TakeIs b n := by
  unfold takeV
  constructor
  · intro h
    split at h
    · rename_i hx
      cases h
      exact Classical.choose_spec hx
    · cases h
  · intro h
    have hx : ∃ n, TakeIs b n := ⟨n, h⟩
    rw [dif_pos hx]
    exact congrArg some ((Classical.choose_spec hx).uniq h)
theorem takeV_none {b : List UInt8} : takeV b = none ↔ ∀ n, ¬ TakeIs b n := by
  constructor
  · intro h n hn
    rw [takeV_some.2 hn] at h
    cases h
  · intro h
    cases hb : takeV b with
    | none => rfl
    | some n => exact absurd (takeV_some.1 hb) (h n)
def Goes (b : List UInt8) (i : Nat) : Prop := i ≤ b.length ∧ ∀ (j : Nat) x, j < i → b[j]? = some x → 128 ≤ x.toNat
theorem goes_zero (b : List UInt8) : Goes b 0 := ⟨Nat.zero_le _, fun j x hj => absurd hj (by omega)⟩
theorem Goes.succ {b : List UInt8} {i : Nat} {x : UInt8} (h : Goes b i) (hx : b[i]? = some x) (hg : 128 ≤ x.toNat) : Goes b (i + 1) :=
  ⟨(List.getElem?_eq_some_iff.1 hx).1, fun j y hj hy => by
    by_cases e : j = i
    · subst e; rw [hx] at hy; cases hy; exact hg
    · exact h.2 j y (by omega) hy⟩
theorem Goes.all {b : List UInt8} {i : Nat} (h : Goes b i) : ∀ y ∈ b.take i, 128 ≤ y.toNat := fun y hy => by
  obtain ⟨j, hj⟩ := List.getElem?_of_mem hy
  rw [List.getElem?_take] at hj
  split at hj
  · exact h.2 j y (by assumption) hj
  · cases hj
theorem take_snocU {b : List UInt8} {i : Nat} {x : UInt8} (hx : b[i]? = some x) : b.take (i + 1) = b.take i ++ [x] := by
  rw [List.take_add_one, hx, Option.toList_some]
theorem Goes.stop {b : List UInt8} {i : Nat} {x : UInt8} (h : Goes b i) (hx : b[i]? = some x) (hl : x.toNat < 128) (h0 : 0 < i → x.toNat ≠ 0) (hn : valB (b.take (i + 1)) < 18446744073709551616) :
    TakeIs b (valB (b.take (i + 1))) ∧ (putB (valB (b.take (i + 1)))).length = i + 1 := by
  have hi := (List.getElem?_eq_some_iff.1 hx).1
  have e := putB_val (b.take i) x h.all hl (fun hne => h0 (by
    by_cases e : i = 0
    · subst e; simp at hne
    · omega))
  rw [← take_snocU hx] at e
  refine ⟨⟨hn, ?_⟩, ?_⟩
  · rw [e]; exact List.take_prefix _ _
  · rw [e, List.length_take]; omega
theorem Goes.bad {b : List UInt8} {i n : Nat} {x : UInt8} (h : Goes b i) (hx : b[i]? = some x) (hb : (0 < i ∧ x.toNat = 0) ∨ (i = 9 ∧ 1 < x.toNat % 128)) : ¬ TakeIs b n := fun ⟨hn, hp⟩ => by
  obtain ⟨l, y, h1, h2, h3, h4, h5⟩ := putB_shape n
  have hlen : (putB n).length ≤ 10 := (putB_len n 10 (by omega)).2 (by omega)
  rw [h1] at hp hlen
  have hget : ∀ j z, (l ++ [y])[j]? = some z → b[j]? = some z := fun j z hz => by
    obtain ⟨t, rfl⟩ := hp
    rw [List.getElem?_append_left (List.getElem?_eq_some_iff.1 hz).1]
    exact hz
  rw [List.length_append, List.length_cons, List.length_nil] at hlen
  have hyl := hget l.length y (by simp)
  have hll : ¬ l.length < i := fun hlt => by
    have := h.2 l.length y hlt hyl
    omega
  rcases Nat.lt_or_ge i l.length with hil | hil
  · -- it goes on behind i
    obtain ⟨z, hz⟩ : ∃ z, l[i]? = some z := ⟨_, List.getElem?_eq_getElem hil⟩
    have := hget i z (by rw [List.getElem?_append_left hil]; exact hz)
    rw [hx] at this
    cases this
    have hxg := h2 x (List.mem_of_getElem? hz)
    rcases hb with ⟨_, h0⟩ | ⟨h9, _⟩ <;> omega
  · have hil2 : i = l.length := by omega
    subst hil2
    rw [hx] at hyl
    cases hyl
    rcases hb with ⟨h0, hz⟩ | ⟨h9, hz⟩
    · exact h4 (by intro e; rw [e] at h0; simp at h0) hz
    · rw [valB_snoc, h9, Nat.mod_eq_of_lt h3] at h5
      rw [Nat.mod_eq_of_lt h3] at hz
      have : 2 * 128 ^ 9 ≤ x.toNat * 128 ^ 9 := Nat.mul_le_mul_right _ (by omega)
      omega
theorem Goes.over {b : List UInt8} {i n : Nat} (h : Goes b i) (hi : i = b.length ∨ i = 10) : ¬ TakeIs b n := fun ⟨hn, hp⟩ => by
  obtain ⟨l, y, h1, h2, h3, h4, h5⟩ := putB_shape n
  have hlen : (putB n).length ≤ 10 := (putB_len n 10 (by omega)).2 (by omega)
  have hle := hp.length_le
  rw [h1] at hp hlen hle
  rw [List.length_append, List.length_cons, List.length_nil] at hlen hle
  have hyl : b[l.length]? = some y := by
    obtain ⟨t, rfl⟩ := hp
    rw [List.getElem?_append_left (by simp)]
    simp
  have := h.2 l.length y (by rcases hi with hi | hi <;> omega) hyl
  omega
def zigN (n : Int) : Nat := if 0 ≤ n then (2 * n).toNat else (-2 * n - 1).toNat
def zagI (n : Nat) : Int := if n % 2 = 0 then ((n / 2 : Nat) : Int) else -((n / 2 : Nat) : Int) - 1
theorem zag_zig (n : Int) : zagI (zigN n) = n := by
  unfold zagI zigN
  split <;> split <;> omega
theorem zig_zag (n : Nat) : zigN (zagI n) = n := by
  unfold zagI zigN
  split <;> split <;> omega
theorem zigN_lt {n : Int} (h1 : -9223372036854775808 ≤ n) (h2 : n ≤ 9223372036854775807) : zigN n < 18446744073709551616 := by
  unfold zigN
  split <;> omega
theorem zagI_in {n : Nat} (h : n < 18446744073709551616) : -9223372036854775808 ≤ zagI n ∧ zagI n ≤ 9223372036854775807 := by
  unfold zagI
  split <;> omega
end Go.Proofs.YtgmdimbiipemhaaGreatDoor
namespace Go.Proofs.YtgmdimbiipemhaaGreatDoor
open Go.RowKit Go.Deep
theorem eq_bytes (a b : ByteArray) : a.toList = b.toList ↔ a = b := by
  rw [ByteArray.toList_eq, ByteArray.toList_eq]
  constructor
  · intro h
    obtain ⟨x⟩ := a
    obtain ⟨y⟩ := b
    exact congrArg ByteArray.mk (Array.toList_inj.1 h)
  · intro h; rw [h]
theorem und_string : Tryz.prog.underlying 9 = some .string := by kernel_rfl
theorem beq_bytes (a b : ByteArray) : (a == b) = decide (a = b) := by
  rw [show (a == b) = (a.data == b.data) from by cases a; cases b; rfl]
  by_cases h : a = b
  · subst h; simp
  · have : ¬ a.data = b.data := fun e => h (by cases a; cases b; cases e; rfl)
    simp [h, this]
theorem fold_push : ∀ (bs : List UInt8) (s : ByteArray), (bs.map fun x => (x.toNat : Int)).foldl (fun r n => r.push (UInt8.ofNat n.toNat)) s = ⟨(s.data.toList ++ bs).toArray⟩
  | [], s => by cases s; simp
  | b :: bs, s => by
    rw [List.map_cons, List.foldl_cons, fold_push bs]
    congr 1
    simp [ByteArray.push]
theorem conv_bytes {W : World} {v : Value} {bs : List UInt8} (h : SliceIs u8c 1 W v bs) : (convert 22 9 v).run Tryz.prog W = .ok (.string ⟨bs.toArray⟩) W := by
  obtain ⟨a, cap, rfl, hcap, hmax, hcs⟩ := h
  rw [run_convert_bytes_string W 22 9 5 a bs.length cap Tryz.underlying22 (by kernel_rfl) Tryz.underlying9]
  cases a with
  | none =>
    have hys : bs = [] := Classical.byContradiction fun hn => by obtain ⟨b, o, e, _⟩ := hcs hn; cases e
    subst hys
    simp [Conv.bytesToString]
    rfl
  | some ad =>
    have hl := run_loadCells_list (P := Tryz.prog) W ad ((bs.map fun x => (x.toNat : Int)).map (Value.int .u8)) (fun j v hj => by
      rw [List.map_map, List.getElem?_map] at hj
      cases hb : bs[j]? with
      | none => rw [hb] at hj; cases hj
      | some x =>
        rw [hb] at hj
        cases hj
        obtain ⟨b, o, e, h4⟩ := hcs (by rintro rfl; simp at hb)
        cases e
        have := h4 j x hb 0 _ rfl
        rw [Nat.mul_one, Nat.add_zero] at this
        rw [show (Addr.add ⟨b, o, none⟩ j) = ⟨b, o + j, none⟩ from by unfold Addr.add; split <;> simp_all]
        exact this)
    have := run_bytesToString (P := Tryz.prog) W ad bs.length cap (bs.map fun x => (x.toNat : Int)) (by simpa using hl)
    rw [this, fold_push]
    simp
theorem SliceIs.take1 {α : Type} {ea : α → List Value} {q : Nat} {w : World} {a : Option Addr} {cap n k : Nat} {l : List α} (h : SliceIs ea q w (.slice a n cap) l) (hn : k ≤ l.length) : SliceIs ea q w (.slice a k cap) (l.take k) := by
  obtain ⟨a', cap', e, hc, hm, h4⟩ := h
  cases e
  have e : (l.take k).length = k := by rw [List.length_take]; omega
  refine ⟨a, cap, by rw [e], by omega, hm, fun hl => ?_⟩
  obtain ⟨b, off, h5, h6⟩ := h4 (by rintro rfl; simp at hl)
  refine ⟨b, off, h5, fun i x hi j u hj => h6 i x ?_ j u hj⟩
  rw [List.getElem?_take] at hi
  split at hi
  · exact hi
  · cases hi
end Go.Proofs.YtgmdimbiipemhaaGreatDoor
namespace Go.Proofs.YtgmdimbiipemhaaGreatDoor
open Go.RowKit Go.Deep Go.Shelf
def nameB (s : ByteArray) : Bool := decide (1 ≤ s.size ∧ s.size ≤ 8) && s.data.toList.all fun c => decide (97 ≤ c.toNat ∧ c.toNat ≤ 122)
def valueB (s : ByteArray) : Bool := decide (s.size ≤ 16) && s.data.toList.all fun c => decide (32 ≤ c.toNat ∧ c.toNat ≤ 126)
def keyB (s : ByteArray) : Bool := decide (1 ≤ s.size ∧ s.size ≤ 64) && (s.data.toList.all fun c => decide (48 ≤ c.toNat ∧ c.toNat ≤ 57 ∨ 97 ≤ c.toNat ∧ c.toNat ≤ 122)) && decide (s.data.toList.getLast? ≠ some 48)
theorem dropW_nil {α : Type} (p : α → Bool) : ∀ l : List α, l.dropWhile p = [] ↔ ∀ x ∈ l, p x = true
  | [] => by simp
  | x :: l => by
    rw [List.dropWhile_cons]
    split
    · rename_i h
      rw [dropW_nil p l]
      simp [h]
    · rename_i h
      simp [h]
theorem trim_none (l cs : List UInt8) : Lib.trimS l cs = [] ↔ ∀ c ∈ l, c ∈ cs := by
  unfold Lib.trimS Lib.trimRightS Lib.trimLeftS
  constructor
  · intro h c hc
    rw [dropW_nil] at h
    by_cases hx : c ∈ (l.reverse.dropWhile (cs.contains ·)).reverse
    · simpa using h c hx
    · have h2 : c ∈ l.reverse := by simpa using hc
      rw [← List.takeWhile_append_dropWhile (p := (cs.contains ·)) (l := l.reverse)] at h2
      rcases List.mem_append.1 h2 with h2 | h2
      · have := List.all_takeWhile (p := (cs.contains ·)) (l := l.reverse)
        simpa using List.all_eq_true.1 this c h2
      · exact absurd (by simpa using h2) hx
  · intro h
    have : l.reverse.dropWhile (cs.contains ·) = [] := by
      rw [dropW_nil]
      intro c hc
      simpa using h c (by simpa using hc)
    rw [this]
    rfl
def lettersL : List UInt8 := [97, 98, 99, 100, 101, 102, 103, 104, 105, 106, 107, 108, 109, 110, 111, 112, 113, 114, 115, 116, 117, 118, 119, 120, 121, 122]
def alnumL : List UInt8 := [48, 49, 50, 51, 52, 53, 54, 55, 56, 57, 97, 98, 99, 100, 101, 102, 103, 104, 105, 106, 107, 108, 109, 110, 111, 112, 113, 114, 115, 116, 117, 118, 119, 120, 121, 122]
theorem mem_letters (c : UInt8) : c ∈ lettersL ↔ 97 ≤ c.toNat ∧ c.toNat ≤ 122 := by
  have key : ∀ n : Fin 256, (UInt8.ofNat n.val) ∈ lettersL ↔ 97 ≤ n.val ∧ n.val ≤ 122 := by decide +kernel
  have := key ⟨c.toNat, c.toNat_lt⟩
  simpa using this
theorem mem_alnum (c : UInt8) : c ∈ alnumL ↔ (48 ≤ c.toNat ∧ c.toNat ≤ 57 ∨ 97 ≤ c.toNat ∧ c.toNat ≤ 122) := by
  have key : ∀ n : Fin 256, (UInt8.ofNat n.val) ∈ alnumL ↔ (48 ≤ n.val ∧ n.val ≤ 57 ∨ 97 ≤ n.val ∧ n.val ≤ 122) := by decide +kernel
  have := key ⟨c.toNat, c.toNat_lt⟩
  simpa using this
theorem size_list (s : ByteArray) : s.data.toList.length = s.size := by simp
theorem empty_eq (l : List UInt8) : (⟨l.toArray⟩ : ByteArray).toList.isEmpty = decide (l = []) := by
  rw [ByteArray.toList_eq]
  cases l with
  | nil => rfl
  | cons x l => rw [decide_eq_false (by simp)]; rfl
theorem nameB_trim {s : ByteArray} (h1 : 1 ≤ s.size) (h2 : s.size ≤ 8) : nameB s = decide (Lib.trimS s.data.toList lettersL = []) := by
  unfold nameB
  rw [decide_eq_true ⟨h1, h2⟩, Bool.true_and]
  by_cases ht : Lib.trimS s.data.toList lettersL = []
  · rw [decide_eq_true ht]
    rw [trim_none] at ht
    exact List.all_eq_true.2 fun c hc => decide_eq_true ((mem_letters c).1 (ht c hc))
  · rw [decide_eq_false ht]
    refine Bool.eq_false_iff.2 fun h => ht ?_
    rw [trim_none]
    exact fun c hc => (mem_letters c).2 (of_decide_eq_true (List.all_eq_true.1 h c hc))
theorem keyB_trim {s : ByteArray} (h1 : 1 ≤ s.size) (h2 : s.size ≤ 64) : keyB s = (decide (Lib.trimS s.data.toList alnumL = []) && !(Lib.hasSuffix s.data.toList [48])) := by
  have e2 : (!(Lib.hasSuffix s.data.toList [48])) = decide (s.data.toList.getLast? ≠ some 48) := by
    unfold Lib.hasSuffix
    by_cases h : s.data.toList.getLast? = some 48
    · rw [decide_eq_false (by simp [h])]
      have : [48] <:+ s.data.toList := by
        obtain ⟨ys, hys⟩ := List.getLast?_eq_some_iff.1 h
        exact ⟨ys, hys.symm⟩
      simp [List.isSuffixOf_iff_suffix.2 this]
    · rw [decide_eq_true h]
      have : ¬ [48] <:+ s.data.toList := fun ⟨ys, hys⟩ => h (by rw [← hys]; simp)
      have h3 : [48].isSuffixOf s.data.toList = false := Bool.eq_false_iff.2 fun e => this (List.isSuffixOf_iff_suffix.1 e)
      rw [h3]; rfl
  unfold keyB
  rw [decide_eq_true ⟨h1, h2⟩, Bool.true_and, e2]
  congr 1
  by_cases ht : Lib.trimS s.data.toList alnumL = []
  · rw [decide_eq_true ht]
    rw [trim_none] at ht
    exact List.all_eq_true.2 fun c hc => decide_eq_true ((mem_alnum c).1 (ht c hc))
  · rw [decide_eq_false ht]
    refine Bool.eq_false_iff.2 fun h => ht ?_
    rw [trim_none]
    exact fun c hc => (mem_alnum c).2 (of_decide_eq_true (List.all_eq_true.1 h c hc))
set_option maxHeartbeats 1000000 in
theorem name_any (s : ByteArray) (w : World) (hs : s.size ≤ 9223372036854775807) : Calls Tryz.prog 143 #[.string s] w fun e w' => e = .returned (.bool (nameB s)) ∧ Below w.heap.size w w' := by
  by_cases h1 : 1 ≤ s.size
  · have h1' : (1 : Int) ≤ (s.size : Int) := by omega
    by_cases h2 : s.size ≤ 8
    · have h2' : (s.size : Int) ≤ 8 := by omega
      have hcon := Any.strings_Trim_laid Tryz.trimF (by kernel_rfl) s ⟨#[97, 98, 99, 100, 101, 102, 103, 104, 105, 106, 107, 108, 109, 110, 111, 112, 113, 114, 115, 116, 117, 118, 119, 120, 121, 122]⟩ w hs (by decide) (ascii_of_all (by decide))
      change Calls Tryz.prog 176 _ _ (fun e w' => e = .returned (.string ⟨(Lib.trimS s.data.toList lettersL).toArray⟩) ∧ Below w.heap.size w w') at hcon
      have HC := Lib.hid hcon
      have hb := nameB_trim h1 h2
      have he := empty_eq (Lib.trimS s.data.toList lettersL)
      rw [← hb] at he
      have HE := Lib.hid he
      generalize (⟨(Lib.trimS s.data.toList lettersL).toArray⟩ : ByteArray) = r at HC HE
      clear hcon hb he h1 h2
      go_enter Tryz.func143, Tryz.ntmps143
      go_wp2_with fail
      refine HC.out.mono ?_
      rintro e w5 ⟨rfl, b5⟩
      have he := HE.out
      go_wp2_with fail
      go_ret
      exact ⟨rfl, b5⟩
    · have h2' : ¬ (s.size : Int) ≤ 8 := by omega
      have HN : Hid (nameB s = false) := Lib.hid (by unfold nameB; rw [decide_eq_false (fun h => h2 h.2)]; rfl)
      clear h1 h2
      go_enter Tryz.func143, Tryz.ntmps143
      go_wp2_with fail
      go_ret
      exact ⟨by rw [HN.out]; rfl, Below.refl _ _⟩
  · have h1' : ¬ (1 : Int) ≤ (s.size : Int) := by omega
    have HN : Hid (nameB s = false) := Lib.hid (by unfold nameB; rw [decide_eq_false (fun h => h1 h.1)]; rfl)
    clear h1
    go_enter Tryz.func143, Tryz.ntmps143
    go_wp2_with fail
    go_ret
    exact ⟨by rw [HN.out]; rfl, Below.refl _ _⟩
set_option maxHeartbeats 1000000 in
theorem key_any (s : ByteArray) (w : World) (hs : s.size ≤ 9223372036854775807) : Calls Tryz.prog 142 #[.string s] w fun e w' => e = .returned (.bool (keyB s)) ∧ Below w.heap.size w w' := by
  by_cases h1 : 1 ≤ s.size
  · have h1' : (1 : Int) ≤ (s.size : Int) := by omega
    by_cases h2 : s.size ≤ 64
    · have h2' : (s.size : Int) ≤ 64 := by omega
      have hcon := Any.strings_Trim_laid Tryz.trimF (by kernel_rfl) s ⟨#[48, 49, 50, 51, 52, 53, 54, 55, 56, 57, 97, 98, 99, 100, 101, 102, 103, 104, 105, 106, 107, 108, 109, 110, 111, 112, 113, 114, 115, 116, 117, 118, 119, 120, 121, 122]⟩ w hs (by decide) (ascii_of_all (by decide))
      change Calls Tryz.prog 176 _ _ (fun e w' => e = .returned (.string ⟨(Lib.trimS s.data.toList alnumL).toArray⟩) ∧ Below w.heap.size w w') at hcon
      have HC := Lib.hid hcon
      have hsuf := fun w' => Any.strings_HasSuffix Tryz.sufF s ⟨#[48]⟩ w' hs
      change ∀ w', Calls Tryz.prog 177 _ _ (fun e w'' => e = .returned (.bool (Lib.hasSuffix s.data.toList [48])) ∧ w'' = w') at hsuf
      have HS := Lib.hid hsuf
      have HB := Lib.hid (keyB_trim h1 h2)
      have he := empty_eq (Lib.trimS s.data.toList alnumL)
      obtain ⟨tb, htb⟩ : ∃ tb, tb = decide (Lib.trimS s.data.toList alnumL = []) := ⟨_, rfl⟩
      rw [← htb] at HB he
      have HE := Lib.hid he
      generalize (⟨(Lib.trimS s.data.toList alnumL).toArray⟩ : ByteArray) = r at HC HE
      generalize Lib.hasSuffix s.data.toList [48] = sb at HB HS
      clear hcon hsuf he h1 h2 htb
      go_enter Tryz.func142, Tryz.ntmps142
      go_wp2_with fail
      refine HC.out.mono ?_
      rintro e w5 ⟨rfl, b5⟩
      have he := HE.out
      cases tb with
      | false =>
        go_wp2_with fail
        go_ret
        exact ⟨by rw [HB.out]; rfl, b5⟩
      | true =>
        go_wp2_with fail
        refine (HS.out _).mono ?_
        rintro e w6 ⟨rfl, e6⟩
        rw [e6]
        clear e6 w6
        go_wp2_with fail
        go_ret
        exact ⟨by rw [HB.out]; simp, b5⟩
    · have h2' : ¬ (s.size : Int) ≤ 64 := by omega
      have HN : Hid (keyB s = false) := Lib.hid (by unfold keyB; rw [decide_eq_false (fun h => h2 h.2)]; rfl)
      clear h1 h2
      go_enter Tryz.func142, Tryz.ntmps142
      go_wp2_with fail
      go_ret
      exact ⟨by rw [HN.out]; rfl, Below.refl _ _⟩
  · have h1' : ¬ (1 : Int) ≤ (s.size : Int) := by omega
    have HN : Hid (keyB s = false) := Lib.hid (by unfold keyB; rw [decide_eq_false (fun h => h1 h.1)]; rfl)
    clear h1
    go_enter Tryz.func142, Tryz.ntmps142
    go_wp2_with fail
    go_ret
    exact ⟨by rw [HN.out]; rfl, Below.refl _ _⟩
theorem und_u8 : Tryz.prog.underlying 5 = some (.int .u8) := by kernel_rfl
theorem conv_string (s : ByteArray) (w : World) : ∃ W1 cap, (convert 9 22 (.string s)).run Tryz.prog w = .ok (.slice (some ⟨w.heap.size, 0, none⟩) s.size cap) W1 ∧ Below w.heap.size w W1 ∧ ∀ (j : Nat) c, s.data.toList[j]? = some c → W1.cell? ⟨w.heap.size, j, none⟩ = some (.int .u8 c.toNat) := by
  refine ⟨_, _, Lib.run_convert_string_bytes w 9 22 5 s Tryz.underlying9 Tryz.underlying22 und_u8, ⟨rfl, rfl, rfl, by rw [Lib.bytesWorld_size]; omega, fun k hk => Lib.bytesWorld_at_old w _ s k hk⟩, fun j c hc => ?_⟩
  have hj := (List.getElem?_eq_some_iff.1 hc).1
  rw [size_list] at hj
  rw [Lib.bytesWorld_cell w _ s j hj, List.getD_eq_getElem?_getD, hc]
  rfl
theorem valueB_snoc (s : ByteArray) (k : Nat) (c : UInt8) (hc : s.data.toList[k]? = some c) : ((s.data.toList.take (k + 1)).all fun c => decide (32 ≤ c.toNat ∧ c.toNat ≤ 126)) = (((s.data.toList.take k).all fun c => decide (32 ≤ c.toNat ∧ c.toNat ≤ 126)) && decide (32 ≤ c.toNat ∧ c.toNat ≤ 126)) := by
  rw [List.take_add_one, hc, Option.toList_some, List.all_append]
  simp
theorem valueB_bad {s : ByteArray} {k : Nat} {c : UInt8} (hc : s.data.toList[k]? = some c) (h : ¬ (32 ≤ c.toNat ∧ c.toNat ≤ 126)) : valueB s = false := by
  unfold valueB
  have : (s.data.toList.all fun c => decide (32 ≤ c.toNat ∧ c.toNat ≤ 126)) = false := Bool.eq_false_iff.2 fun e => h (of_decide_eq_true (List.all_eq_true.1 e c (List.mem_of_getElem? hc)))
  rw [this, Bool.and_false]
set_option maxRecDepth 20000 in
set_option maxHeartbeats 1000000 in
theorem value_any (s : ByteArray) (w : World) (hs : s.size ≤ 9223372036854775807) : Calls Tryz.prog 144 #[.string s] w fun e w' => e = .returned (.bool (valueB s)) ∧ Below w.heap.size w w' := by
  obtain ⟨W1, cap, hcv, hb, hc⟩ := conv_string s w
  have HB := Lib.hid hb
  have HC := Lib.hid hc
  clear hb hc
  go_enter Tryz.func144, Tryz.ntmps144
  go_wp2_with fail
  clear hcv
  go_loopg [8] s.size (fun g kv wr => ∃ k : Nat, g = s.size - k ∧ kv = .int .i64 k ∧ k ≤ s.size ∧ wr = W1 ∧ Hid (((s.data.toList.take k).all fun c => decide (32 ≤ c.toNat ∧ c.toNat ≤ 126)) = true))
  case atStart => exact ⟨0, rfl, rfl, Nat.zero_le _, rfl, Lib.hid (by rw [List.take_zero]; rfl)⟩
  case round =>
    obtain ⟨k, hg, rfl, hk, rfl, HA⟩ := hrel
    have HG := Lib.hid hg
    clear hg
    by_cases hlt : k < s.size
    · have hk1 : (k : Int) < (s.size : Int) := by omega
      obtain ⟨c, hc⟩ : ∃ c, s.data.toList[k]? = some c := ⟨_, List.getElem?_eq_getElem (by rw [size_list]; exact hlt)⟩
      have c0 := HC.out k c hc
      have hcl := c.toNat_lt
      by_cases h1 : c.toNat < 32
      · have h1' : (c.toNat : Int) < 32 := by omega
        have HN := Lib.hid (valueB_bad hc (by omega))
        clear hc h1
        go_wp2_with fail
        go_ret
        exact ⟨by rw [HN.out]; rfl, HB.out⟩
      · have h1' : ¬ (c.toNat : Int) < 32 := by omega
        by_cases h2 : 126 < c.toNat
        · have h2' : (126 : Int) < (c.toNat : Int) := by omega
          have HN := Lib.hid (valueB_bad hc (by omega))
          clear hc h1 h2
          go_wp2_with fail
          go_ret
          exact ⟨by rw [HN.out]; rfl, HB.out⟩
        · have h2' : ¬ (126 : Int) < (c.toNat : Int) := by omega
          have HN : Hid (((s.data.toList.take (k + 1)).all fun c => decide (32 ≤ c.toNat ∧ c.toNat ≤ 126)) = true) := Lib.hid (by rw [valueB_snoc s k c hc, HA.out, Bool.true_and]; exact decide_eq_true (by omega))
          clear hc h1 h2 HA
          go_wp2_with fail
          go_roundg (s.size - (k + 1))
          case measure => rw [HG.out]; omega
          case rel => exact ⟨k + 1, rfl, by simp, by omega, rfl, HN⟩
    · obtain rfl : k = s.size := by omega
      have hk1 : ¬ (s.size : Int) < (s.size : Int) := by omega
      have HV : Hid (valueB s = decide (s.size ≤ 16)) := Lib.hid (by unfold valueB; have h := HA.out; rw [List.take_of_length_le (by rw [size_list]; exact Nat.le_refl _)] at h; rw [h, Bool.and_true])
      clear hlt HA
      by_cases h16 : s.size ≤ 16
      · have h16' : (s.size : Int) ≤ 16 := by omega
        go_wp2_with fail
        go_ret
        exact ⟨by rw [HV.out, decide_eq_true h16]; try rfl, HB.out⟩
      · have h16' : ¬ (s.size : Int) ≤ 16 := by omega
        go_wp2_with fail
        go_ret
        exact ⟨by rw [HV.out, decide_eq_false h16]; try rfl, HB.out⟩
end Go.Proofs.YtgmdimbiipemhaaGreatDoor
namespace Go.Proofs.YtgmdimbiipemhaaGreatDoor
def noText : ByteArray := ⟨#[]⟩
def OpD.bare (o : OpD) : OpD := ⟨o.id, o.d0, o.d1, o.d2, o.d3, o.d4, o.d5, o.d6, o.d7, o.kind, ⟨0, 0⟩, 0, 0, ⟨0, 0⟩, noText, noText, noText, ⟨0, 0⟩, false, ⟨0, 0⟩, false⟩
def OpD.keepR (o : OpD) : OpD := { o.bare with ref := o.ref }
def OpD.keepI (o : OpD) : OpD := { o.bare with ref := o.ref, side := o.side, ch := o.ch }
def OpD.keepM (o : OpD) : OpD := { o.bare with ref := o.ref, under := o.under, key := o.key }
def OpD.keepS (o : OpD) : OpD := { o.bare with ref := o.ref, name := o.name, value := o.value }
def OpD.keepK (o : OpD) : OpD := { o.bare with name := o.name, value := o.value, fr := o.fr, fa := o.fa, tr := o.tr, ta := o.ta }
def OpD.okI (o : OpD) : Bool := (decide (o.side = 2) && decide (o.ref = ⟨0, 0⟩) || o.may o.ref && (decide (o.side = 1) || decide (o.side = 2))) && (decide (o.ch = 0) || decide (32 ≤ o.ch) && decide (o.ch ≤ 126))
def OpD.okM (o : OpD) : Bool := o.may o.ref && (decide (o.under = ⟨0, 0⟩) || o.may o.under) && !decide (o.under = o.ref) && keyB o.key
def OpD.okS (o : OpD) : Bool := o.may o.ref && nameB o.name && valueB o.value
def OpD.okK (o : OpD) : Bool := o.may o.fr && o.may o.tr && nameB o.name && valueB o.value
def OpD.kindOk (o : OpD) : Bool :=
  if o.kind = 1 then o.okI && decide (o.keepI = o) else
  if o.kind = 2 then o.may o.ref && decide (o.keepR = o) else
  if o.kind = 3 then o.okM && decide (o.keepM = o) else
  if o.kind = 4 then o.okS && decide (o.keepS = o) else
  if o.kind = 5 then o.okK && decide (o.keepK = o) else false
def minV (ds : List Int) : Int := Lib.minOf ds
def OpD.right (o : OpD) : Bool := rightB o.id && (!decide (minV o.deps < 0) && (!decide (o.id.n ≤ mostV o.deps) && o.kindOk))
theorem OpD.right_no1 {o : OpD} (h : rightB o.id = false) : o.right = false := by unfold OpD.right; rw [h]; rfl
theorem OpD.right_no2 {o : OpD} (h : rightB o.id = true) (h2 : minV o.deps < 0) : o.right = false := by unfold OpD.right; rw [h, decide_eq_true h2]; rfl
theorem OpD.right_no3 {o : OpD} (h : rightB o.id = true) (h2 : ¬ minV o.deps < 0) (h3 : o.id.n ≤ mostV o.deps) : o.right = false := by unfold OpD.right; rw [h, decide_eq_false h2, decide_eq_true h3]; rfl
theorem OpD.right_yes {o : OpD} (h : rightB o.id = true) (h2 : ¬ minV o.deps < 0) (h3 : ¬ o.id.n ≤ mostV o.deps) : o.right = o.kindOk := by unfold OpD.right; rw [h, decide_eq_false h2, decide_eq_false h3]; rfl
section
variable {α : Type} [DecidableEq α]
def leadN (x : α) : List α → Nat
  | [] => 0
  | y :: l => if y = x then leadN x l + 1 else 0
theorem leadN_le (x : α) : ∀ l : List α, leadN x l ≤ l.length
  | [] => Nat.le_refl _
  | y :: l => by
    unfold leadN
    split
    · simp; exact leadN_le x l
    · omega
theorem leadN_take (x : α) : ∀ l : List α, l.take (leadN x l) = List.replicate (leadN x l) x
  | [] => rfl
  | y :: l => by
    unfold leadN
    split
    · rename_i h
      rw [List.take_succ_cons, leadN_take x l, List.replicate_succ, h]
    · simp
theorem leadN_drop (x : α) : ∀ l : List α, (l.drop (leadN x l)).head? ≠ some x
  | [] => by simp [leadN]
  | y :: l => by
    unfold leadN
    split
    · rw [List.drop_succ_cons]; exact leadN_drop x l
    · rename_i h; simp [h]
theorem leadN_repl (x : α) (k : Nat) {l : List α} (h : l.head? ≠ some x) : leadN x (List.replicate k x ++ l) = k := by
  induction k with
  | zero =>
    cases l with
    | nil => rfl
    | cons y l => simp only [List.replicate_zero, List.nil_append, leadN]; rw [if_neg (fun e => h (by simp [e]))]
  | succ k ih => rw [List.replicate_succ, List.cons_append, leadN, if_pos rfl, ih]
theorem lead_split (x : α) (l : List α) : l = List.replicate (leadN x l) x ++ l.drop (leadN x l) := by
  rw [← leadN_take, List.take_append_drop]
end
theorem prefix_app {a b c : List UInt8} : a ++ b <+: c ↔ a <+: c ∧ b <+: c.drop a.length := by
  constructor
  · rintro ⟨t, rfl⟩
    refine ⟨⟨b ++ t, by simp⟩, ⟨t, ?_⟩⟩
    rw [List.append_assoc, List.drop_left]
  · rintro ⟨⟨t, rfl⟩, h⟩
    rw [List.drop_left] at h
    obtain ⟨s, rfl⟩ := h
    exact ⟨s, by simp⟩
def runsB : List Int → List UInt8
  | [] => []
  | x :: l => putB (leadN x l + 1) ++ putB (zigN x) ++ runsB (l.drop (leadN x l))
termination_by l => l.length
decreasing_by simp; omega
theorem runsB_repl (x : Int) (k : Nat) {l : List Int} (h : l.head? ≠ some x) : runsB (List.replicate (k + 1) x ++ l) = putB (k + 1) ++ putB (zigN x) ++ runsB l := by
  rw [List.replicate_succ, List.cons_append, runsB, leadN_repl x k h]
  congr 2
  rw [List.drop_append_of_le_length (by simp), List.drop_eq_nil_of_le (by simp), List.nil_append]
noncomputable def decR (n : Nat) (prev : Option Int) (b : List UInt8) : Option (List Int × Nat) :=
  if hn : n = 0 then some ([], 0) else
    match takeV b with
    | none => none
    | some k => match takeV (b.drop (putB k).length) with
      | none => none
      | some v => if hk : k = 0 ∨ n < k ∨ prev = some (zagI v) then none else
        (decR (n - k) (some (zagI v)) (b.drop ((putB k).length + (putB v).length))).map fun p => (List.replicate k (zagI v) ++ p.1, (putB k).length + (putB v).length + p.2)
termination_by n
decreasing_by omega
theorem decR_zero (prev : Option Int) (b : List UInt8) : decR 0 prev b = some ([], 0) := by rw [decR, dif_pos rfl]
theorem decR_bad1 {n : Nat} {prev : Option Int} {b : List UInt8} (hn : n ≠ 0) (h : takeV b = none) : decR n prev b = none := by rw [decR, dif_neg hn, h]
theorem decR_bad2 {n : Nat} {prev : Option Int} {b : List UInt8} {k : Nat} (hn : n ≠ 0) (h : takeV b = some k) (h2 : takeV (b.drop (putB k).length) = none) : decR n prev b = none := by rw [decR, dif_neg hn, h]; simp only [h2]
theorem decR_bad3 {n : Nat} {prev : Option Int} {b : List UInt8} {k v : Nat} (hn : n ≠ 0) (h : takeV b = some k) (h2 : takeV (b.drop (putB k).length) = some v) (h3 : k = 0 ∨ n < k ∨ prev = some (zagI v)) : decR n prev b = none := by
  rw [decR, dif_neg hn, h]; simp only [h2]; rw [dif_pos h3]
theorem decR_step {n : Nat} {prev : Option Int} {b : List UInt8} {k v : Nat} (h : takeV b = some k) (h2 : takeV (b.drop (putB k).length) = some v) (hk0 : k ≠ 0) (hkn : k ≤ n) (hp : prev ≠ some (zagI v)) :
    decR n prev b = (decR (n - k) (some (zagI v)) (b.drop ((putB k).length + (putB v).length))).map fun p => (List.replicate k (zagI v) ++ p.1, (putB k).length + (putB v).length + p.2) := by
  rw [decR, dif_neg (by omega), h]; simp only [h2]; rw [dif_neg (by rintro (h | h | h); exact hk0 h; omega; exact hp h)]
theorem decR_iff : ∀ (n : Nat), n < 18446744073709551616 → ∀ (prev : Option Int) (b : List UInt8) (l : List Int) (u : Nat), decR n prev b = some (l, u) ↔ l.length = n ∧ (prev ≠ none → l.head? ≠ prev) ∧ (∀ x ∈ l, zigN x < 18446744073709551616) ∧ runsB l <+: b ∧ u = (runsB l).length ∨ (n = 0 ∧ l = [] ∧ u = 0) := by
  intro n
  induction n using Nat.strongRecOn with
  | ind n ih =>
    intro hnn prev b l u
    by_cases hn : n = 0
    · subst hn
      rw [decR_zero]
      constructor
      · intro h; cases h; exact .inr ⟨rfl, rfl, rfl⟩
      · rintro (⟨h, _, _, _, rfl⟩ | ⟨_, rfl, rfl⟩)
        · rw [List.length_eq_zero_iff.1 h]; simp [runsB]
        · rfl
    · constructor
      · intro h
        left
        cases hk : takeV b with
        | none => rw [decR_bad1 hn hk] at h; cases h
        | some k =>
          cases hv : takeV (b.drop (putB k).length) with
          | none => rw [decR_bad2 hn hk hv] at h; cases h
          | some v =>
            by_cases h3 : k = 0 ∨ n < k ∨ prev = some (zagI v)
            · rw [decR_bad3 hn hk hv h3] at h; cases h
            · have h4 : k ≠ 0 ∧ k ≤ n ∧ prev ≠ some (zagI v) := ⟨fun e => h3 (.inl e), by have : ¬ n < k := fun e => h3 (.inr (.inl e)); omega, fun e => h3 (.inr (.inr e))⟩
              rw [decR_step hk hv h4.1 h4.2.1 h4.2.2] at h
              obtain ⟨⟨r, s⟩, hr, he⟩ := Option.map_eq_some_iff.1 h
              cases he
              have tk := takeV_some.1 hk
              have tv := takeV_some.1 hv
              obtain ⟨j, rfl⟩ : ∃ j, k = j + 1 := ⟨k - 1, by omega⟩
              have key : r.length = n - (j + 1) ∧ r.head? ≠ some (zagI v) ∧ (∀ x ∈ r, zigN x < 18446744073709551616) ∧ runsB r <+: b.drop ((putB (j + 1)).length + (putB v).length) ∧ s = (runsB r).length := by
                rcases (ih (n - (j + 1)) (by omega) (by omega) _ _ _ _).1 hr with ⟨a1, a2, a3, a4, a5⟩ | ⟨a1, rfl, rfl⟩
                · exact ⟨a1, a2 (by simp), a3, a4, a5⟩
                · exact ⟨by simp [a1], by simp, by simp, by simp [runsB], by simp [runsB]⟩
              obtain ⟨a1, a2, a3, a4, a5⟩ := key
              have e := runsB_repl (zagI v) j a2
              rw [zig_zag] at e
              refine ⟨by simp; omega, fun _ => ?_, fun x hx => ?_, ?_, ?_⟩
              · rw [List.replicate_succ]; simpa using fun e => h4.2.2 e.symm
              · rcases List.mem_append.1 hx with hx | hx
                · rw [(List.mem_replicate.1 hx).2, zig_zag]; exact tv.1
                · exact a3 x hx
              · rw [e, prefix_app, prefix_app, List.length_append]
                exact ⟨⟨tk.2, tv.2⟩, a4⟩
              · rw [e, List.length_append, List.length_append, a5]
      · rintro (⟨h1, h2, h3, h4, h5⟩ | ⟨h, _⟩)
        · cases l with
          | nil => simp at h1; omega
          | cons x l =>
            have hl := leadN_le x l
            rw [runsB, prefix_app, prefix_app] at h4
            rw [List.length_cons] at h1
            have tk : takeV b = some (leadN x l + 1) := takeV_some.2 ⟨by omega, h4.1.1⟩
            have tv : takeV (b.drop (putB (leadN x l + 1)).length) = some (zigN x) := takeV_some.2 ⟨h3 x (by simp), h4.1.2⟩
            rw [decR_step tk tv (by omega) (by omega) (by
              rw [zag_zig]
              intro e
              exact h2 (by rw [e]; simp) (by rw [e]; rfl)), zag_zig]
            have hr : decR (n - (leadN x l + 1)) (some x) (b.drop ((putB (leadN x l + 1)).length + (putB (zigN x)).length)) = some (l.drop (leadN x l), (runsB (l.drop (leadN x l))).length) := by
              refine (ih (n - (leadN x l + 1)) (by omega) (by omega) _ _ _ _).2 (.inl ⟨by simp; omega, fun _ => leadN_drop x l, fun y hy => h3 y (List.mem_cons_of_mem _ (List.mem_of_mem_drop hy)), ?_, rfl⟩)
              rw [← List.length_append]; exact h4.2
            rw [hr, Option.map_some, h5]
            congr 2
            · rw [List.replicate_succ, List.cons_append]
              congr 1
              exact (lead_split x l).symm
            · rw [runsB, List.length_append, List.length_append]
        · exact absurd h hn
def wrapI (n : Int) : Int := (n + 9223372036854775808) % 18446744073709551616 - 9223372036854775808
theorem wrapI_in (n : Int) : -9223372036854775808 ≤ wrapI n ∧ wrapI n ≤ 9223372036854775807 := by unfold wrapI; omega
theorem wrapI_id {n : Int} (h1 : -9223372036854775808 ≤ n) (h2 : n ≤ 9223372036854775807) : wrapI n = n := by unfold wrapI; omega
def diffsF (p : Int) : List Int → List Int
  | [] => []
  | x :: l => wrapI (x - p) :: diffsF x l
def diffsB : List Int → List Int
  | [] => []
  | x :: l => x :: diffsF x l
def sumsF (p : Int) : List Int → List Int
  | [] => []
  | x :: l => wrapI (x + p) :: sumsF (wrapI (x + p)) l
def sumsB : List Int → List Int
  | [] => []
  | x :: l => x :: sumsF x l
theorem sums_diffsF : ∀ (l : List Int) (p : Int), (∀ x ∈ l, -9223372036854775808 ≤ x ∧ x ≤ 9223372036854775807) → sumsF p (diffsF p l) = l
  | [], _, _ => rfl
  | x :: l, p, h => by
    have hx := h x (by simp)
    have e : wrapI (wrapI (x - p) + p) = x := by unfold wrapI; omega
    rw [diffsF, sumsF, e, sums_diffsF l x (fun y hy => h y (by simp [hy]))]
theorem sums_diffs {l : List Int} (h : ∀ x ∈ l, -9223372036854775808 ≤ x ∧ x ≤ 9223372036854775807) : sumsB (diffsB l) = l := by
  cases l with
  | nil => rfl
  | cons x l => rw [diffsB, sumsB, sums_diffsF l x (fun y hy => h y (by simp [hy]))]
theorem diffs_sumsF : ∀ (l : List Int) (p : Int), (∀ x ∈ l, -9223372036854775808 ≤ x ∧ x ≤ 9223372036854775807) → diffsF p (sumsF p l) = l
  | [], _, _ => rfl
  | x :: l, p, h => by
    have hx := h x (by simp)
    have e : wrapI (wrapI (x + p) - p) = x := by unfold wrapI; omega
    rw [sumsF, diffsF, e, diffs_sumsF l _ (fun y hy => h y (by simp [hy]))]
theorem diffs_sums {l : List Int} (h : ∀ x ∈ l, -9223372036854775808 ≤ x ∧ x ≤ 9223372036854775807) : diffsB (sumsB l) = l := by
  cases l with
  | nil => rfl
  | cons x l => rw [sumsB, diffsB, diffs_sumsF l x (fun y hy => h y (by simp [hy]))]
theorem bools_meas (v : Bool) {l : List Bool} (h : l ≠ []) : 2 * (l.drop (leadN v l)).length + (if (l.drop (leadN v l)).head? = some (!v) then 0 else 1) < 2 * l.length + (if l.head? = some v then 0 else 1) := by
  cases l with
  | nil => exact absurd rfl h
  | cons x l =>
    by_cases hx : x = v
    · have e : leadN v (x :: l) = leadN v l + 1 := by rw [leadN, if_pos hx]
      have := leadN_le v l
      rw [e, List.drop_succ_cons, List.length_drop, List.length_cons]
      split <;> omega
    · have e : leadN v (x :: l) = 0 := by rw [leadN, if_neg hx]
      have hx2 : x = !v := by cases x <;> cases v <;> simp_all
      rw [e, List.drop_zero, List.head?_cons, if_pos (by rw [hx2]), if_neg (by simpa using hx)]
      omega
def boolsF (v : Bool) (l : List Bool) : List UInt8 := if h : l = [] then [] else putB (leadN v l) ++ boolsF (!v) (l.drop (leadN v l))
termination_by 2 * l.length + (if l.head? = some v then 0 else 1)
decreasing_by exact bools_meas v h
def boolsB (l : List Bool) : List UInt8 := boolsF false l
theorem boolsF_nil (v : Bool) : boolsF v [] = [] := by rw [boolsF, dif_pos rfl]
theorem boolsF_cons {v : Bool} {l : List Bool} (h : l ≠ []) : boolsF v l = putB (leadN v l) ++ boolsF (!v) (l.drop (leadN v l)) := by rw [boolsF, dif_neg h]
noncomputable def decT (n : Nat) (v first : Bool) (b : List UInt8) : Option (List Bool × Nat) :=
  if hn : n = 0 then some ([], 0) else
    match takeV b with
    | none => none
    | some k => if hk : (k = 0 ∧ first = false) ∨ n < k then none else
      (decT (n - k) (!v) false (b.drop (putB k).length)).map fun p => (List.replicate k v ++ p.1, (putB k).length + p.2)
termination_by 2 * n + (if first then 1 else 0)
decreasing_by
  have h1 : ¬ n < k := fun e => hk (.inr e)
  have h2 : ¬ (k = 0 ∧ first = false) := fun e => hk (.inl e)
  cases first
  · have : k ≠ 0 := fun e => h2 ⟨e, rfl⟩
    simp only [Bool.false_eq_true, if_false]
    omega
  · simp only [Bool.false_eq_true, if_false, if_true]
    omega
theorem decT_zero (v first : Bool) (b : List UInt8) : decT 0 v first b = some ([], 0) := by rw [decT, dif_pos rfl]
theorem decT_bad1 {n : Nat} {v first : Bool} {b : List UInt8} (hn : n ≠ 0) (h : takeV b = none) : decT n v first b = none := by rw [decT, dif_neg hn, h]
theorem decT_bad2 {n : Nat} {v first : Bool} {b : List UInt8} {k : Nat} (hn : n ≠ 0) (h : takeV b = some k) (h3 : (k = 0 ∧ first = false) ∨ n < k) : decT n v first b = none := by
  rw [decT, dif_neg hn, h]; simp only []; rw [dif_pos h3]
theorem decT_step {n : Nat} {v first : Bool} {b : List UInt8} {k : Nat} (hn : n ≠ 0) (h : takeV b = some k) (h3 : ¬ ((k = 0 ∧ first = false) ∨ n < k)) :
    decT n v first b = (decT (n - k) (!v) false (b.drop (putB k).length)).map fun p => (List.replicate k v ++ p.1, (putB k).length + p.2) := by
  rw [decT, dif_neg hn, h]; simp only []; rw [dif_neg h3]
theorem boolsF_repl (v : Bool) (k : Nat) {l : List Bool} (h : l.head? ≠ some v) (hl : 0 < k + l.length) : boolsF v (List.replicate k v ++ l) = putB k ++ boolsF (!v) l := by
  have hne : List.replicate k v ++ l ≠ [] := by
    intro e
    have := congrArg List.length e
    rw [List.length_append, List.length_replicate, List.length_nil] at this
    omega
  rw [boolsF_cons hne, leadN_repl v k h]
  congr 2
  rw [List.drop_append_of_le_length (by simp), List.drop_eq_nil_of_le (by simp), List.nil_append]
theorem head_not {v : Bool} {l : List Bool} (h : l.head? ≠ some v) : l = [] ∨ l.head? = some (!v) := by
  cases l with
  | nil => exact .inl rfl
  | cons x l => right; cases x <;> cases v <;> simp_all
theorem decT_iff : ∀ (n : Nat), n < 18446744073709551616 → ∀ (v first : Bool) (b : List UInt8) (l : List Bool) (u : Nat), decT n v first b = some (l, u) ↔ l.length = n ∧ (first = false → l = [] ∨ l.head? = some v) ∧ boolsF v l <+: b ∧ u = (boolsF v l).length := by
  have main : ∀ (m n : Nat) (v first : Bool), 2 * n + (if first = true then 1 else 0) = m → n < 18446744073709551616 → ∀ (b : List UInt8) (l : List Bool) (u : Nat), decT n v first b = some (l, u) ↔ l.length = n ∧ (first = false → l = [] ∨ l.head? = some v) ∧ boolsF v l <+: b ∧ u = (boolsF v l).length := by
    intro m
    induction m using Nat.strongRecOn with
    | ind m ih =>
      intro n v first hm hnn b l u
      by_cases hn : n = 0
      · subst hn
        rw [decT_zero]
        constructor
        · intro h; cases h; exact ⟨rfl, fun _ => .inl rfl, by rw [boolsF_nil]; exact List.nil_prefix, by rw [boolsF_nil]; rfl⟩
        · rintro ⟨h, _, _, rfl⟩
          rw [List.length_eq_zero_iff.1 h, boolsF_nil]; rfl
      · cases hk : takeV b with
        | none =>
          rw [decT_bad1 hn hk]
          constructor
          · intro h; cases h
          · rintro ⟨h1, _, h3, _⟩
            have hl : l ≠ [] := by intro e; rw [e] at h1; exact hn h1.symm
            rw [boolsF_cons hl, prefix_app] at h3
            have hle := leadN_le v l
            exact absurd ⟨by omega, h3.1⟩ (takeV_none.1 hk (leadN v l))
        | some k =>
          have tk := takeV_some.1 hk
          by_cases h3 : (k = 0 ∧ first = false) ∨ n < k
          · rw [decT_bad2 hn hk h3]
            constructor
            · intro h; cases h
            · rintro ⟨h1, h2, h4, _⟩
              have hl : l ≠ [] := by intro e; rw [e] at h1; exact hn h1.symm
              rw [boolsF_cons hl, prefix_app] at h4
              have hle := leadN_le v l
              have e := tk.uniq ⟨by omega, h4.1⟩
              rcases h3 with ⟨e0, ef⟩ | h3
              · have := (h2 ef).resolve_left hl
                cases l with
                | nil => exact absurd rfl hl
                | cons x l =>
                  simp only [List.head?_cons, Option.some.injEq] at this
                  rw [leadN, if_pos this] at e
                  omega
              · omega
          · rw [decT_step hn hk h3]
            have hlt : 2 * (n - k) + (if (false = true) then 1 else 0) < m := by
              have h1 : ¬ n < k := fun e => h3 (.inr e)
              have h2 : ¬ (k = 0 ∧ first = false) := fun e => h3 (.inl e)
              rw [← hm]
              cases first
              · have : k ≠ 0 := fun e => h2 ⟨e, rfl⟩
                simp
                omega
              · simp
                omega
            have ih2 := ih _ hlt (n - k) (!v) false rfl (by omega) (b.drop (putB k).length)
            constructor
            · intro h
              obtain ⟨⟨r, s⟩, hr, he⟩ := Option.map_eq_some_iff.1 h
              cases he
              obtain ⟨a1, a2, a3, a4⟩ := (ih2 r s).1 hr
              have hh : r.head? ≠ some v := by
                rcases a2 rfl with rfl | a2
                · simp
                · rw [a2]; cases v <;> simp
              have hkn : k ≤ n := by have : ¬ n < k := fun e => h3 (.inr e); omega
              have e := boolsF_repl v k hh (by omega)
              refine ⟨by simp; omega, fun hf => ?_, ?_, ?_⟩
              · right
                have hk0 : k ≠ 0 := fun e => h3 (.inl ⟨e, hf⟩)
                obtain ⟨j, rfl⟩ : ∃ j, k = j + 1 := ⟨k - 1, by omega⟩
                rw [List.replicate_succ]; rfl
              · rw [e, prefix_app]; exact ⟨tk.2, a3⟩
              · rw [e, List.length_append, a4]
            · rintro ⟨h1, h2, h4, h5⟩
              have hl : l ≠ [] := by intro e; rw [e] at h1; exact hn h1.symm
              rw [boolsF_cons hl, prefix_app] at h4
              have hle := leadN_le v l
              have e := tk.uniq ⟨by omega, h4.1⟩
              subst e
              have hr : decT (n - leadN v l) (!v) false (b.drop (putB (leadN v l)).length) = some (l.drop (leadN v l), (boolsF (!v) (l.drop (leadN v l))).length) :=
                (ih2 _ _).2 ⟨by simp; omega, fun _ => head_not (leadN_drop v l), h4.2, rfl⟩
              rw [hr, Option.map_some, h5]
              congr 2
              · exact (lead_split v l).symm
              · rw [boolsF_cons hl, List.length_append]
  intro n hn v first b l u
  exact main _ n v first rfl hn b l u
end Go.Proofs.YtgmdimbiipemhaaGreatDoor
namespace Go.Proofs.YtgmdimbiipemhaaGreatDoor
open Go.RowKit Go.Deep
section
variable {P : Program} {w : World} {α : Type} {ea : α → List Value} {k : Nat} {e : TypeId} {base : Nat} {v vx : Value} {l ys : List α}
theorem run_append_none (t ty : TypeId) (i : TypeInfo) (ht : P.underlying t = some (.slice e)) (hi : P.info? e = some i) (b : Option Addr) (n cap c : Nat) (hc : n ≤ cap) :
    (Builtin.append_ #[t, t] ty #[.slice b n cap, .slice none 0 c]).run P w = .ok (.slice b n cap) w := by
  cases b <;> simp [Builtin.append_, run_underlying ht, sizeOf, typeInfo, hi, Builtin.lenOf, Builtin.firstCells, loadCells, loadCellsFrom, storeCells, hc]
theorem append_structs (t ty : TypeId) (i : TypeInfo) (z : Value) (bytes : Nat) (ht : P.underlying t = some (.slice e)) (hi : P.info? e = some i) (hz : i.zero = some z)
    (hsize : i.size = k) (hby : i.bytes = bytes) (hzs : z.cells.size = k) (hk0 : 0 < k) (hk : ∀ x, (ea x).length = k) (h1 : ∀ x, ∀ u ∈ ea x, u.oneCell' = true)
    (hown : Own ea k e base w v l) (hx : SliceIs ea k w vx ys) (h63 : l.length + ys.length ≤ maxLen) (hbytes : (l.length + ys.length) * bytes ≤ 140737488355328) (hbase : base ≤ w.heap.size) :
    ∃ v' w', (Builtin.append_ #[t, t] ty #[v, vx]).run P w = .ok v' w' ∧ Own ea k e base w' v' (l ++ ys) ∧ Ext (fun b => v.ownBlock = some b) w w' := by
  obtain ⟨a, cap, rfl, hcap, hmax, hcs⟩ := hx
  cases a with
  | none =>
    have hys : ys = [] := Classical.byContradiction fun hn => by obtain ⟨b, o, e, _⟩ := hcs hn; cases e
    subst hys
    obtain ⟨sa, sc, rfl, hsc, _⟩ := hown.slice hk
    refine ⟨_, w, run_append_none t ty i ht hi sa l.length sc cap hsc, by rw [List.append_nil]; exact hown, Ext.refl _ _⟩
  | some ad =>
    have hnews : ∀ j u, (ys.flatMap ea)[j]? = some u → w.cell? (ad.add j) = some u := fun j u hj => by
      have hne : ys ≠ [] := fun e => by rw [e] at hj; simp at hj
      obtain ⟨b, o, e, h2⟩ := hcs hne
      cases e
      have hjl := (List.getElem?_eq_some_iff.1 hj).1
      rw [length_flatMap_k hk] at hjl
      have hdm : j / k * k + j % k = j := by rw [Nat.mul_comm]; exact Nat.div_add_mod j k
      have hq : j / k < ys.length := Nat.div_lt_of_lt_mul (by rw [Nat.mul_comm]; exact hjl)
      obtain ⟨x, hx⟩ : ∃ x, ys[j / k]? = some x := ⟨_, List.getElem?_eq_getElem hq⟩
      obtain ⟨u', hu'⟩ : ∃ u', (ea x)[j % k]? = some u' := ⟨_, List.getElem?_eq_getElem (by rw [hk]; exact Nat.mod_lt _ hk0)⟩
      have h3 := getElem?_flatMap_k hk ys (j / k) x hx (j % k) u' hu'
      rw [hdm, hj] at h3
      cases h3
      have h4 := h2 (j / k) x hx (j % k) u hu'
      rw [Nat.add_assoc, hdm] at h4
      rw [show (Addr.add ⟨b, o, none⟩ j) = ⟨b, o + j, none⟩ from by unfold Addr.add; split <;> simp_all]
      exact h4
    obtain ⟨v', w', h2, h3, h4, _⟩ := run_append_own (P := P) w base t ty e i z k bytes ht hi hz hsize hby hzs hk0 v l.length (l.flatMap ea) hown ad ys.length cap (ys.flatMap ea) (length_flatMap_k hk ys) hnews
      (fun u hu => by obtain ⟨x, _, hx⟩ := List.mem_flatMap.1 hu; exact h1 x u hx) h63 hbytes hbase
    refine ⟨v', w', h2, ?_, Ext.of_grown h4⟩
    unfold Own
    rw [List.length_append, List.flatMap_append]
    exact h3
end
theorem Own.below1 {α : Type} {ea : α → List Value} {k : Nat} {e : TypeId} {base : Nat} {w w' : World} {v : Value} {l : List α} (h : Own ea k e base w v l) (hb : Below w.heap.size w w') : Own ea k e base w' v l :=
  h.ext (Ext.of_below (S := fun _ => False) hb) (fun _ _ => id)
theorem bytes_append {base : Nat} {w0 w : World} {v vx : Value} {out ys : List UInt8} (ho : Own u8c 1 5 base w v out) (hb : Below base w0 w) (hx : SliceIs u8c 1 w vx ys) (hbase : base ≤ w.heap.size) (hl : out.length + ys.length ≤ 140737488355328) :
    ∃ (s : Sl) (w' : World), (Builtin.append_ #[22, 22] 22 #[v, vx]).run Tryz.prog w = .ok (.slice s.a s.n s.cap) w' ∧ Own u8c 1 5 base w' (.slice s.a s.n s.cap) (out ++ ys) ∧ Below base w0 w' ∧ base ≤ w'.heap.size := by
  obtain ⟨i0, hi, hz0, hz1, hz2⟩ := info_parts info_u8
  obtain ⟨v', w', hr, ho2, hx2⟩ := append_structs (P := Tryz.prog) 22 22 i0 _ 1 Tryz.underlying22 hi hz0 hz1 hz2 rfl (by omega) u8c_len u8c_one ho hx (by unfold maxLen; omega) (by omega) hbase
  obtain ⟨s, rfl⟩ := ho2.sl
  exact ⟨s, w', hr, ho2, Ext.new hb hx2 (fun i hi _ e => by have := (ho.blk i e).1; omega) hbase, Nat.le_trans hbase hx2.size⟩
section
variable {α : Type} [DecidableEq α]
theorem leadN_in {x : α} : ∀ {l : List α} {m : Nat}, m < leadN x l → l[m]? = some x
  | [], m, h => by simp [leadN] at h
  | y :: l, m, h => by
    unfold leadN at h
    split at h
    · rename_i e
      cases m with
      | zero => simp [e]
      | succ m => rw [List.getElem?_cons_succ]; exact leadN_in (by omega)
    · omega
theorem leadN_stop (x : α) (l : List α) : l[leadN x l]? ≠ some x := by
  have := leadN_drop x l
  rwa [List.head?_drop] at this
theorem lead_go {x y : α} {l : List α} {i k : Nat} (hik : i ≤ k) (hc : k - i ≤ leadN x (l.drop i)) (hk : l[k]? = some y) : (y = x → k + 1 - i ≤ leadN x (l.drop i)) ∧ (y ≠ x → k - i = leadN x (l.drop i)) := by
  have hd : (l.drop i)[k - i]? = some y := by rw [List.getElem?_drop, show i + (k - i) = k by omega]; exact hk
  constructor
  · rintro rfl
    have : k - i ≠ leadN y (l.drop i) := fun e => leadN_stop y (l.drop i) (by rw [← e]; exact hd)
    omega
  · intro hne
    rcases Nat.lt_or_ge (k - i) (leadN x (l.drop i)) with h | h
    · have := leadN_in h
      rw [hd] at this
      exact absurd (Option.some.inj this) hne
    · omega
theorem lead_end {x : α} {l : List α} {i : Nat} (hi : i ≤ l.length) (hc : l.length - i ≤ leadN x (l.drop i)) : l.length - i = leadN x (l.drop i) := by
  have := leadN_le x (l.drop i)
  rw [List.length_drop] at this
  omega
end
theorem boolsF_len : ∀ (m : Nat) (v : Bool) (l : List Bool), 2 * l.length + (if l.head? = some v then 0 else 1) = m → l.length < 18446744073709551616 → (boolsF v l).length ≤ 10 * l.length + (if l.head? = some v then 0 else 10) := by
  intro m
  induction m using Nat.strongRecOn with
  | ind m ih =>
    intro v l hm hl
    by_cases h : l = []
    · subst h; rw [boolsF_nil]; simp
    · rw [boolsF_cons h, List.length_append]
      have h1 := bools_meas v h
      have hle := leadN_le v l
      have h2 := ih _ (by rw [← hm]; exact h1) (!v) (l.drop (leadN v l)) rfl (by rw [List.length_drop]; omega)
      have h3 : (putB (leadN v l)).length ≤ 10 := (putB_len _ 10 (by omega)).2 (by omega)
      rw [List.length_drop] at h2
      rw [List.length_drop] at h1
      rcases head_not (leadN_drop v l) with h4 | h4
      · rw [h4, boolsF_nil]
        simp only [List.length_nil]
        have : 0 < l.length := List.length_pos_iff.2 h
        omega
      · rw [if_pos h4] at h2
        by_cases h5 : l.head? = some v
        · have h6 : 0 < leadN v l := by
            cases l with
            | nil => exact absurd rfl h
            | cons x l =>
              rw [List.head?_cons] at h5
              rw [leadN, if_pos (Option.some.inj h5)]
              omega
          omega
        · rw [if_neg h5]; omega
theorem boolsB_len {l : List Bool} (hl : l.length < 18446744073709551616) : (boolsB l).length ≤ 10 * l.length + 10 := by
  have := boolsF_len _ false l rfl hl
  unfold boolsB
  split at this <;> omega
theorem runsB_len : ∀ (n : Nat) (l : List Int), l.length = n → n < 18446744073709551616 → (∀ x ∈ l, zigN x < 18446744073709551616) → (runsB l).length ≤ 20 * l.length := by
  intro n
  induction n using Nat.strongRecOn with
  | ind n ih =>
    intro l hn hl hz
    cases l with
    | nil => simp [runsB]
    | cons x l =>
      have hle := leadN_le x l
      rw [List.length_cons] at hn
      rw [runsB, List.length_append, List.length_append, List.length_cons]
      have h1 : (putB (leadN x l + 1)).length ≤ 10 := (putB_len _ 10 (by omega)).2 (by omega)
      have h2 : (putB (zigN x)).length ≤ 10 := (putB_len _ 10 (by omega)).2 (by have := hz x (by simp); omega)
      have h3 := ih (l.drop (leadN x l)).length (by rw [List.length_drop]; omega) _ rfl (by rw [List.length_drop]; omega) (fun y hy => hz y (List.mem_cons_of_mem _ (List.mem_of_mem_drop hy)))
      rw [List.length_drop] at h3
      omega
end Go.Proofs.YtgmdimbiipemhaaGreatDoor
namespace Go.Proofs.YtgmdimbiipemhaaGreatDoor
open Go.RowKit
theorem wrap64_wrapI (n : Int) : wrap64 n = wrapI n := by unfold wrap64 wrapI; rfl
theorem u64_wrap (n : Int) : IntKind.u64.wrap n = n % 18446744073709551616 := by
  unfold IntKind.wrap
  simp [IntKind.bits, IntKind.signed]
theorem bits_or_u8 (n : Nat) (h : n < 256) : bits .or .u8 (n : Int) 128 = ((n % 128 + 128 : Nat) : Int) := by
  have key : ∀ m : Fin 256, bits .or .u8 ((m.val : Nat) : Int) 128 = ((m.val % 128 + 128 : Nat) : Int) := by decide +kernel
  exact key ⟨n, h⟩
theorem bits_and_u8 (n : Nat) (h : n < 256) : bits .and .u8 (n : Int) 127 = ((n % 128 : Nat) : Int) := by
  have key : ∀ m : Fin 256, bits .and .u8 ((m.val : Nat) : Int) 127 = ((m.val % 128 : Nat) : Int) := by decide +kernel
  exact key ⟨n, h⟩
theorem ofInt_nat (k n : Nat) : BitVec.ofInt k (n : Int) = BitVec.ofNat k n := by
  apply BitVec.eq_of_toInt_eq
  simp [BitVec.toInt_ofInt, BitVec.toInt_ofNat]
theorem bits_u64 (op : BinOp) (a b c : Nat) (ha : a < 18446744073709551616) (hb : b < 18446744073709551616) (hc : c < 18446744073709551616)
    (h : (match op with | .and => a &&& b | .or => a ||| b | .xor => a ^^^ b | _ => c) = c) (ho : op = .and ∨ op = .or ∨ op = .xor) : bits op .u64 (a : Int) (b : Int) = (c : Int) := by
  unfold bits
  dsimp only
  rw [u64_wrap]
  have e64 : IntKind.u64.bits = 64 := rfl
  rcases ho with rfl | rfl | rfl
  · simp only at h ⊢
    rw [ofInt_nat, ofInt_nat, e64, BitVec.toNat_and, BitVec.toNat_ofNat, BitVec.toNat_ofNat, Nat.mod_eq_of_lt (by omega), Nat.mod_eq_of_lt (by omega), h]
    omega
  · simp only at h ⊢
    rw [ofInt_nat, ofInt_nat, e64, BitVec.toNat_or, BitVec.toNat_ofNat, BitVec.toNat_ofNat, Nat.mod_eq_of_lt (by omega), Nat.mod_eq_of_lt (by omega), h]
    omega
  · simp only at h ⊢
    rw [ofInt_nat, ofInt_nat, e64, BitVec.toNat_xor, BitVec.toNat_ofNat, BitVec.toNat_ofNat, Nat.mod_eq_of_lt (by omega), Nat.mod_eq_of_lt (by omega), h]
    omega
theorem bits_and_one (n : Nat) (h : n < 18446744073709551616) : bits .and .u64 (n : Int) 1 = ((n % 2 : Nat) : Int) :=
  bits_u64 .and n 1 (n % 2) h (by omega) (by omega) (Nat.and_one_is_mod n) (.inl rfl)
theorem bits_or_shift (a x i : Nat) (ha : a < 2 ^ i) (h : a + x * 2 ^ i < 18446744073709551616) : bits .or .u64 (a : Int) ((x * 2 ^ i : Nat) : Int) = ((a + x * 2 ^ i : Nat) : Int) := by
  refine bits_u64 .or a (x * 2 ^ i) _ (by omega) (by omega) h ?_ (.inr (.inl rfl))
  show a ||| x * 2 ^ i = _
  rw [Nat.or_comm, Nat.mul_comm x, ← Nat.two_pow_add_eq_or_of_lt ha, Nat.add_comm]
theorem xor_ones (a : Nat) (h : a < 18446744073709551616) : a ^^^ 18446744073709551615 = 18446744073709551615 - a := by
  have := congrArg BitVec.toNat (BitVec.xor_allOnes (x := BitVec.ofNat 64 a))
  rw [BitVec.toNat_xor, BitVec.toNat_not, BitVec.toNat_ofNat, BitVec.toNat_allOnes, Nat.mod_eq_of_lt (by omega)] at this
  simpa using this
theorem zig_bits {n : Int} (h1 : -9223372036854775808 ≤ n) (h2 : n ≤ 9223372036854775807) : bits .xor .u64 (IntKind.u64.wrap (IntKind.u64.wrap n * 2)) (IntKind.u64.wrap (n / 9223372036854775808)) = (zigN n : Int) := by
  rw [u64_wrap, u64_wrap, u64_wrap]
  by_cases h : 0 ≤ n
  · have e1 : n % 18446744073709551616 * 2 % 18446744073709551616 = ((2 * n).toNat : Int) := by omega
    have e2 : n / 9223372036854775808 % 18446744073709551616 = ((0 : Nat) : Int) := by omega
    rw [e1, e2]
    unfold zigN
    rw [if_pos h]
    exact bits_u64 .xor _ 0 _ (by omega) (by omega) (by omega) (Nat.xor_zero _) (.inr (.inr rfl))
  · have e1 : n % 18446744073709551616 * 2 % 18446744073709551616 = ((18446744073709551616 + 2 * n).toNat : Int) := by omega
    have e2 : n / 9223372036854775808 % 18446744073709551616 = ((18446744073709551615 : Nat) : Int) := by omega
    rw [e1, e2]
    unfold zigN
    rw [if_neg h]
    refine bits_u64 .xor _ 18446744073709551615 _ (by omega) (by omega) (by omega) ?_ (.inr (.inr rfl))
    show _ ^^^ _ = _
    rw [xor_ones _ (by omega)]
    omega
theorem i64_wrap (n : Int) : IntKind.i64.wrap n = wrapI n := by
  rw [← wrap64_wrapI]; exact IntWalk.i64_left n
theorem zag_bits {n : Nat} (h : n < 18446744073709551616) : bits .xor .i64 ((n : Int) / 2) (wrap64 (-wrap64 (bits .and .u64 (n : Int) 1))) = zagI n := by
  rw [bits_and_one n h, wrap64_wrapI, wrap64_wrapI]
  unfold bits
  dsimp only
  rw [i64_wrap]
  have e64 : IntKind.i64.bits = 64 := rfl
  have e0 : ((n : Int) / 2) = ((n / 2 : Nat) : Int) := by omega
  by_cases hp : n % 2 = 0
  · have e1 : wrapI (-wrapI ((n % 2 : Nat) : Int)) = ((0 : Nat) : Int) := by rw [hp]; decide
    rw [e1, e0, ofInt_nat, ofInt_nat, e64, BitVec.toNat_xor, BitVec.toNat_ofNat, BitVec.toNat_ofNat, Nat.mod_eq_of_lt (show n / 2 < 2 ^ 64 by omega), Nat.zero_mod, Nat.xor_zero]
    unfold zagI wrapI
    rw [if_pos hp]
    omega
  · have e1 : wrapI (-wrapI ((n % 2 : Nat) : Int)) = -1 := by rw [show n % 2 = 1 by omega]; decide
    have e2 : (BitVec.ofInt 64 (-1)).toNat = 18446744073709551615 := by decide
    rw [e1, e0, ofInt_nat, e64, BitVec.toNat_xor, BitVec.toNat_ofNat, e2, Nat.mod_eq_of_lt (show n / 2 < 2 ^ 64 by omega), xor_ones _ (by omega)]
    unfold zagI wrapI
    rw [if_neg hp]
    omega
set_option maxHeartbeats 800000 in
theorem zig_any (n : Int) (w : World) (h1 : -9223372036854775808 ≤ n) (h2 : n ≤ 9223372036854775807) : Calls Tryz.prog 148 #[.int .i64 n] w fun e w' => e = .returned (.int .u64 (zigN n)) ∧ w = w' := by
  have hz := zig_bits h1 h2
  have HZ := Lib.hid hz
  clear hz
  go_enter Tryz.func148, Tryz.ntmps148
  go_wp2
  go_ret
  exact ⟨congrArg (fun x => Ending.returned (.int .u64 x)) HZ.out, rfl⟩
set_option maxHeartbeats 800000 in
theorem zag_any (n : Nat) (w : World) (h : n < 18446744073709551616) : Calls Tryz.prog 180 #[.int .u64 n] w fun e w' => e = .returned (.int .i64 (zagI n)) ∧ w = w' := by
  have HZ := Lib.hid (zag_bits h)
  go_enter Tryz.func180, Tryz.ntmps180
  go_wp2
  go_ret
  exact ⟨congrArg (fun x => Ending.returned (.int .i64 x)) HZ.out, rfl⟩
end Go.Proofs.YtgmdimbiipemhaaGreatDoor
