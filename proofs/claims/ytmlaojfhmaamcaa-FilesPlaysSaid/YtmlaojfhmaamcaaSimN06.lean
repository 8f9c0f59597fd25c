/- The program's disk and the document's: names, event by event. -/
import Derived.Test.YtmlaojfhmaamcaaCalm06
namespace Go.Proofs.Ytmlaojfhmaamcaa
open Go.RowKit Go.Deep
set_option linter.unusedSimpArgs false
set_option linter.unusedVariables false

/-- The program's file of a number. -/
def fid (F : List Nat) (f : Int) : Option Nat := if 0 ≤ f then F[f.toNat]? else none
theorem fid_mono {F : List Nat} {f : Int} {b c : Nat} (h : fid F f = some b) : fid (F ++ [c]) f = some b := by
  unfold fid at *
  split at h
  · rename_i h0
    rw [if_pos h0, List.getElem?_append_left (List.getElem?_eq_some_iff.1 h).1]
    exact h
  · cases h
theorem fid_inj {F : List Nat} (hF : F.Nodup) {f g : Int} {b : Nat} (h : fid F f = some b) (k : fid F g = some b) : f = g := by
  unfold fid at *
  split at h
  · split at k
    · have := (List.getElem?_inj (List.getElem?_eq_some_iff.1 h).1 hF).1 (h.trans k.symm)
      omega
    · cases k
  · cases h
theorem fid_nonneg {F : List Nat} {f : Int} {b : Nat} (h : fid F f = some b) : 0 ≤ f := by
  unfold fid at h
  split at h
  · assumption
  · cases h
theorem fid_mem {F : List Nat} {f : Int} {b : Nat} (h : fid F f = some b) : b ∈ F := by
  unfold fid at h
  split at h
  · exact List.mem_of_getElem? h
  · cases h
theorem fid_last (F : List Nat) (b : Nat) : fid (F ++ [b]) F.length = some b := by
  unfold fid
  rw [if_pos (by omega)]
  simp
theorem fid_lt {F : List Nat} {f : Int} {b : Nat} (h : fid F f = some b) : f < F.length := by
  have h0 := fid_nonneg h
  unfold fid at h
  rw [if_pos h0] at h
  have := (List.getElem?_eq_some_iff.1 h).1
  omega

/-- The same names, of the same files. -/
structure NRel (F : List Nat) (m : List (ByteArray × Nat)) (l : List Nm) : Prop where
  t2 : ∀ x ∈ l, ∃ b, fid F x.file = some b ∧ aget m x.name = some b
  o2 : ∀ n b, aget m n = some b → ∃ x ∈ l, x.name = n ∧ fid F x.file = some b
  nd : (m.map (·.1)).Nodup
  nn : (l.map (·.name)).Nodup
  nf : (l.map (·.file)).Nodup
  ne : ∀ x ∈ l, rightN x.name = true
theorem NRel.mono {F : List Nat} {m : List (ByteArray × Nat)} {l : List Nm} (h : NRel F m l) (c : Nat) : NRel (F ++ [c]) m l :=
  ⟨fun x hx => by obtain ⟨b, h1, h2⟩ := h.t2 x hx; exact ⟨b, fid_mono h1, h2⟩, fun n b hb => by obtain ⟨x, h1, h2, h3⟩ := h.o2 n b hb; exact ⟨x, h1, h2, fid_mono h3⟩, h.nd, h.nn, h.nf, h.ne⟩
theorem nodup_key {α β : Type} {f : α → β} {l : List α} (h : (l.map f).Nodup) {x y : α} (hx : x ∈ l) (hy : y ∈ l) (e : f x = f y) : x = y := by
  induction l with
  | nil => cases hx
  | cons z l ih =>
    rw [List.map_cons, List.nodup_cons] at h
    rcases List.mem_cons.1 hx with hx1 | hx1
    · rcases List.mem_cons.1 hy with hy1 | hy1
      · rw [hx1, hy1]
      · exact absurd (show f z ∈ l.map f from List.mem_map.2 ⟨y, hy1, by rw [← e, hx1]⟩) h.1
    · rcases List.mem_cons.1 hy with hy1 | hy1
      · exact absurd (show f z ∈ l.map f from List.mem_map.2 ⟨x, hx1, by rw [e, hy1]⟩) h.1
      · exact ih h.2 hx1 hy1
theorem NRel.keys {F : List Nat} {m : List (ByteArray × Nat)} {l : List Nm} (h : NRel F m l) : (m.map (·.1)).Perm (l.map (·.name)) := by
  refine (List.perm_ext_iff_of_nodup h.nd h.nn).2 (fun n => ⟨fun hn => ?_, fun hn => ?_⟩)
  · cases hb : aget m n with
    | none => exact absurd hn ((aget_none_iff m n).1 hb)
    | some b => obtain ⟨x, h1, h2, _⟩ := h.o2 n b hb; exact List.mem_map.2 ⟨x, h1, h2⟩
  · obtain ⟨x, hx, rfl⟩ := List.mem_map.1 hn
    obtain ⟨b, _, hb⟩ := h.t2 x hx
    exact List.mem_map.2 ⟨_, aget_mem hb, rfl⟩
theorem NRel.len {F : List Nat} {m : List (ByteArray × Nat)} {l : List Nm} (h : NRel F m l) : m.length = l.length := by
  have := h.keys.length_eq
  rwa [List.length_map, List.length_map] at this

theorem find_mem {l : List Nm} (hn : (l.map (·.name)).Nodup) {x : Nm} (hx : x ∈ l) : findR l x.name = x.file := by
  unfold findR
  cases hf : l.find? (fun y => decide (y.name = x.name)) with
  | none =>
    have := List.find?_eq_none.1 hf x hx
    simp at this
  | some y =>
    have h1 := List.mem_of_find?_eq_some hf
    have h2 := List.find?_some hf
    simp at h2
    rw [nodup_key hn h1 hx h2]
theorem find_none {l : List Nm} {n : ByteArray} (h : ∀ x ∈ l, x.name ≠ n) : findR l n = -1 := by
  unfold findR
  rw [List.find?_eq_none.2 (fun x hx => by simpa using h x hx)]
theorem NRel.find {F : List Nat} {m : List (ByteArray × Nat)} {l : List Nm} (h : NRel F m l) {n : ByteArray} {b : Nat} (hb : aget m n = some b) : fid F (findR l n) = some b ∧ 0 ≤ findR l n ∧ ∃ x ∈ l, x.name = n ∧ x.file = findR l n := by
  obtain ⟨x, h1, h2, h3⟩ := h.o2 n b hb
  have := find_mem h.nn h1
  rw [h2] at this
  rw [this]
  exact ⟨h3, fid_nonneg h3, x, h1, h2, rfl⟩
theorem NRel.find_no {F : List Nat} {m : List (ByteArray × Nat)} {l : List Nm} (h : NRel F m l) {n : ByteArray} (hb : aget m n = none) : findR l n = -1 :=
  find_none (fun x hx e => by obtain ⟨b, _, h2⟩ := h.t2 x hx; rw [e, hb] at h2; cases h2)

/-- One event, on both. -/
def EvOk (F : List Nat) (l : List Nm) (s : StepA) (oc : Option Chg) : Prop :=
  (s.kind = 1 ∧ ∃ b a, oc = some ⟨a, s.name, ⟨#[]⟩, some b⟩ ∧ fid F s.file = some b ∧ (∀ x ∈ l, x.file ≠ s.file) ∧ (∀ x ∈ l, x.name ≠ s.name) ∧ rightN s.name = true) ∨
  (s.kind = 3 ∧ ∃ b a old, oc = some ⟨a, s.name, old, some b⟩ ∧ fid F s.file = some b ∧ (∃ x ∈ l, x.name = old ∧ x.file = s.file) ∧ rightN s.name = true) ∨
  (s.kind = 4 ∧ ∃ a, oc = some ⟨a, ⟨#[]⟩, s.name, none⟩) ∨
  (s.kind ≠ 1 ∧ s.kind ≠ 3 ∧ s.kind ≠ 4 ∧ oc = none)
def applyO (oc : Option Chg) (m : List (ByteArray × Nat)) : List (ByteArray × Nat) := match oc with | none => m | some c => applyC c m
theorem EvOk.mono {F : List Nat} {l : List Nm} {s : StepA} {oc : Option Chg} (h : EvOk F l s oc) (c : Nat) : EvOk (F ++ [c]) l s oc := by
  rcases h with ⟨h1, b, a, h2, h3, h4⟩ | ⟨h1, b, a, o, h2, h3, h4⟩ | h | h
  · exact .inl ⟨h1, b, a, h2, fid_mono h3, h4⟩
  · exact .inr (.inl ⟨h1, b, a, o, h2, fid_mono h3, h4⟩)
  · exact .inr (.inr (.inl h))
  · exact .inr (.inr (.inr h))
theorem NRel.set {F : List Nat} {m : List (ByteArray × Nat)} {l : List Nm} (h : NRel F m l) {a : Int} {name old : ByteArray} {b : Nat} {f : Int} (hb : fid F f = some b) (h1 : ∀ x ∈ l, x.file ≠ f → x.name ≠ old) (h2 : ∀ x ∈ l, x.file = f → x.name = old) (hne : rightN name = true) :
    NRel F (applyC ⟨a, name, old, some b⟩ m) (l.filter (fun x => decide (x.file ≠ f) && decide (x.name ≠ name)) ++ [⟨name, f⟩]) := by
  have ha := aget_applyC ⟨a, name, old, some b⟩ m h.nd
  dsimp only at ha
  have hm : ∀ x, x ∈ l.filter (fun x => decide (x.file ≠ f) && decide (x.name ≠ name)) ↔ x ∈ l ∧ x.file ≠ f ∧ x.name ≠ name := fun x => by simp [List.mem_filter]
  refine ⟨fun x hx => ?_, fun n c hc => ?_, applyC_nodup _ _ h.nd, ?_, ?_, fun x hx => ?_⟩
  · rcases List.mem_append.1 hx with hx | hx
    · obtain ⟨k1, k2, k3⟩ := (hm x).1 hx
      obtain ⟨c, e1, e2⟩ := h.t2 x k1
      exact ⟨c, e1, by rw [ha, if_neg k3, if_neg (h1 x k1 k2)]; exact e2⟩
    · simp at hx
      subst hx
      exact ⟨b, hb, by rw [ha, if_pos rfl]⟩
  · rw [ha] at hc
    split at hc
    · rename_i e
      cases hc
      exact ⟨⟨name, f⟩, by simp, e.symm, hb⟩
    · rename_i e
      split at hc
      · cases hc
      · rename_i e2
        obtain ⟨x, k1, k2, k3⟩ := h.o2 n c hc
        refine ⟨x, List.mem_append_left _ ((hm x).2 ⟨k1, fun e3 => ?_, by rw [k2]; exact e⟩), k2, k3⟩
        exact e2 (k2.symm.trans (h2 x k1 e3))
  · rw [List.map_append, List.nodup_append]
    refine ⟨List.Sublist.nodup ((List.filter_sublist).map _) h.nn, by simp, fun x hx y hy => ?_⟩
    obtain ⟨z, hz, rfl⟩ := List.mem_map.1 hx
    simp at hy
    subst hy
    exact ((hm z).1 hz).2.2
  · rw [List.map_append, List.nodup_append]
    refine ⟨List.Sublist.nodup ((List.filter_sublist).map _) h.nf, by simp, fun x hx y hy => ?_⟩
    obtain ⟨z, hz, rfl⟩ := List.mem_map.1 hx
    simp at hy
    subst hy
    exact ((hm z).1 hz).2.1
  · rcases List.mem_append.1 hx with hx | hx
    · exact h.ne x ((hm x).1 hx).1
    · simp at hx; subst hx; exact hne
theorem NRel.del {F : List Nat} {m : List (ByteArray × Nat)} {l : List Nm} (h : NRel F m l) (a : Int) (name : ByteArray) : NRel F (applyC ⟨a, ⟨#[]⟩, name, none⟩ m) (withoutR l name) := by
  have ha := aget_applyC ⟨a, ⟨#[]⟩, name, none⟩ m h.nd
  dsimp only at ha
  have hm : ∀ x, x ∈ withoutR l name ↔ x ∈ l ∧ x.name ≠ name := fun x => by simp [withoutR, List.mem_filter]
  refine ⟨fun x hx => ?_, fun n c hc => ?_, applyC_nodup _ _ h.nd, ?_, ?_, fun x hx => ?_⟩
  · obtain ⟨k1, k2⟩ := (hm x).1 hx
    obtain ⟨c, e1, e2⟩ := h.t2 x k1
    exact ⟨c, e1, by rw [ha, if_neg k2]; exact e2⟩
  · rw [ha] at hc
    split at hc
    · cases hc
    · rename_i e
      obtain ⟨x, k1, k2, k3⟩ := h.o2 n c hc
      exact ⟨x, (hm x).2 ⟨k1, by rw [k2]; exact e⟩, k2, k3⟩
  · exact List.Sublist.nodup ((List.filter_sublist).map _) h.nn
  · exact List.Sublist.nodup ((List.filter_sublist).map _) h.nf
  · exact h.ne x ((hm x).1 hx).1
theorem NRel.step {F : List Nat} {m : List (ByteArray × Nat)} {l : List Nm} {s : StepA} {oc : Option Chg} (h : NRel F m l) (he : EvOk F l s oc) : NRel F (applyO oc m) (namedR l s) := by
  rcases he with ⟨h1, b, a, rfl, h2, h3, h4, h5⟩ | ⟨h1, b, a, old, rfl, h2, ⟨y, hy, h3, h4⟩, h5⟩ | ⟨h1, a, rfl⟩ | ⟨h1, h3, h4, rfl⟩
  · unfold namedR
    rw [if_pos (.inl h1)]
    exact h.set h2 (fun x hx _ => right_some (h.ne x hx)) (fun x hx e => absurd e (h3 x hx)) h5
  · unfold namedR
    rw [if_pos (.inr h1)]
    refine h.set h2 (fun x hx e1 e2 => e1 ?_) (fun x hx e => ?_) h5
    · rw [nodup_key h.nn hx hy (e2.trans h3.symm)]; exact h4
    · rw [nodup_key h.nf hx hy (e.trans h4.symm)]; exact h3
  · unfold namedR
    rw [if_neg (by omega), if_pos h1]
    exact h.del a s.name
  · unfold namedR
    rw [if_neg (by omega), if_neg h4]
    exact h

/-- Events, one after another; never more than eight names. -/
def EvsOk (F : List Nat) : List Nm → List (StepA × Option Chg) → Prop
  | l, [] => l.length ≤ 8
  | l, e :: J => l.length ≤ 8 ∧ EvOk F l e.1 e.2 ∧ EvsOk F (namedR l e.1) J
theorem EvsOk.mono {F : List Nat} (c : Nat) : ∀ {l : List Nm} {J : List (StepA × Option Chg)}, EvsOk F l J → EvsOk (F ++ [c]) l J
  | _, [], h => h
  | _, _ :: _, h => ⟨h.1, h.2.1.mono c, EvsOk.mono c h.2.2⟩
theorem EvsOk.snoc {F : List Nat} {e : StepA × Option Chg} : ∀ {l : List Nm} {J : List (StepA × Option Chg)}, EvsOk F l J → EvOk F ((J.map (·.1)).foldl namedR l) e.1 e.2 → (namedR ((J.map (·.1)).foldl namedR l) e.1).length ≤ 8 → EvsOk F l (J ++ [e])
  | _, [], h, h2, h3 => ⟨h, h2, h3⟩
  | _, _ :: _, h, h2, h3 => ⟨h.1, h.2.1, EvsOk.snoc h.2.2 h2 h3⟩
theorem EvsOk.len {F : List Nat} : ∀ {l : List Nm} {J : List (StepA × Option Chg)}, EvsOk F l J → ((J.map (·.1)).foldl namedR l).length ≤ 8
  | _, [], h => h
  | l, e :: J, h => EvsOk.len (F := F) (l := namedR l e.1) (J := J) h.2.2
theorem NRel.all {F : List Nat} : ∀ {J : List (StepA × Option Chg)} {m : List (ByteArray × Nat)} {l : List Nm}, NRel F m l → EvsOk F l J → NRel F ((J.filterMap (·.2)).foldl (fun m c => applyC c m) m) ((J.map (·.1)).foldl namedR l)
  | [], _, _, h, _ => h
  | (s, none) :: J, _, _, h, he => NRel.all (J := J) (h.step he.2.1) he.2.2
  | (s, some c) :: J, _, _, h, he => NRel.all (J := J) (h.step he.2.1) he.2.2

/-- When each event was. -/
def Timed (J : List (StepA × Option Chg)) : Prop := ∀ (i : Nat) s c, J[i]? = some (s, some c) → c.at_ = i + 1
/-- The times of SyncNames. -/
def synJ (J : List (StepA × Option Chg)) : List Int := (J.zipIdx.filter (fun x => decide (x.1.1.kind = 6))).map (fun x => (x.2 : Int) + 1)
theorem synJ_snoc (J : List (StepA × Option Chg)) (e : StepA × Option Chg) : synJ (J ++ [e]) = synJ J ++ if e.1.kind = 6 then [(J.length : Int) + 1] else [] := by
  unfold synJ
  rw [List.zipIdx_append, List.filter_append, List.map_append]
  congr 1
  by_cases h : e.1.kind = 6 <;> simp [h]
theorem Timed.snoc {J : List (StepA × Option Chg)} {e : StepA × Option Chg} (h : Timed J) (he : ∀ c, e.2 = some c → c.at_ = J.length + 1) : Timed (J ++ [e]) := by
  intro i s c hi
  by_cases hl : i < J.length
  · rw [List.getElem?_append_left hl] at hi
    exact h i s c hi
  · have hi2 : i = J.length := by
      have := (List.getElem?_eq_some_iff.1 hi).1
      simp at this
      omega
    subst hi2
    simp at hi
    subst hi
    exact he c rfl

end Go.Proofs.Ytmlaojfhmaamcaa
