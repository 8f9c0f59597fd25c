/- What a script keeps: few calls, few bytes, each file has one name. -/
import Derived.Test.YtmlaojfhmaamcaaAct06
namespace Go.Proofs.Ytmlaojfhmaamcaa
open Go.RowKit Go.Deep
set_option linter.unusedSimpArgs false
set_option linter.unusedVariables false

theorem applyC_len (c : Chg) (l : List (ByteArray × Nat)) : (applyC c l).length ≤ l.length + 1 := by
  have h1 := (adel_sub l c.old).length_le
  unfold applyC
  cases c.f with
  | none => dsimp only; omega
  | some f => dsimp only; have := aset_length_le (adel l c.old) c.name f; omega
theorem applyC_nodup (c : Chg) (l : List (ByteArray × Nat)) (h : (l.map (·.1)).Nodup) : ((applyC c l).map (·.1)).Nodup := by
  unfold applyC
  cases c.f with
  | none => exact adel_nodup l c.old h
  | some f => exact aset_nodup _ _ _ (adel_nodup l c.old h)
theorem aget_applyC (c : Chg) (l : List (ByteArray × Nat)) (h : (l.map (·.1)).Nodup) (n : ByteArray) :
    aget (applyC c l) n = match c.f with | some f => if n = c.name then some f else if n = c.old then none else aget l n | none => if n = c.old then none else aget l n := by
  have hd : aget (adel l c.old) n = if n = c.old then none else aget l n := by
    by_cases e : n = c.old
    · rw [if_pos e, e]; exact aget_adel_same l c.old h
    · rw [if_neg e]; exact aget_adel_other l (fun e' => e e'.symm)
  unfold applyC
  cases c.f with
  | none => exact hd
  | some f =>
    dsimp only
    by_cases e : n = c.name
    · rw [if_pos e, e]; exact aget_aset_same _ _ _
    · rw [if_neg e, aget_aset_other _ _ (fun e' => e e'.symm)]; exact hd

/-- Each file has one name, each name one file. -/
structure DiskA.Inj (A : DiskA) : Prop where
  nd : (A.files.map (·.1)).Nodup
  ids : ∀ n f, aget A.files n = some f → f ∈ A.ids
  one : ∀ n m f, aget A.files n = some f → aget A.files m = some f → n = m
  rt : ∀ n f, aget A.files n = some f → rightN n = true
theorem inj0 : disk0.Inj := ⟨List.nodup_nil, fun n f h => (by cases h), fun n m f h => (by cases h), fun n f h => (by cases h)⟩
theorem right_some {n : ByteArray} (h : rightN n = true) : n ≠ ⟨#[]⟩ := by
  rintro rfl
  revert h
  decide

theorem DiskA.Inj.step {A : DiskA} (h : A.Inj) (c : Chg) (hf : ∀ f, c.f = some f → (f ∈ A.ids ∧ rightN c.name = true) ∧ ∀ n, aget A.files n = some f → n = c.old) : (stepA c A).Inj := by
  have ha := aget_applyC c A.files h.nd
  refine ⟨applyC_nodup c A.files h.nd, fun n f hn => ?_, fun n m f hn hm => ?_, fun n f hn => ?_⟩
  · change aget (applyC c A.files) n = some f at hn
    rw [ha] at hn
    cases hc : c.f with
    | none =>
      rw [hc] at hn
      dsimp only at hn
      split at hn
      · cases hn
      · exact h.ids n f hn
    | some g =>
      rw [hc] at hn
      dsimp only at hn
      split at hn
      · cases hn; exact (hf f hc).1.1
      · split at hn
        · cases hn
        · exact h.ids n f hn
  · change aget (applyC c A.files) n = some f at hn
    change aget (applyC c A.files) m = some f at hm
    rw [ha] at hn hm
    cases hc : c.f with
    | none =>
      rw [hc] at hn hm
      dsimp only at hn hm
      split at hn
      · cases hn
      · split at hm
        · cases hm
        · exact h.one n m f hn hm
    | some g =>
      rw [hc] at hn hm
      dsimp only at hn hm
      have key : ∀ n, ¬ n = c.name → (if n = c.name then some g else if n = c.old then none else aget A.files n) = some g → False := fun n h1 h2 => by
        rw [if_neg h1] at h2
        split at h2
        · cases h2
        · rename_i h3; exact h3 ((hf g hc).2 n h2)
      by_cases e1 : n = c.name
      · rw [if_pos e1] at hn
        cases hn
        by_cases e2 : m = c.name
        · rw [e1, e2]
        · exact (key m e2 hm).elim
      · by_cases e2 : m = c.name
        · rw [if_pos e2] at hm
          cases hm
          exact (key n e1 hn).elim
        · rw [if_neg e1] at hn
          rw [if_neg e2] at hm
          split at hn
          · cases hn
          · split at hm
            · cases hm
            · exact h.one n m f hn hm
  · change aget (applyC c A.files) n = some f at hn
    rw [ha] at hn
    cases hc : c.f with
    | none =>
      rw [hc] at hn
      dsimp only at hn
      split at hn
      · cases hn
      · exact h.rt n f hn
    | some g =>
      rw [hc] at hn
      dsimp only at hn
      split at hn
      · rename_i e; rw [e]; exact (hf g hc).1.2
      · split at hn
        · cases hn
        · exact h.rt n f hn

theorem DiskA.Inj.born {A : DiskA} (h : A.Inj) (fb : Nat) : (bornA fb A).Inj := ⟨h.nd, fun n f hn => List.mem_cons_of_mem _ (h.ids n f hn), h.one, h.rt⟩

/-- An act keeps it. -/
theorem ActA.inj {x : OpA} {A A' : DiskA} {c : Int} (h : ActA x A c A') (hi : A.Inj) : A'.Inj := by
  unfold ActA at h
  split at h
  · rcases h with ⟨hcm, ⟨_, rfl⟩ | ⟨hc0, fb, hfb, rfl⟩⟩
    · exact hi
    · refine (hi.born fb).step _ (fun f hf => ?_)
      cases hf
      refine ⟨⟨List.mem_cons_self, ?_⟩, fun n hn => absurd (hi.ids n _ hn) hfb⟩
      rw [hc0] at hcm
      unfold makeCode at hcm
      split at hcm
      · cases hcm
      · rename_i hr; simpa using hr
  · split at h
    · rcases h with ⟨_, _, rfl⟩ | ⟨f, _, _, _, rfl⟩ | ⟨f, _, _, _, rfl⟩
      · exact hi
      · exact hi
      · exact ⟨hi.nd, hi.ids, hi.one, hi.rt⟩
    · split at h
      · rcases h with ⟨_, _, rfl⟩ | ⟨f, _, _, rfl⟩
        · exact hi
        · exact ⟨hi.nd, hi.ids, hi.one, hi.rt⟩
      · split at h
        · rcases h with ⟨_, _, rfl⟩ | ⟨_, _, _, rfl⟩ | ⟨f, hr, hf, _, rfl⟩
          · exact hi
          · exact hi
          · exact hi.step _ (fun g hg => by cases hg; exact ⟨⟨hi.ids _ _ hf, hr⟩, fun n hn => hi.one n _ _ hn hf⟩)
        · split at h
          · rcases h with ⟨_, _, rfl⟩ | ⟨f, hf, _, rfl⟩
            · exact hi
            · exact hi.step _ (fun g hg => by cases hg)
          · split at h
            · rcases h with ⟨_, rfl⟩
              exact ⟨hi.nd, hi.ids, hi.one, hi.rt⟩
            · rcases h with ⟨_, rfl⟩
              exact hi

theorem DiskA.Small.mono {A : DiskA} {n m : Nat} (h : A.Small n) (hm : n ≤ m) : A.Small m :=
  ⟨h.now0, by have := h.now; omega, Nat.le_trans h.chg hm, Nat.le_trans h.syn hm, fun f hf => Nat.le_trans (h.pcs f hf) (by omega), Nat.le_trans h.fil hm⟩
theorem DiskA.Small.step {A : DiskA} {n : Nat} (h : A.Small n) (c : Chg) : (stepA c A).Small (n + 1) := by
  refine ⟨?_, ?_, ?_, ?_, fun f hf => Nat.le_trans (h.pcs f hf) (by omega), ?_⟩
  · have := h.now0; simp only [stepA]; omega
  · have := h.now; simp only [stepA]; omega
  · have := h.chg; simp [stepA]; omega
  · have := h.syn; simp only [stepA]; omega
  · have := h.fil; have := applyC_len c A.files; simp only [stepA]; omega
theorem ActA.small {x : OpA} {A A' : DiskA} {c : Int} (h : ActA x A c A') {n : Nat} (hs : A.Small n) : A'.Small (n + 1) := by
  have h0 := hs.mono (Nat.le_succ n)
  have hn0 := hs.now0
  have hn := hs.now
  unfold ActA at h
  split at h
  · rcases h with ⟨_, ⟨_, rfl⟩ | ⟨_, fb, hfb, rfl⟩⟩
    · exact h0
    · refine DiskA.Small.step (A := bornA fb A) ⟨hs.now0, hs.now, hs.chg, hs.syn, fun f hf => ?_, hs.fil⟩ _
      simp only [bornA]
      split
      · simp
      · rename_i e
        rcases List.mem_cons.1 hf with e2 | hf
        · exact absurd e2 e
        · exact hs.pcs f hf
  · split at h
    · rcases h with ⟨_, _, rfl⟩ | ⟨f, _, _, _, rfl⟩ | ⟨f, hf, _, _, rfl⟩
      · exact h0
      · exact h0
      · refine ⟨by simp only [appA]; omega, by simp only [appA]; omega, h0.chg, h0.syn, fun g hg => ?_, h0.fil⟩
        simp only [appA]
        split
        · rename_i e; subst e; have := hs.pcs g hg; simp; omega
        · exact h0.pcs g hg
    · split at h
      · rcases h with ⟨_, _, rfl⟩ | ⟨f, _, _, rfl⟩
        · exact h0
        · refine ⟨by simp only [syncA]; omega, by simp only [syncA]; omega, h0.chg, h0.syn, fun g hg => ?_, h0.fil⟩
          simp only [syncA]
          split
          · rename_i e; subst e; rw [List.length_map]; exact h0.pcs g hg
          · exact h0.pcs g hg
      · split at h
        · rcases h with ⟨_, _, rfl⟩ | ⟨_, _, _, rfl⟩ | ⟨f, _, hf, _, rfl⟩
          · exact h0
          · exact h0
          · exact hs.step _
        · split at h
          · rcases h with ⟨_, _, rfl⟩ | ⟨f, hf, _, rfl⟩
            · exact h0
            · exact hs.step _
          · split at h
            · rcases h with ⟨_, rfl⟩
              exact ⟨by simp only [synA]; omega, by simp only [synA]; omega, h0.chg, by have := hs.syn; simp [synA]; omega, h0.pcs, h0.fil⟩
            · rcases h with ⟨_, rfl⟩
              exact h0

/-- The bytes of a name. -/
def bytesA (A : DiskA) (n : ByteArray) : List UInt8 := match aget A.files n with | none => [] | some f => bytesP (A.fs f)
theorem bytesP_syn (k : Int) (ps : List PcA) : bytesP (ps.map (synP k)) = bytesP ps := by
  unfold bytesP
  rw [List.flatMap_map]
  congr 1
  funext p
  simp only [synP]
  split <;> rfl
/-- What is done with one file leaves all others. -/
theorem ActA.apart {x : OpA} {A A' : DiskA} {c : Int} (h : ActA x A c A') (hi : A.Inj) {n : ByteArray} {f : Nat} (hn : aget A.files n = some f) (h1 : ¬ (c = 0 ∧ (n = x.name ∨ x.kind = 4 ∧ n = x.s))) : aget A'.files n = some f ∧ bytesP (A'.fs f) = bytesP (A.fs f) := by
  have same : A' = A → aget A'.files n = some f ∧ bytesP (A'.fs f) = bytesP (A.fs f) := fun e => by subst e; exact ⟨hn, rfl⟩
  have hx : c = 0 → n ≠ x.name := fun e e2 => h1 ⟨e, .inl e2⟩
  have hfi := hi.ids n f hn
  unfold ActA at h
  split at h
  · rcases h with ⟨_, ⟨_, rfl⟩ | ⟨hc, fb, hfb, rfl⟩⟩
    · exact same rfl
    · refine ⟨?_, ?_⟩
      · show aget (applyC ⟨0, x.name, ⟨#[]⟩, some fb⟩ A.files) n = some f
        rw [aget_applyC _ _ hi.nd]
        dsimp only
        rw [if_neg (hx hc)]
        split
        · rename_i e
          exact absurd e (right_some (hi.rt n f hn))
        · exact hn
      · simp only [stepA, bornA]
        have hne : f ≠ fb := fun e => hfb (by rw [← e]; exact hfi)
        rw [if_neg hne]
  · split at h
    · rcases h with ⟨_, _, rfl⟩ | ⟨g, _, _, _, rfl⟩ | ⟨g, hg, _, hc, rfl⟩
      · exact same rfl
      · exact same rfl
      · refine ⟨hn, ?_⟩
        simp only [appA]
        rw [if_neg]
        rintro rfl
        exact hx hc (hi.one _ _ _ hn hg)
    · split at h
      · rcases h with ⟨_, _, rfl⟩ | ⟨g, _, _, rfl⟩
        · exact same rfl
        · refine ⟨hn, ?_⟩
          simp only [syncA]
          split
          · rename_i e; subst e; exact bytesP_syn _ _
          · rfl
      · split at h
        · rename_i k4
          rcases h with ⟨_, _, rfl⟩ | ⟨_, _, _, rfl⟩ | ⟨g, _, hg, hc, rfl⟩
          · exact same rfl
          · exact same rfl
          · refine ⟨?_, rfl⟩
            show aget (applyC ⟨0, x.s, x.name, some g⟩ A.files) n = some f
            rw [aget_applyC _ _ hi.nd]
            dsimp only
            rw [if_neg (fun e => h1 ⟨hc, .inr ⟨k4, e⟩⟩), if_neg (hx hc)]
            exact hn
        · split at h
          · rcases h with ⟨_, _, rfl⟩ | ⟨g, hg, hc, rfl⟩
            · exact same rfl
            · refine ⟨?_, rfl⟩
              show aget (applyC ⟨0, ⟨#[]⟩, x.name, none⟩ A.files) n = some f
              rw [aget_applyC _ _ hi.nd]
              dsimp only
              rw [if_neg (hx hc)]
              exact hn
          · split at h
            · rcases h with ⟨_, rfl⟩
              exact ⟨hn, rfl⟩
            · rcases h with ⟨_, rfl⟩
              exact same rfl
/-- What fails leaves all. -/
theorem ActA.fails {x : OpA} {A A' : DiskA} {c : Int} (h : ActA x A c A') (hc : c ≠ 0) : A' = A := by
  unfold ActA at h
  split at h
  · rcases h with ⟨_, ⟨_, rfl⟩ | ⟨hc', _⟩⟩
    · rfl
    · exact absurd hc' hc
  · split at h
    · rcases h with ⟨_, _, rfl⟩ | ⟨g, _, _, _, rfl⟩ | ⟨g, hg, _, hc', rfl⟩
      · rfl
      · rfl
      · exact absurd hc' hc
    · split at h
      · rcases h with ⟨_, _, rfl⟩ | ⟨g, _, hc', rfl⟩
        · rfl
        · exact absurd hc' hc
      · split at h
        · rcases h with ⟨_, _, rfl⟩ | ⟨_, _, _, rfl⟩ | ⟨g, _, hg, hc', rfl⟩
          · rfl
          · rfl
          · exact absurd hc' hc
        · split at h
          · rcases h with ⟨_, _, rfl⟩ | ⟨g, hg, hc', rfl⟩
            · rfl
            · exact absurd hc' hc
          · split at h
            · exact absurd h.1 hc
            · exact h.2

theorem heldR_push (L : List StepA) (p : StepA) (f : Int) : heldR (L ++ [p]) f = heldR L f ++ if p.kind = 2 ∧ p.file = f then p.bs else [] := by
  unfold heldR
  rw [List.filter_append, List.flatMap_append]
  by_cases e1 : p.kind = 2 <;> by_cases e2 : p.file = f <;> simp [e1, e2]
theorem RefA.Small.mono {R : RefA} {n m : Nat} (h : R.Small n) (hm : n ≤ m) : R.Small m := ⟨Nat.le_trans h.len hm, h.born0, by have := h.born; omega⟩
/-- The document's disk, behind an act. -/
theorem ract_small (x : OpA) {R : RefA} {n : Nat} (h : R.Small n) (hh : ∀ f, (heldR R.L f).length ≤ 1048576) : (ractR x R).Small (n + 1) ∧ ∀ f, (heldR (ractR x R).L f).length ≤ 1048576 := by
  have h0 := h.mono (Nat.le_succ n)
  have push : ∀ (p : StepA), p.kind ≠ 2 → (pushR p R).Small (n + 1) ∧ ∀ f, (heldR (pushR p R).L f).length ≤ 1048576 := fun p hp => by
    refine ⟨⟨by have := h.len; simp [pushR]; omega, h0.born0, h0.born⟩, fun f => ?_⟩
    simp only [pushR]
    rw [heldR_push, if_neg (fun e => hp e.1), List.append_nil]
    exact hh f
  unfold ractR
  split
  · unfold rmakeR
    split
    · have := push ⟨1, R.born, x.name, []⟩ (by simp)
      refine ⟨⟨this.1.len, ?_, ?_⟩, this.2⟩
      · have := h.born0; simp only [pushR]; omega
      · have := h.born; simp only [pushR]; omega
    · exact ⟨h0, hh⟩
  · split
    · unfold rappendR
      split
      · rename_i hc
        refine ⟨⟨by have := h.len; simp [pushR]; omega, h0.born0, h0.born⟩, fun f => ?_⟩
        simp only [pushR]
        rw [heldR_push]
        split
        · rename_i e
          obtain ⟨_, rfl⟩ := e
          unfold rappendCode at hc
          split at hc
          · cases hc
          · split at hc
            · cases hc
            · rw [List.length_append]; dsimp only; omega
        · rw [List.append_nil]; exact hh f
      · exact ⟨h0, hh⟩
    · split
      · unfold rsyncR
        split
        · exact ⟨h0, hh⟩
        · exact push _ (by simp)
      · split
        · unfold rrenameR
          split
          · exact ⟨h0, hh⟩
          · split
            · exact ⟨h0, hh⟩
            · exact push _ (by simp)
        · split
          · unfold rremoveR
            split
            · exact ⟨h0, hh⟩
            · exact push _ (by simp)
          · split
            · exact push _ (by simp)
            · exact ⟨h0, hh⟩

end Go.Proofs.Ytmlaojfhmaamcaa
