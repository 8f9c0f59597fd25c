/- What is durable is kept: the plain law. -/
import Derived.Test.YtmlaojfhmaamcaaCalm06
namespace Go.Proofs.Ytmlaojfhmaamcaa
open Go.RowKit Go.Deep
set_option linter.unusedSimpArgs false
set_option linter.unusedVariables false

theorem upto_app {safe at_ : Int} : ∀ {l1 l2 : List Chg} {op : Nat} {m : List (ByteArray × Nat)}, (∀ c ∈ l1, ¬ safe < c.at_) → upto safe at_ (l1 ++ l2) op m = upto safe at_ l2 op (l1.foldl (fun l c => applyC c l) m)
  | [], _, _, _, _ => rfl
  | c :: cs, l2, op, m, h => by
    rw [List.cons_append]
    conv => lhs; unfold upto
    rw [if_neg (h c List.mem_cons_self)]
    exact upto_app (fun d hd => h d (List.mem_cons_of_mem _ hd))
theorem apply_keep {c : Chg} {l : List (ByteArray × Nat)} {n : ByteArray} {f : Nat} (hnd : (l.map (·.1)).Nodup) (hc : c.old = ⟨#[]⟩) (hn : n ≠ c.name) (h0 : n ≠ ⟨#[]⟩) (h : aget l n = some f) : aget (applyC c l) n = some f := by
  rw [aget_applyC c l hnd]
  cases hf : c.f with
  | none =>
    dsimp only
    rw [hc, if_neg h0]
    exact h
  | some g =>
    dsimp only
    rw [if_neg hn, hc, if_neg h0]
    exact h
theorem upto_keep {safe at_ : Int} {n : ByteArray} {f : Nat} (h0 : n ≠ ⟨#[]⟩) : ∀ {cs : List Chg} {op : Nat} {m : List (ByteArray × Nat)}, (m.map (·.1)).Nodup → (∀ c ∈ cs, c.old = ⟨#[]⟩ ∧ n ≠ c.name) → aget m n = some f → aget (upto safe at_ cs op m) n = some f
  | [], _, _, _, _, h => h
  | c :: cs, op, m, hnd, hc, h => by
    have hk := apply_keep hnd (hc c List.mem_cons_self).1 (hc c List.mem_cons_self).2 h0 h
    have hnd2 := applyC_nodup c m hnd
    have hc2 : ∀ d ∈ cs, d.old = ⟨#[]⟩ ∧ n ≠ d.name := fun d hd => hc d (List.mem_cons_of_mem _ hd)
    unfold upto
    split
    · split
      · exact h
      · exact upto_keep h0 hnd2 hc2 hk
    · exact upto_keep h0 hnd2 hc2 hk
theorem safeG_ge {at_ n : Int} : ∀ (ss : List Int) (z : Int), n ≤ z → (∀ s ∈ ss, n ≤ s) → n ≤ ss.foldl (fun s n => if n ≤ at_ then n else s) z
  | [], z, h, _ => h
  | s :: ss, z, h, hs => by
    rw [List.foldl_cons]
    refine safeG_ge ss _ ?_ (fun t ht => hs t (List.mem_cons_of_mem _ ht))
    split
    · exact hs s List.mem_cons_self
    · exact h
theorem safeF_ge {at_ n : Int} (syn ss : List Int) (h : n ≤ at_) (hs : ∀ s ∈ ss, n ≤ s) : n ≤ safeF (syn ++ [n] ++ ss) at_ := by
  unfold safeF
  rw [List.foldl_append, List.foldl_append]
  simp only [List.foldl_cons, List.foldl_nil, if_pos h]
  exact safeG_ge ss n (Int.le_refl _) hs

/-- What comes behind durable bytes leaves them at their places. -/
theorem left_pre {at_ torn : Int} {ks : List Bool} {ps qs : List PcA} (h : ∀ p ∈ ps, p.came ≤ at_ ∧ p.safe ≤ at_ ∧ p.safe ≠ 0) : ∃ r, leftA at_ ks torn (ps ++ qs) = bytesP ps ++ r := by
  have key : ∀ (ps : List PcA) (o : List UInt8) (n : Nat), (∀ p ∈ ps, p.came ≤ at_ ∧ p.safe ≤ at_ ∧ p.safe ≠ 0) → ps.foldl (leftStep at_ ks torn) ⟨o, o.length, n⟩ = ⟨o ++ bytesP ps, (o ++ bytesP ps).length, n⟩ := by
    intro ps
    induction ps with
    | nil => intro o n _; simp [bytesP]
    | cons p ps ih =>
      intro o n h
      obtain ⟨h1, h2, h3⟩ := h p List.mem_cons_self
      have e : leftStep at_ ks torn ⟨o, o.length, n⟩ p = ⟨o ++ p.bs, (o ++ p.bs).length, n⟩ := by
        unfold leftStep
        rw [if_neg (by omega), if_pos ⟨h3, h2⟩]
      rw [List.foldl_cons, e, ih _ _ (fun q hq => h q (List.mem_cons_of_mem _ hq))]
      simp [bytesP, List.flatMap_cons]
  have go : ∀ (qs : List PcA) (o : List UInt8) (s : LeftS), (∃ r, s.out = o ++ r) → o.length ≤ s.fin → (∃ r, (qs.foldl (leftStep at_ ks torn) s).out = o ++ r) ∧ o.length ≤ (qs.foldl (leftStep at_ ks torn) s).fin := by
    intro qs
    induction qs with
    | nil => intro o s h1 h2; exact ⟨h1, h2⟩
    | cons q qs ih =>
      intro o s h1 h2
      rw [List.foldl_cons]
      obtain ⟨r, hr⟩ := h1
      refine ih o _ ?_ ?_
      · unfold leftStep
        split
        · exact ⟨r, hr⟩
        · split
          · exact ⟨r ++ q.bs, by simp [hr]⟩
          · split
            · exact ⟨r ++ q.bs, by simp [hr]⟩
            · exact ⟨r ++ _, by simp only [hr, List.append_assoc]; rfl⟩
      · unfold leftStep
        have : o.length ≤ s.out.length := by rw [hr, List.length_append]; omega
        split
        · exact h2
        · split
          · dsimp only; rw [List.length_append]; omega
          · split
            · dsimp only; omega
            · exact h2
  have h1 := key ps [] 0 h
  unfold leftA leftS
  rw [List.foldl_append, show (⟨[], 0, 0⟩ : LeftS) = ⟨[], ([] : List UInt8).length, 0⟩ from rfl, h1, List.nil_append]
  obtain ⟨⟨r, hr⟩, hf⟩ := go qs (bytesP ps) ⟨bytesP ps, (bytesP ps).length, 0⟩ ⟨[], by simp⟩ (Nat.le_refl _)
  rw [hr, List.take_append]
  refine ⟨_, congrArg (· ++ _) (List.take_of_length_le hf)⟩

/-- Since then: files made, bytes put behind, no name taken away. -/
structure More (A1 A : DiskA) : Prop where
  base : A.base = A1.base
  chg : ∃ cs, A.chg = A1.chg ++ cs ∧ ∀ c ∈ cs, c.old = ⟨#[]⟩ ∧ ∀ n f, aget A1.files n = some f → n ≠ c.name
  syn : ∃ ss, A.syn = A1.syn ++ ss ∧ ∀ s ∈ ss, A1.now ≤ s
  pcs : ∀ n f, aget A1.files n = some f → ∃ qs, A.fs f = A1.fs f ++ qs
  got : ∀ n f, aget A1.files n = some f → aget A.files n = some f
  now : A1.now ≤ A.now
theorem More.refl (A : DiskA) : More A A := ⟨rfl, ⟨[], by simp, fun c hc => (by cases hc)⟩, ⟨[], by simp, fun c hc => (by cases hc)⟩, fun n f _ => ⟨[], by simp⟩, fun n f h => h, Int.le_refl _⟩
/-- Of what is durable. -/
def AllSyn (A : DiskA) : Prop := ∀ n f, aget A.files n = some f → ∀ p ∈ A.fs f, p.safe ≠ 0
theorem More.act {A1 A A' : DiskA} {x : OpA} {c : Int} (h : More A1 A) (h1 : A1.Inj) (hs : AllSyn A1) (hi : A.Inj) (ha : ActA x A c A') (hk : x.kind = 1 ∨ x.kind = 2 ∨ x.kind = 3 ∨ x.kind = 6) : More A1 A' := by
  have hnow := h.now
  unfold ActA at ha
  split at ha
  · rcases ha with ⟨hcm, ⟨_, rfl⟩ | ⟨hc0, fb, hfb, rfl⟩⟩
    · exact h
    · have hnone : aget A.files x.name = none := by
        rw [hc0] at hcm
        unfold makeCode at hcm
        split at hcm
        · cases hcm
        · split at hcm
          · cases hcm
          · rename_i e
            cases hg : aget A.files x.name with
            | none => rfl
            | some g => rw [hg] at e; simp at e
      have hne : ∀ n f, aget A1.files n = some f → n ≠ x.name := fun n f hn e => by
        have := h.got n f hn
        rw [e, hnone] at this
        cases this
      obtain ⟨cs, e1, e2⟩ := h.chg
      refine ⟨h.base, ⟨cs ++ [{ (⟨0, x.name, ⟨#[]⟩, some fb⟩ : Chg) with at_ := A.now + 1 }], ?_, fun c hc => ?_⟩, h.syn, fun n f hn => ?_, fun n f hn => ?_, ?_⟩
      · simp only [stepA, bornA]
        rw [e1, List.append_assoc]
      · rcases List.mem_append.1 hc with hc | hc
        · exact e2 c hc
        · simp at hc
          subst hc
          exact ⟨rfl, hne⟩
      · have hfi := hi.ids n f (h.got n f hn)
        have hff : f ≠ fb := fun e => hfb (e ▸ hfi)
        simp only [stepA, bornA]
        rw [if_neg hff]
        exact h.pcs n f hn
      · exact apply_keep (c := ⟨0, x.name, ⟨#[]⟩, some fb⟩) hi.nd rfl (hne n f hn) (right_some (h1.rt n f hn)) (h.got n f hn)
      · simp only [stepA, bornA]; omega
  · split at ha
    · rcases ha with ⟨_, _, rfl⟩ | ⟨f, _, _, _, rfl⟩ | ⟨f, _, _, _, rfl⟩
      · exact h
      · exact h
      · refine ⟨h.base, h.chg, h.syn, fun n g hn => ?_, h.got, by simp only [appA]; omega⟩
        obtain ⟨qs, e⟩ := h.pcs n g hn
        simp only [appA]
        split
        · rename_i e2
          subst e2
          exact ⟨qs ++ [_], by rw [e, List.append_assoc]⟩
        · exact ⟨qs, e⟩
    · split at ha
      · rcases ha with ⟨_, _, rfl⟩ | ⟨f, _, _, rfl⟩
        · exact h
        · refine ⟨h.base, h.chg, h.syn, fun n g hn => ?_, h.got, by simp only [syncA]; omega⟩
          obtain ⟨qs, e⟩ := h.pcs n g hn
          simp only [syncA]
          split
          · rename_i e2
            subst e2
            refine ⟨qs.map (synP (A.now + 1)), ?_⟩
            rw [e, List.map_append]
            congr 1
            refine (List.map_congr_left (fun p hp => ?_)).trans (List.map_id _)
            unfold synP
            rw [if_neg (hs n _ hn p hp)]
            rfl
          · exact ⟨qs, e⟩
      · rename_i n1 n2 n3
        have k6 : x.kind = 6 := by rcases hk with e | e | e | e; exact absurd e n1; exact absurd e n2; exact absurd e n3; exact e
        rw [if_neg (by omega), if_neg (by omega), if_pos k6] at ha
        obtain ⟨_, rfl⟩ := ha
        obtain ⟨ss, e1, e2⟩ := h.syn
        refine ⟨h.base, h.chg, ⟨ss ++ [A.now + 1], by simp only [synA]; rw [e1, List.append_assoc], fun s hs' => ?_⟩, h.pcs, h.got, by simp only [synA]; omega⟩
        rcases List.mem_append.1 hs' with hs' | hs'
        · exact e2 s hs'
        · simp at hs'
          omega

theorem pick_in {v n : Int} (h : 0 ≤ v) (h2 : v ≤ n) : ((pickN v (n + 1).toNat : Nat) : Int) = v := by
  unfold pickN
  rw [if_neg (by omega), Int.toNat_of_nonneg (show 0 ≤ n + 1 by omega), Int.emod_eq_of_lt h (by omega)]
  exact Int.toNat_of_nonneg h

/-- What is durable is kept. -/
theorem safe_cut {A1 A A' : DiskA} {pre : List Int} {at_ nm torn : Int} {ks : List Bool} (h1 : A1.Inj) (hh : A1.Hist) (hs : AllSyn A1) (hsy : A1.syn = pre ++ [A1.now]) (hm : More A1 A) (h0 : 0 ≤ A1.now) (hat : A1.now ≤ at_) (hat2 : at_ ≤ A.now)
    (hc : CutA A (namesAtA A (pickN at_ (A.now + 1).toNat) nm) (pickN at_ (A.now + 1).toNat) ks torn A') (hfb : A'.files = A'.base) {n : ByteArray} {f : Nat} (hf : aget A1.files n = some f) :
    ∃ g r, aget A'.files n = some g ∧ bytesP (A'.fs g) = bytesP (A1.fs f) ++ r := by
  rw [pick_in (by omega) hat2] at hc
  obtain ⟨cs, e1, e2⟩ := hm.chg
  obtain ⟨ss, e3, e4⟩ := hm.syn
  have hsf : A1.now ≤ safeF A.syn at_ := by rw [e3, hsy]; exact safeF_ge pre ss hat e4
  have hna : aget (namesAtA A at_ nm) n = some f := by
    unfold namesAtA
    generalize pickN nm _ = op
    rw [e1, upto_app (fun c hc => by have := hh.at_ c hc; omega), hm.base, ← hh.fold]
    exact upto_keep (right_some (h1.rt n f hf)) h1.nd (fun c hc => ⟨(e2 c hc).1, (e2 c hc).2 n f hf⟩) hf
  obtain ⟨fb, h2, _, h3⟩ := hc.has n f (aget_mem hna)
  obtain ⟨qs, e5⟩ := hm.pcs n f hf
  have hfi := h1.ids n f hf
  obtain ⟨r, hr⟩ := left_pre (at_ := at_) (ks := ks) (torn := torn) (qs := qs) (fun p hp => ⟨Int.le_trans (hh.pcs f hfi p hp).1 hat, Int.le_trans (hh.pcs f hfi p hp).2 hat, hs n f hf p hp⟩)
  refine ⟨fb, r, by rw [hfb]; exact h2, ?_⟩
  rw [h3, e5, hr]
  simp [bytesP]

/-- Behind Syncs of all files and a SyncNames. -/
theorem Calm.allSyn {A0 A : DiskA} {names : List ByteArray} (h : Calm A0 A names names.length) (hall : ∀ n f, aget A0.files n = some f → n ∈ names) : AllSyn (synA A) := by
  intro n f hf
  have hf' : aget A.files n = some f := hf
  have hnm := hall n f (by rw [← h.files]; exact hf')
  obtain ⟨i, hi⟩ := List.getElem?_of_mem hnm
  exact h.syn i n f (List.getElem?_eq_some_iff.1 hi).1 hi hf'

end Go.Proofs.Ytmlaojfhmaamcaa
