/- What a script keeps besides: the history of names, and when bytes came; power at rest. -/
import Derived.Test.YtmlaojfhmaamcaaCut06
namespace Go.Proofs.Ytmlaojfhmaamcaa
open Go.RowKit Go.Deep
set_option linter.unusedSimpArgs false
set_option linter.unusedVariables false

/-- Names are what the changes made of the first; nothing came later than now. -/
structure DiskA.Hist (A : DiskA) : Prop where
  fold : A.files = A.chg.foldl (fun l c => applyC c l) A.base
  at_ : ∀ c ∈ A.chg, c.at_ ≤ A.now
  syn : ∀ n ∈ A.syn, n ≤ A.now
  pcs : ∀ f ∈ A.ids, ∀ p ∈ A.fs f, p.came ≤ A.now ∧ p.safe ≤ A.now
theorem hist0 : disk0.Hist := ⟨rfl, fun c hc => (by cases hc), fun c hc => (by cases hc), fun c hc => (by cases hc)⟩
theorem DiskA.Hist.step {A : DiskA} (h : A.Hist) (c : Chg) : (stepA c A).Hist := by
  refine ⟨?_, fun d hd => ?_, fun n hn => ?_, fun f hf p hp => ?_⟩
  · simp only [stepA]
    rw [List.foldl_append, ← h.fold]
    rfl
  · simp only [stepA] at hd ⊢
    rcases List.mem_append.1 hd with hd | hd
    · have := h.at_ d hd; omega
    · simp at hd; subst hd; simp
  · have := h.syn n hn; simp only [stepA]; omega
  · have := h.pcs f hf p hp; simp only [stepA]; omega
theorem synP_le {n m : Int} {p : PcA} (h : p.came ≤ n ∧ p.safe ≤ n) (hm : n ≤ m) : (synP m p).came ≤ m ∧ (synP m p).safe ≤ m := by
  unfold synP
  split
  · exact ⟨by dsimp only; omega, by dsimp only; omega⟩
  · exact ⟨by omega, by omega⟩
theorem DiskA.Hist.sync {A : DiskA} (h : A.Hist) (f : Nat) : (syncA f A).Hist := by
  refine ⟨h.fold, fun d hd => ?_, fun n hn => ?_, fun g hg p hp => ?_⟩
  · have := h.at_ d hd; simp only [syncA]; omega
  · have := h.syn n hn; simp only [syncA]; omega
  · simp only [syncA] at hp ⊢
    split at hp
    · rename_i e
      obtain ⟨q, hq, rfl⟩ := List.mem_map.1 hp
      rw [← e] at hq
      exact synP_le (h.pcs g hg q hq) (by omega)
    · have := h.pcs g hg p hp; omega
theorem DiskA.Hist.syns {A : DiskA} (h : A.Hist) : (synA A).Hist := by
  refine ⟨h.fold, fun d hd => ?_, fun n hn => ?_, fun g hg p hp => ?_⟩
  · have := h.at_ d hd; simp only [synA]; omega
  · simp only [synA] at hn ⊢
    rcases List.mem_append.1 hn with hn | hn
    · have := h.syn n hn; omega
    · simp at hn; omega
  · have := h.pcs g hg p hp; simp only [synA]; omega
theorem DiskA.Hist.app {A : DiskA} (h : A.Hist) (h0 : 0 ≤ A.now) (f : Nat) (bs : List UInt8) : (appA f bs A).Hist := by
  refine ⟨h.fold, fun d hd => ?_, fun n hn => ?_, fun g hg p hp => ?_⟩
  · have := h.at_ d hd; simp only [appA]; omega
  · have := h.syn n hn; simp only [appA]; omega
  · simp only [appA] at hp ⊢
    split at hp
    · rename_i e
      rcases List.mem_append.1 hp with hp | hp
      · rw [← e] at hp; have := h.pcs g hg p hp; omega
      · simp at hp; subst hp; exact ⟨by simp, by simp; omega⟩
    · have := h.pcs g hg p hp; omega
theorem DiskA.Hist.born {A : DiskA} (h : A.Hist) (fb : Nat) : (bornA fb A).Hist := by
  refine ⟨h.fold, h.at_, h.syn, fun g hg p hp => ?_⟩
  simp only [bornA] at hp hg ⊢
  split at hp
  · cases hp
  · rename_i e
    exact h.pcs g ((List.mem_cons.1 hg).resolve_left e) p hp
theorem ActA.hist {x : OpA} {A A' : DiskA} {c : Int} (h : ActA x A c A') (h0 : 0 ≤ A.now) (hi : A.Hist) : A'.Hist := by
  unfold ActA at h
  split at h
  · rcases h with ⟨_, ⟨_, rfl⟩ | ⟨_, fb, hfb, rfl⟩⟩
    · exact hi
    · exact (hi.born fb).step _
  · split at h
    · rcases h with ⟨_, _, rfl⟩ | ⟨f, _, _, _, rfl⟩ | ⟨f, _, _, _, rfl⟩
      · exact hi
      · exact hi
      · exact hi.app h0 _ _
    · split at h
      · rcases h with ⟨_, _, rfl⟩ | ⟨f, _, _, rfl⟩
        · exact hi
        · exact hi.sync _
      · split at h
        · rcases h with ⟨_, _, rfl⟩ | ⟨_, _, _, rfl⟩ | ⟨f, _, hf, _, rfl⟩
          · exact hi
          · exact hi
          · exact hi.step _
        · split at h
          · rcases h with ⟨_, _, rfl⟩ | ⟨f, hf, _, rfl⟩
            · exact hi
            · exact hi.step _
          · split at h
            · rcases h with ⟨_, rfl⟩
              exact hi.syns
            · rcases h with ⟨_, rfl⟩
              exact hi

theorem upto_all {safe at_ : Int} : ∀ {cs : List Chg} {op : Nat} {m : List (ByteArray × Nat)}, (∀ c ∈ cs, ¬ safe < c.at_) → upto safe at_ cs op m = cs.foldl (fun l c => applyC c l) m
  | [], _, _, _ => rfl
  | c :: cs, op, m, h => by
    unfold upto
    rw [if_neg (h c List.mem_cons_self)]
    exact upto_all (fun d hd => h d (List.mem_cons_of_mem _ hd))
theorem safeF_last (syn : List Int) {n at_ : Int} (h : n ≤ at_) : safeF (syn ++ [n]) at_ = n := by
  unfold safeF
  rw [List.foldl_append]
  simp [h]
/-- All is durable. -/
theorem left_all {at_ : Int} {ks : List Bool} {torn : Int} {ps : List PcA} (h : ∀ p ∈ ps, p.came ≤ at_ ∧ p.safe ≤ at_ ∧ p.safe ≠ 0) : leftA at_ ks torn ps = bytesP ps := by
  have key : ∀ (ps : List PcA) (o : List UInt8) (n : Nat), (∀ p ∈ ps, p.came ≤ at_ ∧ p.safe ≤ at_ ∧ p.safe ≠ 0) → ps.foldl (leftStep at_ ks torn) ⟨o, o.length, n⟩ = ⟨o ++ bytesP ps, (o ++ bytesP ps).length, n⟩ := by
    intro ps
    induction ps with
    | nil => intro o n _; simp [bytesP]
    | cons p ps ih =>
      intro o n h
      obtain ⟨h1, h2, h3⟩ := h p List.mem_cons_self
      have e : leftStep at_ ks torn ⟨o, o.length, n⟩ p = ⟨o ++ p.bs, (o ++ p.bs).length, n⟩ := by
        unfold leftStep
        rw [if_neg (by omega), if_pos ⟨h3, h2⟩]
      rw [List.foldl_cons, e, ih _ _ (fun q hq => h q (List.mem_cons_of_mem _ hq))]
      simp [bytesP, List.flatMap_cons]
  unfold leftA leftS
  rw [show (⟨[], 0, 0⟩ : LeftS) = ⟨[], ([] : List UInt8).length, 0⟩ from rfl, key ps [] 0 h]
  simp
theorem pick_self {n : Int} (h : 0 ≤ n) : pickN n (n + 1).toNat = n.toNat := by
  unfold pickN
  rw [if_neg (by omega), Int.toNat_of_nonneg (by omega), Int.emod_eq_of_lt h (by omega)]
theorem sortN_perm {l l' : List ByteArray} (h : l.Perm l') : sortN l = sortN l' := by
  unfold sortN
  rw [merge_eq (h.map _)]

/-- All files are being made durable: k of the names. -/
structure Calm (A0 A : DiskA) (names : List ByteArray) (k : Nat) : Prop where
  files : A.files = A0.files
  small : A.Small (60 + k)
  inj : A.Inj
  hist : A.Hist
  syn : ∀ i n f, i < k → names[i]? = some n → aget A.files n = some f → ∀ p ∈ A.fs f, p.safe ≠ 0
theorem Calm.step {A0 A : DiskA} {names : List ByteArray} {k : Nat} (h : Calm A0 A names k) {n : ByteArray} {f : Nat} (hn : names[k]? = some n) (hf : aget A.files n = some f) : Calm A0 (syncA f A) names (k + 1) := by
  have h0 := h.small.now0
  refine ⟨h.files, ?_, ⟨h.inj.nd, h.inj.ids, h.inj.one, h.inj.rt⟩, h.hist.sync f, fun i m g hi hm hg p hp => ?_⟩
  · have hs := h.small
    refine ⟨by simp only [syncA]; omega, by have := hs.now; simp only [syncA]; omega, by have := hs.chg; simp only [syncA]; omega, by have := hs.syn; simp only [syncA]; omega, fun g hg => ?_, by have := hs.fil; simp only [syncA]; omega⟩
    simp only [syncA]
    split
    · rename_i e; subst e; rw [List.length_map]; have := hs.pcs g hg; omega
    · have := hs.pcs g hg; omega
  · have key : ∀ q : PcA, (synP (A.now + 1) q).safe ≠ 0 := fun q => by
      unfold synP
      split
      · dsimp only; omega
      · rename_i e; exact e
    simp only [syncA] at hp
    split at hp
    · obtain ⟨q, _, rfl⟩ := List.mem_map.1 hp
      exact key q
    · rename_i e
      by_cases hik : i < k
      · exact h.syn i m g hik hm hg p hp
      · obtain rfl : i = k := by omega
        rw [hn] at hm
        cases hm
        have : aget A.files n = some g := hg
        rw [hf] at this
        cases this
        exact absurd rfl e

/-- What the disk behind a loss of power at rest tells. -/
theorem calm_cut {A0 A A' : DiskA} {names : List ByteArray} {nm torn : Int} {ks : List Bool} (h : Calm A0 A names names.length) (hall : ∀ n f, aget A.files n = some f → n ∈ names)
    (hc : CutA (synA A) (namesAtA (synA A) (pickN (synA A).now ((synA A).now + 1).toNat) nm) (pickN (synA A).now ((synA A).now + 1).toNat) ks torn A') (hfb : A'.files = A'.base) (hnd : (A'.base.map (·.1)).Nodup) :
    namesA A' = namesA A ∧ (∀ n f, aget A.files n = some f → bytesA A' n = bytesP (A.fs f) ∧ pendA A' n = 0 ∧ pendA (synA A) n = 0 ∧ ∃ g, aget A'.files n = some g) := by
  have h0 := h.small.now0
  have hn0 : 0 ≤ (synA A).now := by simp only [synA]; omega
  have hp := pick_self hn0
  rw [hp] at hc
  have hti : (((synA A).now.toNat : Nat) : Int) = (synA A).now := Int.toNat_of_nonneg hn0
  rw [hti] at hc
  have hh := h.hist.syns
  have hsf : safeF (synA A).syn (synA A).now = (synA A).now := safeF_last A.syn (Int.le_refl _)
  have hna : namesAtA (synA A) (synA A).now nm = (synA A).files := by
    unfold namesAtA
    rw [hsf, upto_all (fun c hc => by have := hh.at_ c hc; omega)]
    exact hh.fold.symm
  rw [hna] at hc
  refine ⟨?_, fun n f hf => ?_⟩
  · unfold namesA
    rw [hfb]
    exact sortN_perm hc.perm
  · obtain ⟨fb, h1, h2, h3⟩ := hc.has n f (aget_mem hf)
    have hnm := hall n f hf
    obtain ⟨i, hi⟩ := List.getElem?_of_mem hnm
    have hil := (List.getElem?_eq_some_iff.1 hi).1
    have hsn := h.syn i n f hil hi hf
    have hfi := h.inj.ids n f hf
    have hla : leftA (synA A).now ks torn ((synA A).fs f) = bytesP (A.fs f) := left_all (fun p hp => ⟨(hh.pcs f hfi p hp).1, (hh.pcs f hfi p hp).2, hsn p hp⟩)
    have h4 : aget A'.files n = some fb := by rw [hfb]; exact h1
    refine ⟨?_, ?_, ?_, fb, h4⟩
    · unfold bytesA
      rw [h4]
      show bytesP (A'.fs fb) = _
      rw [h3, hla]
      simp [bytesP]
    · unfold pendA
      rw [h4]
      show pendP (A'.fs fb) = 0
      rw [h3]
      simp [pendP]
    · unfold pendA
      rw [show aget (synA A).files n = some f from hf]
      show pendP (A.fs f) = 0
      unfold pendP
      rw [List.length_eq_zero_iff, List.filter_eq_nil_iff]
      intro p hp
      rw [decide_eq_true_iff]
      exact hsn p hp

end Go.Proofs.Ytmlaojfhmaamcaa
