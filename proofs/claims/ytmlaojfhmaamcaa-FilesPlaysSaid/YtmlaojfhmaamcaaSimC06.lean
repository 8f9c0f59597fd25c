/- What a loss of power leaves, in both texts alike. -/
import Derived.Test.YtmlaojfhmaamcaaSim06
import Derived.Test.YtmlaojfhmaamcaaRunH06
namespace Go.Proofs.Ytmlaojfhmaamcaa
open Go.RowKit Go.Deep
set_option linter.unusedSimpArgs false
set_option linter.unusedVariables false

/-- A step changes names. -/
def chgR (s : StepA) : Bool := decide (s.kind = 1 ∨ s.kind = 3 ∨ s.kind = 4)
/-- The document's names, from the last SyncNames on. -/
def thereStep (s : List Nm × Nat) (p : StepA) : List Nm × Nat := if chgR p = true ∧ 0 < s.2 then (namedR s.1 p, s.2 - 1) else s
theorem there_zero (m : List Nm) : ∀ L : List StepA, L.foldl thereStep (m, 0) = (m, 0)
  | [] => rfl
  | p :: L => by
    rw [List.foldl_cons, show thereStep (m, 0) p = (m, 0) from by unfold thereStep; rw [if_neg (by simp)]]
    exact there_zero m L
theorem namedR_no {l : List Nm} {s : StepA} (h : chgR s = false) : namedR l s = l := by
  simp only [chgR, decide_eq_false_iff_not, not_or] at h
  unfold namedR
  rw [if_neg (by omega), if_neg h.2.2]
/-- The events are told alike: a change of names is one in both. -/
def Paired (J : List (StepA × Option Chg)) : Prop := ∀ e ∈ J, chgR e.1 = e.2.isSome
theorem EvOk.paired {F : List Nat} {l : List Nm} {s : StepA} {oc : Option Chg} (h : EvOk F l s oc) : chgR s = oc.isSome := by
  rcases h with ⟨h1, b, a, rfl, _⟩ | ⟨h1, b, a, o, rfl, _⟩ | ⟨h1, a, rfl⟩ | ⟨h1, h3, h4, rfl⟩
  · simp [chgR, h1]
  · simp [chgR, h1]
  · simp [chgR, h1]
  · simp [chgR, h1, h3, h4]
theorem EvsOk.paired {F : List Nat} : ∀ {l : List Nm} {J : List (StepA × Option Chg)}, EvsOk F l J → Paired J
  | _, [], _, e, he => by cases he
  | _, _ :: _, h, e, he => by
    rcases List.mem_cons.1 he with rfl | he
    · exact h.2.1.paired
    · exact EvsOk.paired h.2.2 e he
/-- Times from some time on. -/
def TimedF (off : Nat) (J : List (StepA × Option Chg)) : Prop := ∀ (i : Nat) s c, J[i]? = some (s, some c) → c.at_ = (off : Int) + i + 1

theorem upto_events {safe : Int} {F : List Nat} : ∀ {J : List (StepA × Option Chg)} {off n op : Nat} {m : List (ByteArray × Nat)} {l : List Nm}, TimedF off J → Paired J → safe ≤ off →
    ∃ k, k ≤ n ∧ upto safe ((off : Int) + n) (J.filterMap (·.2)) op m = ((J.take k).filterMap (·.2)).foldl (fun m c => applyC c m) m ∧ (((J.take n).map (·.1)).foldl thereStep (l, op)).1 = ((J.take k).map (·.1)).foldl namedR l
  | [], off, n, op, m, l, _, _, _ => ⟨0, by omega, by simp [upto], by simp⟩
  | (s, oc) :: J, off, 0, op, m, l, ht, hp, hs => by
    refine ⟨0, by omega, ?_, by simp⟩
    -- all later events are too late
    have : ∀ (cs : List Chg), (∀ c ∈ cs, (off : Int) < c.at_) → upto safe ((off : Int) + (0 : Nat)) cs op m = m := by
      intro cs hcs
      cases cs with
      | nil => rfl
      | cons c cs =>
        have := hcs c List.mem_cons_self
        unfold upto
        rw [if_pos (by omega), if_pos (.inr (by omega))]
    rw [this _ (fun c hc => by
      obtain ⟨e, he, hec⟩ := List.mem_filterMap.1 hc
      obtain ⟨i, hi⟩ := List.getElem?_of_mem he
      obtain ⟨s', oc'⟩ := e
      dsimp only at hec
      subst hec
      have := ht i s' c hi
      omega)]
    simp
  | (s, none) :: J, off, n + 1, op, m, l, ht, hp, hs => by
    obtain ⟨k, hk, h1, h2⟩ := upto_events (F := F) (J := J) (off := off + 1) (n := n) (op := op) (m := m) (l := l) (fun i s c hi => by have := ht (i + 1) s c (by simpa using hi); rw [this]; push_cast; omega) (fun e he => hp e (List.mem_cons_of_mem _ he)) (show safe ≤ ((off + 1 : Nat) : Int) from Int.le_trans hs (by omega))
    have hc : chgR s = false := hp _ List.mem_cons_self
    refine ⟨k + 1, by omega, ?_, ?_⟩
    · rw [List.take_succ_cons, List.filterMap_cons_none rfl, List.filterMap_cons_none rfl, ← h1]
      congr 1
      push_cast
      omega
    · rw [List.take_succ_cons, List.take_succ_cons, List.map_cons, List.map_cons, List.foldl_cons, List.foldl_cons, namedR_no hc, ← h2]
      congr 2
      unfold thereStep
      rw [if_neg (by simp [hc])]
  | (s, some c) :: J, off, n + 1, 0, m, l, ht, hp, hs => by
    have hat := ht 0 s c rfl
    refine ⟨0, by omega, ?_, ?_⟩
    · rw [List.filterMap_cons_some (b := c) (show (fun x : StepA × Option Chg => x.2) (s, some c) = some c from rfl)]
      unfold upto
      rw [if_pos (by omega), if_pos (.inl rfl)]
      simp
    · rw [there_zero]
      simp
  | (s, some c) :: J, off, n + 1, op + 1, m, l, ht, hp, hs => by
    have hat := ht 0 s c rfl
    obtain ⟨k, hk, h1, h2⟩ := upto_events (F := F) (J := J) (off := off + 1) (n := n) (op := op) (m := applyC c m) (l := namedR l s) (fun i s c hi => by have := ht (i + 1) s c (by simpa using hi); rw [this]; push_cast; omega) (fun e he => hp e (List.mem_cons_of_mem _ he)) (show safe ≤ ((off + 1 : Nat) : Int) from Int.le_trans hs (by omega))
    have hc : chgR s = true := hp _ List.mem_cons_self
    refine ⟨k + 1, by omega, ?_, ?_⟩
    · rw [List.take_succ_cons, List.filterMap_cons_some (b := c) (show (fun x : StepA × Option Chg => x.2) (s, some c) = some c from rfl), List.filterMap_cons_some (b := c) (show (fun x : StepA × Option Chg => x.2) (s, some c) = some c from rfl), List.foldl_cons, ← h1]
      have e : ((off : Int) + ((n + 1 : Nat) : Int)) = (((off + 1 : Nat) : Int) + (n : Int)) := by push_cast; omega
      rw [e]
      conv => lhs; unfold upto
      rw [if_pos (by omega), if_neg (by omega), Nat.add_sub_cancel]
    · rw [List.take_succ_cons, List.take_succ_cons, List.map_cons, List.map_cons, List.foldl_cons, List.foldl_cons, ← h2]
      congr 2
      unfold thereStep
      rw [if_pos ⟨hc, by simp⟩]
      rfl

/-- The time of the last SyncNames. -/
def lastT (J : List (StepA × Option Chg)) : Nat := J.zipIdx.foldl (fun s x => if x.1.1.kind = 6 then x.2 + 1 else s) 0
theorem lastT_snoc (J : List (StepA × Option Chg)) (e : StepA × Option Chg) : lastT (J ++ [e]) = if e.1.kind = 6 then J.length + 1 else lastT J := by
  unfold lastT
  rw [List.zipIdx_append, List.foldl_append]
  simp
theorem lastT_le : ∀ J, lastT J ≤ J.length := by
  refine snoc_ind (by simp [lastT]) (fun J e ih => ?_)
  rw [lastT_snoc, List.length_append]
  split <;> simp <;> omega
theorem lastT_at : ∀ J, lastT J ≠ 0 → ∃ e, J[lastT J - 1]? = some e ∧ e.1.kind = 6 := by
  refine snoc_ind (by simp [lastT]) (fun J e ih h => ?_)
  rw [lastT_snoc] at h ⊢
  split at h
  · rename_i hk
    rw [if_pos hk]
    exact ⟨e, by simp, hk⟩
  · rename_i hk
    rw [if_neg hk]
    obtain ⟨x, h1, h2⟩ := ih h
    have := (List.getElem?_eq_some_iff.1 h1).1
    exact ⟨x, by rw [List.getElem?_append_left this]; exact h1, h2⟩
theorem safeF_syn (a : Nat) : ∀ J, safeF (synJ J) a = lastT (J.take a) := by
  refine snoc_ind (by simp [safeF, synJ, lastT]) (fun J e ih => ?_)
  rw [synJ_snoc]
  unfold safeF at ih ⊢
  rw [List.foldl_append, ih]
  by_cases hl : J.length < a
  · rw [List.take_of_length_le (l := J) (by omega), List.take_of_length_le (by rw [List.length_append]; simp; omega), lastT_snoc]
    by_cases h6 : e.1.kind = 6
    · rw [if_pos h6, if_pos h6]
      simp
      omega
    · rw [if_neg h6, if_neg h6]
      rfl
  · rw [List.take_append_of_le_length (by omega)]
    split
    · simp
      omega
    · rfl

/-- The document's place of the last SyncNames: from where names are open. -/
def safeNR (bse : Nat) (L : List StepA) : Nat := L.zipIdx.foldl (fun s x => if bse ≤ x.2 ∧ x.1.kind = 6 then x.2 else s) bse
theorem safeNR_snoc (bse : Nat) (L : List StepA) (s : StepA) : safeNR bse (L ++ [s]) = if bse ≤ L.length ∧ s.kind = 6 then L.length else safeNR bse L := by
  unfold safeNR
  rw [List.zipIdx_append, List.foldl_append]
  simp
theorem safeNR_pre (bse : Nat) : ∀ L : List StepA, L.length ≤ bse → safeNR bse L = bse := by
  refine snoc_ind (fun _ => rfl) (fun L s ih h => ?_)
  rw [List.length_append] at h
  simp at h
  rw [safeNR_snoc, if_neg (by omega), ih (by omega)]
theorem safeNR_last (pre : List StepA) : ∀ J : List (StepA × Option Chg), safeNR pre.length (pre ++ J.map (·.1)) = if lastT J = 0 then pre.length else pre.length + lastT J - 1 := by
  refine snoc_ind ?_ (fun J e ih => ?_)
  · simp only [List.map_nil, List.append_nil]
    rw [safeNR_pre _ _ (Nat.le_refl _)]
    simp [lastT]
  · rw [List.map_append, ← List.append_assoc, List.map_cons, List.map_nil, safeNR_snoc, lastT_snoc, ih]
    simp only [List.length_append, List.length_map]
    by_cases h6 : e.1.kind = 6
    · rw [if_pos ⟨by omega, h6⟩, if_pos h6, if_neg (by omega)]
      omega
    · rw [if_neg (fun e => h6 e.2), if_neg h6]

/-- The document's names behind a loss of power. -/
def openR (L : List StepA) (safe : Nat) : Nat := ((L.drop safe).filter chgR).length
def thereR (L : List StepA) (safe n : Nat) : List Nm := ((L.drop safe).foldl thereStep ((L.take safe).foldl namedR [], n)).1

theorem filter_paired {J : List (StepA × Option Chg)} (h : Paired J) : ((J.map (·.1)).filter chgR).length = (J.filterMap (·.2)).length := by
  induction J with
  | nil => rfl
  | cons e J ih =>
    have h1 := h e List.mem_cons_self
    have ih := ih (fun x hx => h x (List.mem_cons_of_mem _ hx))
    rw [List.map_cons]
    cases h2 : e.2 with
    | none =>
      rw [h2] at h1
      rw [List.filter_cons_of_neg (by simpa using h1), List.filterMap_cons_none h2]
      exact ih
    | some c =>
      rw [h2] at h1
      rw [List.filter_cons_of_pos (by simpa using h1), List.filterMap_cons_some h2, List.length_cons, List.length_cons, ih]
theorem openF_append (a b : List Chg) (safe at_ : Int) : openF (a ++ b) safe at_ = openF a safe at_ + openF b safe at_ := by simp [openF]
theorem openF_zero {cs : List Chg} {safe at_ : Int} (h : ∀ c ∈ cs, ¬ (safe < c.at_ ∧ c.at_ ≤ at_)) : openF cs safe at_ = 0 := by
  unfold openF
  rw [List.length_eq_zero_iff, List.filter_eq_nil_iff]
  intro c hc
  have := h c hc
  simp only [Bool.and_eq_true, decide_eq_true_eq]
  exact this
theorem openF_all {cs : List Chg} {safe at_ : Int} (h : ∀ c ∈ cs, safe < c.at_ ∧ c.at_ ≤ at_) : openF cs safe at_ = cs.length := by
  unfold openF
  rw [List.filter_eq_self.2 (fun c hc => by have := h c hc; simp [this.1, this.2])]
theorem timed_mem {J : List (StepA × Option Chg)} {off : Nat} (h : TimedF off J) {c : Chg} (hc : c ∈ J.filterMap (·.2)) : (off : Int) < c.at_ ∧ c.at_ ≤ (off : Int) + J.length := by
  obtain ⟨e, he, hec⟩ := List.mem_filterMap.1 hc
  obtain ⟨i, hi⟩ := List.getElem?_of_mem he
  have hil := (List.getElem?_eq_some_iff.1 hi).1
  obtain ⟨s', oc'⟩ := e
  dsimp only at hec
  subst hec
  have := h i s' c hi
  omega
theorem Timed.dropF {J : List (StepA × Option Chg)} (h : Timed J) (s : Nat) : TimedF s (J.drop s) := by
  intro i x c hi
  rw [List.getElem?_drop] at hi
  have := h (s + i) x c hi
  rw [this]; push_cast; omega
theorem TimedF.take {J : List (StepA × Option Chg)} {off : Nat} (h : TimedF off J) (s : Nat) : TimedF off (J.take s) := by
  intro i x c hi
  rw [List.getElem?_take] at hi
  split at hi
  · exact h i x c hi
  · cases hi

section
variable {F : List Nat} {A A' : DiskA} {R : RefA} {pre : List StepA} {J : List (StepA × Option Chg)}
/-- Which names are left: in both the first events, up to one of them. -/
theorem Sim.cutNames (h : Sim F A R pre J) (a : Nat) (ha : a ≤ J.length) (names : Int) :
    ∃ k, k ≤ J.length ∧ namesAtA A a names = ((J.take k).filterMap (·.2)).foldl (fun m c => applyC c m) A.base ∧
      thereR (R.L.take (pre.length + a)) (safeNR pre.length (R.L.take (pre.length + a))) (pickN names (openR (R.L.take (pre.length + a)) (safeNR pre.length (R.L.take (pre.length + a))) + 1)) = nowR (pre ++ (J.take k).map (·.1)) := by
  have hl : R.L.take (pre.length + a) = pre ++ (J.take a).map (·.1) := by
    rw [h.L, List.take_append, List.take_of_length_le (by omega), List.map_take]
    congr 2
    omega
  rw [hl, safeNR_last]
  have hpair := h.evs.paired
  have hsafe : safeF A.syn a = lastT (J.take a) := by rw [h.syn]; exact safeF_syn a J
  obtain ⟨s, hs⟩ : ∃ s, lastT (J.take a) = s := ⟨_, rfl⟩
  have hsa : s ≤ a := by
    have := lastT_le (J.take a)
    rw [List.length_take] at this
    omega
  have hat := lastT_at (J.take a)
  rw [hs] at hat hsafe ⊢
  -- the events behind the last SyncNames
  obtain ⟨n, hn⟩ : ∃ n, a = s + n := ⟨a - s, by omega⟩
  have hJ1 : (J.take s).length = s := by rw [List.length_take]; omega
  have htd := h.timed.dropF s
  have htd0 : TimedF 0 J := fun i x c hi => by rw [h.timed i x c hi]; push_cast; omega
  have hpd : Paired (J.drop s) := fun e he => hpair e (List.mem_of_mem_drop he)
  have hta : J.take a = J.take s ++ (J.drop s).take n := by rw [hn, List.take_add]
  -- what is open
  have hopen : openF A.chg (safeF A.syn a) a = (((J.drop s).take n).filterMap (·.2)).length := by
    rw [h.chg, hsafe]
    conv => lhs; rw [← List.take_append_drop s J, ← List.take_append_drop n (J.drop s)]
    rw [List.filterMap_append, List.filterMap_append, openF_append, openF_append]
    rw [openF_zero (cs := (J.take s).filterMap _) (fun c hc => by have := timed_mem (htd0.take s) hc; rw [hJ1] at this; omega)]
    rw [openF_all (cs := ((J.drop s).take n).filterMap _) (fun c hc => by have := timed_mem (htd.take n) hc; rw [List.length_take] at this; omega)]
    rw [openF_zero (cs := ((J.drop s).drop n).filterMap _) (fun c hc => by
      rw [List.drop_drop] at hc
      have := timed_mem (h.timed.dropF (s + n)) hc
      omega)]
    omega
  -- the document's: where it is open
  have hdoc : ∃ sp, (if s = 0 then pre.length else pre.length + s - 1) = sp ∧ ∃ x : List StepA, (∀ y ∈ x, chgR y = false) ∧ (pre ++ (J.take a).map (·.1)).drop sp = x ++ ((J.drop s).take n).map (·.1) ∧ (pre ++ (J.take a).map (·.1)).take sp ++ x = pre ++ (J.take s).map (·.1) := by
    refine ⟨_, rfl, ?_⟩
    by_cases h0 : s = 0
    · subst h0
      rw [if_pos rfl]
      refine ⟨[], fun y hy => (by cases hy), ?_, ?_⟩
      · rw [List.drop_left, hta]; simp
      · rw [List.take_left]; simp
    · rw [if_neg h0]
      obtain ⟨e, he, hk⟩ := hat h0
      obtain ⟨t, rfl⟩ : ∃ t, s = t + 1 := ⟨s - 1, by omega⟩
      rw [Nat.add_sub_cancel] at he
      have heJ : J[t]? = some e := by
        rw [List.getElem?_take] at he
        split at he
        · exact he
        · cases he
      have htk : J.take (t + 1) = J.take t ++ [e] := by rw [List.take_add_one, heJ, Option.toList_some]
      have htl : (J.take t).length = t := by rw [List.length_take]; omega
      have e1 : pre.length + (t + 1) - 1 = (pre ++ (J.take t).map (·.1)).length := by rw [List.length_append, List.length_map, htl]; omega
      refine ⟨[e.1], fun y hy => ?_, ?_, ?_⟩
      · simp at hy; subst hy; simp [chgR, hk]
      · rw [hta, htk, e1]
        simp only [List.map_append, List.append_assoc]
        rw [← List.append_assoc pre, List.drop_left]
        rfl
      · rw [hta, htk, e1]
        simp only [List.map_append, List.append_assoc]
        rw [← List.append_assoc pre, List.take_left]
        simp
  obtain ⟨sp, hsp, x, hx, hdrop, htake⟩ := hdoc
  rw [hsp]
  have hopenR : openR (pre ++ (J.take a).map (·.1)) sp = (((J.drop s).take n).filterMap (·.2)).length := by
    unfold openR
    rw [hdrop, List.filter_append, List.filter_eq_nil_iff.2 (fun y hy => by simp [hx y hy]), List.nil_append]
    exact filter_paired (fun e he => hpd e (List.mem_of_mem_take he))
  have hidn : ∀ (x : List StepA) (m : List Nm) (q : Nat), (∀ y ∈ x, chgR y = false) → x.foldl thereStep (m, q) = (m, q) ∧ x.foldl namedR m = m := by
    intro x
    induction x with
    | nil => intro m q _; exact ⟨rfl, rfl⟩
    | cons y x ih =>
      intro m q hx
      have hy := hx y List.mem_cons_self
      rw [List.foldl_cons, List.foldl_cons, namedR_no hy, show thereStep (m, q) y = (m, q) from by unfold thereStep; rw [if_neg (by simp [hy])]]
      exact ih m q (fun z hz => hx z (List.mem_cons_of_mem _ hz))
  rw [hopenR]
  unfold thereR namesAtA
  rw [hopen, hdrop, List.foldl_append, (hidn x _ _ hx).1]
  have hm : ((pre ++ (J.take a).map (·.1)).take sp).foldl namedR [] = nowR (pre ++ (J.take s).map (·.1)) := by
    unfold nowR
    rw [← htake, List.foldl_append, (hidn x _ 0 hx).2]
  rw [hm, hsafe, h.chg]
  have hsplit : J.filterMap (·.2) = (J.take s).filterMap (·.2) ++ (J.drop s).filterMap (·.2) := by rw [← List.filterMap_append, List.take_append_drop]
  rw [hsplit]
  have hua : ∀ (cs ds : List Chg) (op : Nat) (m : List (ByteArray × Nat)), (∀ c ∈ cs, ¬ (s : Int) < c.at_) → upto s a (cs ++ ds) op m = upto s a ds op (cs.foldl (fun m c => applyC c m) m) := by
    intro cs
    induction cs with
    | nil => intro ds op m _; rfl
    | cons c cs ih =>
      intro ds op m hc
      rw [List.cons_append]
      conv => lhs; unfold upto
      rw [if_neg (hc c List.mem_cons_self), ih _ _ _ (fun d hd => hc d (List.mem_cons_of_mem _ hd))]
      rfl
  obtain ⟨k, hk, h1, h2⟩ := upto_events (safe := s) (F := F) (J := J.drop s) (off := s) (n := n) (op := pickN names ((((J.drop s).take n).filterMap (·.2)).length + 1)) (m := ((J.take s).filterMap (·.2)).foldl (fun m c => applyC c m) A.base) (l := nowR (pre ++ (J.take s).map (·.1))) htd hpd (Int.le_refl _)
  refine ⟨s + min k (J.drop s).length, by rw [List.length_drop]; omega, ?_, ?_⟩
  · rw [hua _ _ _ _ (fun c hc => by have := timed_mem (htd0.take s) hc; rw [hJ1] at this; omega)]
    rw [show ((a : Nat) : Int) = (s : Int) + (n : Int) from by omega, h1, List.take_add, List.filterMap_append, List.foldl_append]
    congr 2
    rw [List.take_eq_take_iff]
    omega
  · rw [h2, List.take_add]
    unfold nowR
    rw [List.map_append, ← List.append_assoc, List.foldl_append (l := pre ++ _)]
    congr 2
    rw [List.take_eq_take_iff]
    omega
theorem EvsOk.take {F : List Nat} : ∀ {l : List Nm} {J : List (StepA × Option Chg)} (k : Nat), EvsOk F l J → EvsOk F l (J.take k)
  | _, [], k, h => by simpa using h
  | _, _ :: _, 0, h => h.1
  | _, _ :: J, k + 1, h => ⟨h.1, h.2.1, EvsOk.take k h.2.2⟩

/-- The document's disk behind a loss of power. -/
def freshL (l : List StepA) (ks : List Bool) (torn : Int) (there : List Nm) : List StepA := there.zipIdx.flatMap fun x => [⟨1, x.2, x.1.name, []⟩, ⟨2, x.2, ⟨#[]⟩, leftR l x.1.file ks torn⟩, ⟨5, x.2, ⟨#[]⟩, []⟩]
def cutAt (L : List StepA) (nb m : Nat) (names : Int) (ks : List Bool) (torn : Int) : RefA :=
  let l := L.take m
  let safe := safeNR nb l
  let there := thereR l safe (pickN names (openR l safe + 1))
  ⟨freshL l ks torn there ++ [⟨6, 0, ⟨#[]⟩, []⟩], there.length, 3 * there.length + 1⟩
def cutR (R : RefA) (at_ names : Int) (ks : List Bool) (torn : Int) : RefA :=
  let m := (R.bse + pickN at_ ((R.L.length : Int) - R.bse + 1).toNat).toNat
  let l := R.L.take m
  let safe := safeNR R.bse.toNat l
  let there := thereR l safe (pickN names (openR l safe + 1))
  ⟨freshL l ks torn there ++ [⟨6, 0, ⟨#[]⟩, []⟩], there.length, 3 * there.length + 1⟩
end

end Go.Proofs.Ytmlaojfhmaamcaa
