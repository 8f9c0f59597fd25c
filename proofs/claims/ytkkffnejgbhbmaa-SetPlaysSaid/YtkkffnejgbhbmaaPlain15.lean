/- Plain laws on registers: what a list of writes leaves. -/
import Derived.Test.YtkkffnejgbhbmaaRegsAll
import Derived.Test.YtkkffnejgbhbmaaOpen15
namespace Go.Proofs.Ytkkffnejgbhbmaa
open Go.RowKit
set_option linter.unusedSimpArgs false
set_option linter.unusedVariables false

theorem cmpS_lt (a b : St) : cmpS a b < 0 ↔ a.n < b.n ∨ (a.n = b.n ∧ a.r < b.r) := by
  unfold cmpS cmpI
  by_cases h1 : a.n < b.n
  · simp [h1]
  · by_cases h2 : b.n < a.n
    · simp [h1, h2]; omega
    · have : a.n = b.n := by omega
      by_cases h3 : a.r < b.r
      · simp [h1, h2, h3, this]
      · by_cases h4 : b.r < a.r <;> simp [h1, h2, h3, h4, this]

/-- a stands ahead of b. -/
def stLt (a b : St) : Prop := a.n < b.n ∨ (a.n = b.n ∧ a.r < b.r)
theorem stLt_irrefl (a : St) : ¬ stLt a a := by unfold stLt; omega
theorem stLt_trans {a b c : St} (h : stLt a b) (k : stLt b c) : stLt a c := by unfold stLt at *; omega
theorem stLt_total (a b : St) : stLt a b ∨ a = b ∨ stLt b a := by
  unfold stLt
  by_cases h : a = b
  · exact .inr (.inl h)
  · have : ¬ (a.n = b.n ∧ a.r = b.r) := fun e => h (by cases a; cases b; simp_all)
    omega
theorem right_pos {a : St} (h : rightB a = true) : stLt ⟨0, 0⟩ a := by
  simp only [rightB, decide_eq_true_eq] at h
  exact .inl (by show (0 : Int) < a.n; omega)

/-- The write's place. -/
def Write.pl (x : Write) : Pl := ⟨x.blk, x.name⟩

/-- What one call of Set leaves. -/
def setStep (s : List (Pl × Wr) × List (St × Bool)) (x : Write) : List (Pl × Wr) × List (St × Bool) := (setVals s.1 s.2 x.at_ x.pl x.value, setAts s.2 x.at_)
/-- What some writes leave. -/
def setAll (ws : List Write) : List (Pl × Wr) × List (St × Bool) := ws.foldl setStep ([], [])

theorem setAll_nil : setAll [] = ([], []) := rfl
theorem setAll_snoc (ws : List Write) (x : Write) : setAll (ws ++ [x]) = setStep (setAll ws) x := by simp [setAll]

/-- The last write of a place, among those that may be. -/
def Best (ws : List Write) (p : Pl) (x : Wr) : Prop :=
  ∃ y ∈ ws, rightB y.at_ = true ∧ y.pl = p ∧ x = ⟨y.at_, y.value⟩ ∧ ∀ z ∈ ws, rightB z.at_ = true → z.pl = p → ¬ stLt y.at_ z.at_

/-- No two writes of one stamp that are not one. -/
def Fun1 (ws : List Write) : Prop := ∀ y ∈ ws, ∀ z ∈ ws, y.at_ = z.at_ → y = z

theorem Best.unique {ws : List Write} (hf : Fun1 ws) {p : Pl} {x x' : Wr} (h : Best ws p x) (h' : Best ws p x') : x = x' := by
  obtain ⟨y, hy, ry, py, rfl, my⟩ := h
  obtain ⟨z, hz, rz, pz, rfl, mz⟩ := h'
  have := stLt_total y.at_ z.at_
  rcases this with t | t | t
  · exact absurd t (my z hz rz pz)
  · rw [hf y hy z hz t]
  · exact absurd t (mz y hy ry py)
theorem Best.mem {ws ws' : List Write} (hm : ∀ x, x ∈ ws ↔ x ∈ ws') {p : Pl} {x : Wr} (h : Best ws p x) : Best ws' p x := by
  obtain ⟨y, hy, ry, py, e, my⟩ := h
  exact ⟨y, (hm y).1 hy, ry, py, e, fun z hz => my z ((hm z).2 hz)⟩

theorem exists_best (ws : List Write) (p : Pl) : ∀ z ∈ ws, rightB z.at_ = true → z.pl = p → ∃ x, Best ws p x := by
  induction ws with
  | nil => intro z hz; cases hz
  | cons y ws ihw =>
    intro z hz rz pz
    by_cases hex : ∃ x, Best ws p x
    · obtain ⟨x, u, hu, ru, pu, ex, mu⟩ := hex
      by_cases hy : rightB y.at_ = true ∧ y.pl = p ∧ stLt u.at_ y.at_
      · refine ⟨_, y, by simp, hy.1, hy.2.1, rfl, fun v hv rv pv hlt => ?_⟩
        rcases List.mem_cons.1 hv with rfl | hv
        · exact stLt_irrefl _ hlt
        · exact mu v hv rv pv (stLt_trans hy.2.2 hlt)
      · refine ⟨_, u, by simp [hu], ru, pu, rfl, fun v hv rv pv hlt => ?_⟩
        rcases List.mem_cons.1 hv with rfl | hv
        · exact hy ⟨rv, pv, hlt⟩
        · exact mu v hv rv pv hlt
    · rcases List.mem_cons.1 hz with rfl | hz
      · refine ⟨_, z, by simp, rz, pz, rfl, fun v hv rv pv hlt => ?_⟩
        rcases List.mem_cons.1 hv with rfl | hv
        · exact stLt_irrefl _ hlt
        · exact hex (ihw v hv rv pv)
      · exact absurd (ihw z hz rz pz) hex

structure SetInv (ws : List Write) (s : List (Pl × Wr) × List (St × Bool)) : Prop where
  ats : ∀ a, (aget s.2 a).getD false = true ↔ ∃ y ∈ ws, rightB y.at_ = true ∧ y.at_ = a
  vals : ∀ p x, aget s.1 p = some x ↔ Best ws p x

theorem snocInd {α : Type} {p : List α → Prop} (h0 : p []) (h1 : ∀ l x, p l → p (l ++ [x])) : ∀ l, p l := fun l => by
  have h2 : ∀ r : List α, p r.reverse := fun r => by
    induction r with
    | nil => exact h0
    | cons x r ih => rw [List.reverse_cons]; exact h1 _ _ ih
  have := h2 l.reverse
  rwa [List.reverse_reverse] at this

theorem setInv (ws : List Write) : Fun1 ws → SetInv ws (setAll ws) := by
  refine snocInd (p := fun ws => Fun1 ws → SetInv ws (setAll ws)) ?_ ?_ ws
  · intro _
    refine ⟨fun a => ?_, fun p x => ?_⟩
    · simp [setAll_nil, aget]
    · simp [setAll_nil, aget, Best]
  · intro ws w ih hf
    have hf' : Fun1 ws := fun y hy z hz => hf y (by simp [hy]) z (by simp [hz])
    have I := ih hf'
    rw [setAll_snoc]
    generalize setAll ws = s at I
    obtain ⟨vs, ats⟩ := s
    obtain ⟨I1, I2⟩ := I
    simp only at I1 I2
    by_cases hr : rightB w.at_ = true
    · by_cases ht : (aget ats w.at_).getD false = true
      · -- it was there
        obtain ⟨y, hy, ry, ey⟩ := (I1 w.at_).1 ht
        have hyw : y = w := hf y (by simp [hy]) w (by simp) ey
        subst hyw
        have hm : ∀ x, x ∈ ws ↔ x ∈ ws ++ [y] := fun x => by
          simp only [List.mem_append, List.mem_singleton]
          exact ⟨.inl, fun h => h.elim id (fun e => e ▸ hy)⟩
        have hc : setCode ats y.at_ = 151 := by simp [setCode, hr, ht]
        have e1 : setStep (vs, ats) y = (vs, ats) := by simp [setStep, setVals, setAts, hc]
        rw [e1]
        refine ⟨fun a => (I1 a).trans ⟨fun ⟨z, hz, r⟩ => ⟨z, (hm z).1 hz, r⟩, fun ⟨z, hz, r⟩ => ⟨z, (hm z).2 hz, r⟩⟩, fun p x => (I2 p x).trans ⟨Best.mem hm, Best.mem (fun x => (hm x).symm)⟩⟩
      · have ht' : (aget ats w.at_).getD false = false := by simpa using ht
        have hc : setCode ats w.at_ = 0 := by simp [setCode, hr, ht']
        have hnew : ∀ y ∈ ws, rightB y.at_ = true → y.at_ ≠ w.at_ := fun y hy ry e => ht ((I1 w.at_).2 ⟨y, hy, ry, e⟩)
        refine ⟨fun a => ?_, fun p x => ?_⟩
        · show (aget (setAts ats w.at_) a).getD false = true ↔ _
          rw [setAts, if_pos hc]
          by_cases ha : w.at_ = a
          · subst ha
            rw [aget_aset_same]
            simp only [Option.getD_some, true_iff]
            exact ⟨w, by simp, hr, rfl⟩
          · rw [aget_aset_other _ _ ha, I1 a]
            constructor
            · rintro ⟨y, hy, r⟩; exact ⟨y, by simp [hy], r⟩
            · rintro ⟨y, hy, ry, ey⟩
              rcases List.mem_append.1 hy with hy | hy
              · exact ⟨y, hy, ry, ey⟩
              · rw [List.mem_singleton.1 hy] at ey; exact absurd ey ha
        · show aget (setVals vs ats w.at_ w.pl w.value) p = some x ↔ _
          by_cases hlt : cmpS (atOf (aget vs w.pl)) w.at_ < 0
          · rw [setVals, if_pos ⟨hc, hlt⟩]
            rw [cmpS_lt] at hlt
            have old : ∀ z ∈ ws, rightB z.at_ = true → z.pl = w.pl → stLt z.at_ w.at_ := by
              intro z hz rz pz
              cases hg : aget vs w.pl with
              | none =>
                exfalso
                -- there is a best one
                have : ∃ x, Best ws w.pl x := exists_best ws w.pl z hz rz pz
                obtain ⟨x, hx⟩ := this
                rw [(I2 w.pl x).2 hx] at hg
                cases hg
              | some x0 =>
                rw [hg] at hlt
                obtain ⟨u, hu, ru, pu, ex, mu⟩ := (I2 w.pl x0).1 hg
                subst ex
                have hlt' : stLt u.at_ w.at_ := hlt
                rcases stLt_total z.at_ u.at_ with t | t | t
                · exact stLt_trans t hlt'
                · rw [t]; exact hlt'
                · exact absurd t (mu z hz rz pz)
            by_cases hp : w.pl = p
            · subst hp
              rw [aget_aset_same]
              constructor
              · intro e
                cases e
                refine ⟨w, by simp, hr, rfl, rfl, fun z hz rz pz hl => ?_⟩
                rcases List.mem_append.1 hz with hz | hz
                · exact stLt_irrefl _ (stLt_trans hl (old z hz rz pz))
                · rw [List.mem_singleton.1 hz] at hl; exact stLt_irrefl _ hl
              · rintro ⟨y, hy, ry, py, rfl, my⟩
                rcases List.mem_append.1 hy with hy | hy
                · exact absurd (old y hy ry py) (my w (by simp) hr rfl)
                · rw [List.mem_singleton.1 hy]
            · rw [aget_aset_other _ _ hp, I2 p x]
              constructor
              · rintro ⟨y, hy, ry, py, e, my⟩
                refine ⟨y, by simp [hy], ry, py, e, fun z hz rz pz => ?_⟩
                rcases List.mem_append.1 hz with hz | hz
                · exact my z hz rz pz
                · rw [List.mem_singleton.1 hz] at pz; exact absurd pz hp
              · rintro ⟨y, hy, ry, py, e, my⟩
                rcases List.mem_append.1 hy with hy | hy
                · exact ⟨y, hy, ry, py, e, fun z hz => my z (by simp [hz])⟩
                · rw [List.mem_singleton.1 hy] at py; exact absurd py hp
          · rw [setVals, if_neg (fun h => hlt h.2), I2 p x]
            rw [cmpS_lt] at hlt
            obtain ⟨u, hu, ru, pu, hlu⟩ : ∃ u ∈ ws, rightB u.at_ = true ∧ u.pl = w.pl ∧ stLt w.at_ u.at_ := by
              cases hg : aget vs w.pl with
              | none => rw [hg] at hlt; exact absurd (right_pos hr) hlt
              | some x0 =>
                rw [hg] at hlt
                obtain ⟨u, hu, ru, pu, ex, mu⟩ := (I2 w.pl x0).1 hg
                subst ex
                refine ⟨u, hu, ru, pu, ?_⟩
                rcases stLt_total w.at_ u.at_ with t | t | t
                · exact t
                · exact absurd t.symm (hnew u hu ru)
                · exact absurd t hlt
            constructor
            · rintro ⟨y, hy, ry, py, e, my⟩
              refine ⟨y, by simp [hy], ry, py, e, fun z hz rz pz hl => ?_⟩
              rcases List.mem_append.1 hz with hz | hz
              · exact my z hz rz pz hl
              · rw [List.mem_singleton.1 hz] at pz hl
                exact my u hu ru (pu.trans pz) (stLt_trans hl hlu)
            · rintro ⟨y, hy, ry, py, e, my⟩
              rcases List.mem_append.1 hy with hy | hy
              · exact ⟨y, hy, ry, py, e, fun z hz => my z (by simp [hz])⟩
              · rw [List.mem_singleton.1 hy] at py my
                exact absurd hlu (my u (by simp [hu]) ru (pu.trans py))
    · -- it may not be
      have hr' : rightB w.at_ = false := by simpa using hr
      have hc : setCode ats w.at_ = 1 := by simp [setCode, hr']
      have e1 : setStep (vs, ats) w = (vs, ats) := by simp [setStep, setVals, setAts, hc]
      rw [e1]
      have hm : ∀ x, rightB x.at_ = true → (x ∈ ws ↔ x ∈ ws ++ [w]) := fun x hx => by
        simp only [List.mem_append, List.mem_singleton]
        exact ⟨.inl, fun h => h.elim id (fun e => by rw [e] at hx; exact absurd hx hr)⟩
      refine ⟨fun a => (I1 a).trans ⟨fun ⟨z, hz, r⟩ => ⟨z, (hm z r.1).1 hz, r⟩, fun ⟨z, hz, r⟩ => ⟨z, (hm z r.1).2 hz, r⟩⟩, fun p x => (I2 p x).trans ⟨?_, ?_⟩⟩
      · rintro ⟨y, hy, ry, py, e, my⟩
        exact ⟨y, (hm y ry).1 hy, ry, py, e, fun z hz rz => my z ((hm z rz).2 hz) rz⟩
      · rintro ⟨y, hy, ry, py, e, my⟩
        exact ⟨y, (hm y ry).2 hy, ry, py, e, fun z hz rz => my z ((hm z rz).1 hz) rz⟩

/-- Two lists of the same writes leave the same values. -/
theorem setAll_same {ws ws' : List Write} (hf : Fun1 ws) (hm : ∀ x, x ∈ ws ↔ x ∈ ws') (p : Pl) : aget (setAll ws).1 p = aget (setAll ws').1 p := by
  have hf' : Fun1 ws' := fun y hy z hz => hf y ((hm y).2 hy) z ((hm z).2 hz)
  have I := (setInv ws hf).vals p
  have I' := (setInv ws' hf').vals p
  cases h : aget (setAll ws).1 p with
  | none =>
    cases h' : aget (setAll ws').1 p with
    | none => rfl
    | some x => rw [(I x).2 (((I' x).1 h').mem (fun x => (hm x).symm))] at h; cases h
  | some x => rw [(I' x).2 (((I x).1 h).mem hm)]

/-- What All tells. -/
structure AllList (vs : List (Pl × Wr)) (b : St) (l : List Atr) : Prop where
  mem : ∀ a, a ∈ l ↔ ∃ x, aget vs ⟨b, a.name⟩ = some x ∧ x.value = a.value
  rising : l.Pairwise (fun a c => a.name.toList < c.name.toList)

theorem rising_unique {l l' : List Atr} (hm : ∀ a, a ∈ l ↔ a ∈ l') (h : l.Pairwise (fun a c => a.name.toList < c.name.toList)) (h' : l'.Pairwise (fun a c => a.name.toList < c.name.toList)) : l = l' := by
  induction l generalizing l' with
  | nil =>
    cases l' with
    | nil => rfl
    | cons y l' => exact absurd ((hm y).2 (by simp)) (by simp)
  | cons x l ih =>
    cases l' with
    | nil => exact absurd ((hm x).1 (by simp)) (by simp)
    | cons y l' =>
      obtain ⟨h1, h2⟩ := List.pairwise_cons.1 h
      obtain ⟨h1', h2'⟩ := List.pairwise_cons.1 h'
      have hxy : x = y := by
        rcases List.mem_cons.1 ((hm x).1 (by simp)) with e | e
        · exact e
        · rcases List.mem_cons.1 ((hm y).2 (by simp)) with f | f
          · exact f.symm
          · exact absurd (List.lt_trans (h1 y f) (h1' x e)) (List.lt_irrefl _)
      subst hxy
      congr 1
      refine ih (fun a => ?_) h2 h2'
      constructor
      · intro ha
        rcases List.mem_cons.1 ((hm a).1 (by simp [ha])) with e | e
        · rw [e] at ha; exact absurd (h1 x ha) (List.lt_irrefl _)
        · exact e
      · intro ha
        rcases List.mem_cons.1 ((hm a).2 (by simp [ha])) with e | e
        · rw [e] at ha; exact absurd (h1' x ha) (List.lt_irrefl _)
        · exact e

theorem AllList.unique {vs vs' : List (Pl × Wr)} {b : St} {l l' : List Atr} (h : AllList vs b l) (h' : AllList vs' b l') (he : ∀ n, aget vs ⟨b, n⟩ = aget vs' ⟨b, n⟩) : l = l' :=
  rising_unique (fun a => by rw [h.mem a, h'.mem a, he]) h.rising h'.rising

theorem allList_of {vs : List (Pl × Wr)} (hn : (vs.map (·.1)).Nodup) {b : St} {l : List Atr} (hp : l.Perm (attrsOf vs b)) (hs : l.Pairwise (fun x c => Go.Proofs.ltOf (fun x y : Atr => cmpB x.name y.name) c x = false)) : AllList vs b l := by
  have hmem : ∀ a, a ∈ l ↔ ∃ x, aget vs ⟨b, a.name⟩ = some x ∧ x.value = a.value := by
    intro a
    rw [hp.mem_iff]
    simp only [attrsOf, List.mem_map, List.mem_filter, decide_eq_true_eq]
    constructor
    · rintro ⟨⟨⟨pb, pn⟩, x⟩, ⟨h1, h2⟩, rfl⟩
      simp only at h2
      subst h2
      exact ⟨x, aget_of_mem hn h1, rfl⟩
    · rintro ⟨x, h1, h2⟩
      exact ⟨(⟨b, a.name⟩, x), ⟨aget_mem h1, rfl⟩, by cases a; simp_all⟩
  have hnd : (attrsOf vs b).Pairwise (fun x y => x.name ≠ y.name) := by
    unfold attrsOf
    rw [List.pairwise_map]
    have h0 : (vs.filter (fun p => decide (p.1.blk = b))).Pairwise (fun p q => p.1 ≠ q.1) := (List.pairwise_map.1 hn).filter _
    refine List.Pairwise.imp_of_mem ?_ h0
    intro p q hp hq hne e
    simp only [List.mem_filter, decide_eq_true_eq] at hp hq
    apply hne
    obtain ⟨⟨pb, pn⟩, x⟩ := p
    obtain ⟨⟨qb, qn⟩, y⟩ := q
    simp only at hp hq e
    rw [hp.2, hq.2, e]
  have hnd' : l.Pairwise (fun x y => x.name ≠ y.name) := (hp.symm.pairwise_iff (fun {x y} h => fun e => h e.symm)).1 hnd
  refine ⟨hmem, ?_⟩
  have := hs.and hnd'
  refine this.imp ?_
  rintro x y ⟨h1, h2⟩
  simp only [Go.Proofs.ltOf, ltB, decide_eq_false_iff_not] at h1
  exact Classical.byContradiction fun h3 => h2 ((eq_bytes _ _).1 (list_total _ _ h3 h1))

theorem setAll_length (ws : List Write) : (setAll ws).1.length ≤ ws.length := by
  refine snocInd (p := fun ws => (setAll ws).1.length ≤ ws.length) ?_ ?_ ws
  · simp [setAll_nil]
  · intro ws x ih
    rw [setAll_snoc]
    have : (setStep (setAll ws) x).1.length ≤ (setAll ws).1.length + 1 := by
      show (setVals _ _ _ _ _).length ≤ _
      unfold setVals
      split
      · exact aset_length_le _ _ _
      · omega
    simp only [List.length_append, List.length_singleton]
    omega

theorem all_list (r mv ma : Nat) (vs : List (Pl × Wr)) (ats : List (St × Bool)) (bn br : Int) (w : World) (h : RegIs w r mv ma vs ats) (hsz : vs.length ≤ 1099511627776) :
    Calls Try.prog 14 #[.pointer (some ⟨r, 0, none⟩), .agg #[.int .i64 bn, .int .i64 br]] w
      fun e w' => ∃ v l, e = .returned v ∧ Own Atr.cells 2 45 w.heap.size w' v l ∧ AllList vs ⟨bn, br⟩ l ∧ l.length ≤ 1099511627776 ∧ Below w.heap.size w w' :=
  (all_any r mv ma vs ats bn br w h hsz).mono fun e w' ⟨v, l, h1, h2, h3, h4, h5⟩ =>
    ⟨v, l, h1, h2, allList_of h.hv.nodup h3 h4, by have := h3.length_eq; have := attrsOf_le vs ⟨bn, br⟩; omega, h5⟩

end Go.Proofs.Ytkkffnejgbhbmaa
