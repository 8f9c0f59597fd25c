/- A loss of power leaves both disks alike. -/
import Derived.Test.YtmlaojfhmaamcaaSimC06
namespace Go.Proofs.Ytmlaojfhmaamcaa
open Go.RowKit Go.Deep
set_option linter.unusedSimpArgs false
set_option linter.unusedVariables false

def freshN (there : List Nm) : List Nm := there.zipIdx.map fun x => ⟨x.1.name, x.2⟩
theorem freshL_snoc (l : List StepA) (ks : List Bool) (torn : Int) (t : List Nm) (x : Nm) : freshL l ks torn (t ++ [x]) = freshL l ks torn t ++ [⟨1, t.length, x.name, []⟩, ⟨2, t.length, ⟨#[]⟩, leftR l x.file ks torn⟩, ⟨5, t.length, ⟨#[]⟩, []⟩] := by
  unfold freshL
  rw [List.zipIdx_append, List.flatMap_append]
  simp
theorem freshN_snoc (t : List Nm) (x : Nm) : freshN (t ++ [x]) = freshN t ++ [⟨x.name, t.length⟩] := by
  unfold freshN
  rw [List.zipIdx_append, List.map_append]
  simp
theorem freshL_len (l : List StepA) (ks : List Bool) (torn : Int) : ∀ t, (freshL l ks torn t).length = 3 * t.length := by
  refine snoc_ind rfl (fun t x ih => ?_)
  rw [freshL_snoc, List.length_append, ih, List.length_append]
  simp
  omega
theorem freshN_mem : ∀ (t : List Nm) (y : Nm), y ∈ freshN t → ∃ i, t[i]? = some ⟨y.name, (t[i]?.map (·.file)).getD 0⟩ ∧ y.file = (i : Nat) := by
  intro t y hy
  unfold freshN at hy
  obtain ⟨⟨x, i⟩, hx, rfl⟩ := List.mem_map.1 hy
  have := List.mem_zipIdx_iff_getElem?.1 hx
  exact ⟨i, by simp at this; rw [this]; simp, rfl⟩
theorem freshN_names (t : List Nm) : (freshN t).map (·.name) = t.map (·.name) := by
  unfold freshN
  rw [List.map_map]
  conv => rhs; rw [← List.zipIdx_map_fst 0 t, List.map_map]
  rfl
theorem freshN_len (t : List Nm) : (freshN t).length = t.length := by simp [freshN]
theorem freshN_get (t : List Nm) (i : Nat) : (freshN t)[i]? = t[i]?.map (fun x => ⟨x.name, i⟩) := by
  unfold freshN
  rw [List.getElem?_map, List.getElem?_zipIdx]
  cases t[i]? <;> simp
/-- The names of the new disk. -/
theorem now_fresh (l : List StepA) (ks : List Bool) (torn : Int) : ∀ t : List Nm, (t.map (·.name)).Nodup → nowR (freshL l ks torn t) = freshN t := by
  refine snoc_ind (fun _ => rfl) (fun t x ih hn => ?_)
  rw [List.map_append, List.nodup_append] at hn
  rw [freshL_snoc, freshN_snoc]
  have e := ih hn.1
  unfold nowR at e ⊢
  rw [List.foldl_append, e]
  have hmk : namedR (freshN t) ⟨1, t.length, x.name, []⟩ = freshN t ++ [⟨x.name, t.length⟩] := by
    unfold namedR
    rw [if_pos (.inl rfl)]
    congr 1
    rw [List.filter_eq_self]
    intro y hy
    obtain ⟨i, h1, h2⟩ := freshN_mem t y hy
    have hi := (List.getElem?_eq_some_iff.1 h1).1
    have h3 : y.name ≠ x.name := fun e => hn.2.2 y.name (List.mem_map.2 ⟨_, List.mem_of_getElem? h1, rfl⟩) x.name (by simp) e
    simp [h2, h3]
    omega
  simp only [List.foldl_cons, List.foldl_nil]
  rw [hmk]
  simp [namedR]

theorem pcsA_append (bse : Nat) (f : Int) (L : List StepA) (a b c : StepA) : pcsA bse f (L ++ [a, b, c]) = pcStep f bse (L.length + 2) c (pcStep f bse (L.length + 1) b (pcStep f bse L.length a (pcsA bse f L))) := by
  rw [show L ++ [a, b, c] = ((L ++ [a]) ++ [b]) ++ [c] by simp, pcs_snoc, pcs_snoc, pcs_snoc]
  simp
/-- Each file of the new disk has one piece. -/
theorem pcs_fresh (l : List StepA) (ks : List Bool) (torn : Int) (bse : Nat) (f : Int) : ∀ t : List Nm, 3 * t.length ≤ bse →
    pcsA bse f (freshL l ks torn t) = if 0 ≤ f then (match t[f.toNat]? with | some x => [⟨leftR l x.file ks torn, 0, -1⟩] | none => []) else [] := by
  refine snoc_ind (fun _ => by simp [freshL, pcsA]) (fun t x ih hb => ?_)
  rw [List.length_append] at hb
  simp at hb
  rw [freshL_snoc, pcsA_append, ih (by omega), freshL_len]
  have hc : ∀ i, i < 3 → cameT bse (3 * t.length + i) = 0 ∧ safeT bse (3 * t.length + i) = -1 := fun i hi => by
    unfold cameT safeT
    rw [if_pos (by omega), if_pos (by omega)]
    exact ⟨rfl, rfl⟩
  have h1 := hc 1 (by omega)
  have h2 := hc 2 (by omega)
  by_cases hf : f = (t.length : Int)
  · subst hf
    have e0 : (0 : Int) ≤ (t.length : Int) := by omega
    simp only [pcStep, h1, h2]
    simp [synP]
  · have hf2 : ¬ (t.length : Int) = f := fun e => hf e.symm
    simp only [pcStep]
    simp only [hf2, and_false, if_false]
    by_cases h0 : 0 ≤ f
    · rw [if_pos h0, if_pos h0]
      by_cases hl : f.toNat < t.length
      · rw [List.getElem?_append_left hl]
      · rw [List.getElem?_eq_none (by omega), List.getElem?_eq_none (by rw [List.length_append]; simp; omega)]
    · rw [if_neg h0, if_neg h0]

/-- The files of the new disk. -/
def freshF (m : List (ByteArray × Nat)) (t : List Nm) : List Nat := t.map fun x => (aget m x.name).getD 0

theorem Sim.cut {F : List Nat} {A A' : DiskA} {R : RefA} {pre : List StepA} {J : List (StepA × Option Chg)} (h : Sim F A R pre J) {at_ names torn : Int} {ks : List Bool}
    (hc : CutA A (namesAtA A (pickN at_ (A.now + 1).toNat) names) (pickN at_ (A.now + 1).toNat) ks torn A') (hf : A'.files = A'.base) :
    (∃ F', Sim F' A' (cutR R at_ names ks torn) (cutR R at_ names ks torn).L []) ∧ A'.Inj ∧ A'.base.length ≤ 8 ∧ (cutR R at_ names ks torn).L.length ≤ 25 ∧ (cutR R at_ names ks torn).born ≤ 8 ∧ 0 ≤ (cutR R at_ names ks torn).born := by
  have hnow := h.now
  have hbse := h.bse
  have hLl : R.L.length = pre.length + J.length := by rw [h.L]; simp
  obtain ⟨a, ha⟩ : ∃ a, pickN at_ (A.now + 1).toNat = a := ⟨_, rfl⟩
  have haJ : a ≤ J.length := by
    have := pickN_lt at_ (n := (A.now + 1).toNat) (by omega)
    omega
  rw [ha] at hc
  have hm : (R.bse + pickN at_ ((R.L.length : Int) - R.bse + 1).toNat).toNat = pre.length + a := by
    have : ((R.L.length : Int) - R.bse + 1).toNat = (A.now + 1).toNat := by omega
    rw [this, ha]
    omega
  obtain ⟨k, hk, hn1, hn2⟩ := h.cutNames a haJ names
  rw [hn1] at hc
  -- the names
  obtain ⟨m, hme⟩ : ∃ m, ((J.take k).filterMap (·.2)).foldl (fun m c => applyC c m) A.base = m := ⟨_, rfl⟩
  obtain ⟨t, ht⟩ : ∃ t, nowR (pre ++ (J.take k).map (·.1)) = t := ⟨_, rfl⟩
  have hN : NRel F m t := by
    have := h.bas.all (h.evs.take k)
    rw [hme] at this
    unfold nowR at ht this
    rw [List.foldl_append] at ht
    rw [ht] at this
    exact this
  have ht8 : t.length ≤ 8 := by
    have := (h.evs.take k).len
    unfold nowR at ht this
    rw [List.foldl_append] at ht
    rw [ht] at this
    exact this
  rw [hme] at hc
  rw [ht] at hn2
  have hR : cutR R at_ names ks torn = ⟨freshL (R.L.take (pre.length + a)) ks torn t ++ [⟨6, 0, ⟨#[]⟩, []⟩], t.length, 3 * t.length + 1⟩ := by
    unfold cutR
    dsimp only
    rw [hm, show R.bse.toNat = pre.length by omega, hn2]
  rw [hR]
  have hkeys : (A'.base.map (·.1)).Perm (t.map (·.name)) := hc.perm.trans hN.keys
  have hnd : (A'.base.map (·.1)).Nodup := hkeys.nodup_iff.2 hN.nn
  -- each of the names has a file
  have hhas : ∀ x ∈ t, ∃ f b, fid F x.file = some f ∧ aget A'.base x.name = some b ∧ b ∈ A'.ids ∧ A'.fs b = [⟨leftA a ks torn (A.fs f), 0, -1⟩] := fun x hx => by
    obtain ⟨f, h1, h2⟩ := hN.t2 x hx
    obtain ⟨b, h3, h4, h5⟩ := hc.has x.name f (aget_mem h2)
    exact ⟨f, b, h1, h3, h4, h5⟩
  have hfid : ∀ f b, fid (freshF A'.base t) f = some b → 0 ≤ f ∧ ∃ x, t[f.toNat]? = some x ∧ aget A'.base x.name = some b := fun f b hb => by
    have h0 := fid_nonneg hb
    unfold fid at hb
    rw [if_pos h0] at hb
    unfold freshF at hb
    rw [List.getElem?_map] at hb
    cases hx : t[f.toNat]? with
    | none => rw [hx] at hb; cases hb
    | some x =>
      rw [hx] at hb
      obtain ⟨_, c, _, h3, _⟩ := hhas x (List.mem_of_getElem? hx)
      simp [h3] at hb
      exact ⟨h0, x, rfl, by rw [h3, hb]⟩
  have hfidm : ∀ (i : Nat) x b, t[i]? = some x → aget A'.base x.name = some b → fid (freshF A'.base t) i = some b := fun i x b hx hb => by
    unfold fid freshF
    rw [if_pos (by omega), List.getElem?_map]
    simp [hx, hb]
  have hbas : NRel (freshF A'.base t) A'.base (freshN t) := by
    refine ⟨fun y hy => ?_, fun n b hb => ?_, hnd, by rw [freshN_names]; exact hN.nn, ?_, fun y hy => ?_⟩
    · obtain ⟨i, h1, h2⟩ := freshN_mem t y hy
      obtain ⟨_, b, _, h3, _⟩ := hhas _ (List.mem_of_getElem? h1)
      exact ⟨b, by rw [h2]; exact hfidm i _ b h1 h3, h3⟩
    · have hn := hkeys.subset (List.mem_map.2 ⟨_, aget_mem hb, rfl⟩)
      obtain ⟨x, hx, hxn⟩ := List.mem_map.1 hn
      obtain ⟨i, hi⟩ := List.getElem?_of_mem hx
      dsimp only at hxn
      refine ⟨⟨x.name, i⟩, List.mem_of_getElem? (i := i) (by rw [freshN_get, hi]; rfl), hxn, hfidm i x b hi (by rw [hxn]; exact hb)⟩
    · rw [List.nodup_iff_pairwise_ne, pairwise_get]
      intro i j x y hij hx hy
      rw [List.getElem?_map, freshN_get] at hx hy
      cases h1 : t[i]? with
      | none => rw [h1] at hx; cases hx
      | some p =>
        cases h2 : t[j]? with
        | none => rw [h2] at hy; cases hy
        | some q =>
          rw [h1] at hx; rw [h2] at hy
          simp at hx hy
          omega
    · obtain ⟨i, h1, h2⟩ := freshN_mem t y hy
      exact hN.ne (⟨y.name, (t[i]?.map (·.file)).getD 0⟩ : Nm) (List.mem_of_getElem? h1)
  have hnw : nowR (freshL (R.L.take (pre.length + a)) ks torn t ++ [⟨6, 0, ⟨#[]⟩, []⟩]) = freshN t := by
    have := now_fresh (R.L.take (pre.length + a)) ks torn t hN.nn
    unfold nowR at this ⊢
    rw [List.foldl_append, this]
    simp [namedR]
  have hlen : (freshL (R.L.take (pre.length + a)) ks torn t ++ [(⟨6, 0, ⟨#[]⟩, []⟩ : StepA)]).length = 3 * t.length + 1 := by rw [List.length_append, freshL_len]; rfl
  refine ⟨⟨freshF A'.base t, ?_⟩, ?_, ?_, ?_, ?_, ?_⟩
  · exact {
      L := by simp
      bse := by dsimp only; rw [hlen]; simp
      now := hc.now
      chg := hc.chg
      syn := hc.syn
      timed := fun i s c h => by simp at h
      born := by simp [freshF]
      nd := by
        rw [List.nodup_iff_pairwise_ne, pairwise_get]
        intro i j x y hij hx hy e
        unfold freshF at hx hy
        rw [List.getElem?_map] at hx hy
        cases h1 : t[i]? with
        | none => rw [h1] at hx; cases hx
        | some p =>
          cases h2 : t[j]? with
          | none => rw [h2] at hy; cases hy
          | some q =>
            obtain ⟨_, b1, _, h3, _⟩ := hhas p (List.mem_of_getElem? h1)
            obtain ⟨_, b2, _, h4, _⟩ := hhas q (List.mem_of_getElem? h2)
            simp [h1, h3] at hx
            simp [h2, h4] at hy
            have hpq := hc.one p.name q.name b1 h3 (by rw [h4, hx, hy, e])
            have hn := hN.nn
            rw [List.nodup_iff_pairwise_ne, pairwise_get] at hn
            exact hn i j p.name q.name hij (by rw [List.getElem?_map, h1]; rfl) (by rw [List.getElem?_map, h2]; rfl) hpq
      ids := fun b hb => by
        unfold freshF at hb
        obtain ⟨x, hx, rfl⟩ := List.mem_map.1 hb
        obtain ⟨_, c, _, h3, h4, _⟩ := hhas x hx
        rw [h3]
        exact h4
      bas := by dsimp only; rw [hnw]; exact hbas
      evs := by dsimp only; unfold EvsOk; rw [hnw, freshN_len]; exact ht8
      pcs := fun f b hb => by
        obtain ⟨h0, x, hx, hxb⟩ := hfid f b hb
        obtain ⟨g, b2, h2, h3, _, h5⟩ := hhas x (List.mem_of_getElem? hx)
        rw [hxb] at h3
        cases h3
        dsimp only
        rw [h5, hlen, pcs_snoc, pcs_fresh _ _ _ _ _ _ (by omega), if_pos h0, hx]
        unfold pcStep
        rw [if_neg (by simp), if_neg (by simp)]
        dsimp only
        rw [left_alike, ← h.pcs _ _ h2]
      fold := by rw [hf, hc.chg]; rfl
      okL := fun s hs hk => by
        dsimp only at hs
        rcases List.mem_append.1 hs with hs | hs
        · unfold freshL at hs
          obtain ⟨⟨x, i⟩, hx, hs⟩ := List.mem_flatMap.1 hs
          have := List.mem_zipIdx_iff_getElem?.1 hx
          simp at this
          have hi := (List.getElem?_eq_some_iff.1 this).1
          simp at hs
          have hfl : (freshF A'.base t).length = t.length := by simp [freshF]
          rw [hfl]
          rcases hs with rfl | rfl | rfl <;> dsimp only <;> omega
        · simp at hs; subst hs; simp at hk }
  · refine ⟨by rw [hf]; exact hnd, fun n f hn => hc.vals n f (by rw [← hf]; exact hn), fun n n' f h1 h2 => hc.one n n' f (by rw [← hf]; exact h1) (by rw [← hf]; exact h2), fun n f hn => ?_⟩
    rw [hf] at hn
    obtain ⟨x, hx, rfl⟩ := List.mem_map.1 (hkeys.subset (List.mem_map.2 ⟨_, aget_mem hn, rfl⟩))
    exact hN.ne x hx
  · have := hkeys.length_eq
    rw [List.length_map, List.length_map] at this
    omega
  · dsimp only; rw [hlen]; omega
  · dsimp only; omega
  · dsimp only; omega

end Go.Proofs.Ytmlaojfhmaamcaa
