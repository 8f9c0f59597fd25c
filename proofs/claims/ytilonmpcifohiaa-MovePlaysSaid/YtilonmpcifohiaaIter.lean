/- Ranging over a map that is not written while it is gone through: the entries come in some order, each once. -/
import Derived.Test.YtilonmpcifohiaaMaps
import Derived.Maps.RangeRun
namespace Go.Proofs.Ytilonmpcifohiaa
open Go.RowKit
set_option linter.unusedSimpArgs false
set_option linter.unusedVariables false
set_option linter.unusedSectionVars false

section
variable {K V : Type} [DecidableEq K] {ek : K → Value} {ev : V → Value}

/-- Block r is an iterator over the map in block b, which holds the pairs l; left: what is still to come; cur: what came last. -/
def IterIs (ek : K → Value) (ev : V → Value) (w : World) (r b : Nat) (l left : List (K × V)) (cur : Option (K × V)) : Prop :=
  (l.map (·.1)).Nodup ∧ ∃ es clock seen, w.heap[b]? = some (.map es clock) ∧ w.heap[r]? = some (.mapIter (some b) clock seen clock) ∧
    es.toList.map (·.key) = l.map (fun p => ek p.1) ∧ es.toList.map (·.val) = l.map (fun p => ev p.2) ∧
    es.toList.Pairwise (fun x y => x.born < y.born) ∧ (∀ e ∈ es.toList, e.born < clock) ∧
    ((es.toList.zip l).filter (fun x => !seen.contains x.1.born)).map (·.2) = left ∧
    (∀ p, cur = some p → ∃ e, (e, p) ∈ es.toList.zip l ∧ seen.back? = some e.born)

theorem IterIs.mapIs {w : World} {r b : Nat} {l left : List (K × V)} {cur : Option (K × V)} (h : IterIs ek ev w r b l left cur) : MapIs ek ev w b l := by
  obtain ⟨hn, es, clock, seen, h1, h2, h3, h4, h5, h6, h7⟩ := h
  exact ⟨hn, es, clock, h1, h3, h4, h5, h6⟩

theorem IterIs.of_blocks {w w' : World} {r b : Nat} {l left : List (K × V)} {cur : Option (K × V)} (h : IterIs ek ev w r b l left cur) (hr : w'.heap[r]? = w.heap[r]?) (hb : w'.heap[b]? = w.heap[b]?) : IterIs ek ev w' r b l left cur := by
  obtain ⟨hn, es, clock, seen, h1, h2, h3⟩ := h
  exact ⟨hn, es, clock, seen, hb.trans h1, hr.trans h2, h3⟩
theorem IterIs.lt {w : World} {r b : Nat} {l left : List (K × V)} {cur : Option (K × V)} (h : IterIs ek ev w r b l left cur) : r < w.heap.size ∧ b < w.heap.size := by
  obtain ⟨hn, es, clock, seen, h1, h2, h3⟩ := h
  exact ⟨(Array.getElem?_eq_some_iff.1 h2).1, (Array.getElem?_eq_some_iff.1 h1).1⟩
theorem IterIs.alloc {w : World} {r b : Nat} {l left : List (K × V)} {cur : Option (K × V)} (h : IterIs ek ev w r b l left cur) (o : Obj) : IterIs ek ev (w.alloc o) r b l left cur :=
  h.of_blocks (Below.heap_alloc _ _ _ h.lt.1) (Below.heap_alloc _ _ _ h.lt.2)
theorem IterIs.drew {w : World} {r b : Nat} {l left : List (K × V)} {cur : Option (K × V)} (h : IterIs ek ev w r b l left cur) : IterIs ek ev w.drew r b l left cur := h
theorem IterIs.ext {S : Nat → Prop} {w w' : World} {r b : Nat} {l left : List (K × V)} {cur : Option (K × V)} (h : IterIs ek ev w r b l left cur) (hx : Ext S w w') (h1 : ¬ S r) (h2 : ¬ S b) : IterIs ek ev w' r b l left cur :=
  h.of_blocks (hx.block r h.lt.1 h1) (hx.block b h.lt.2 h2)

theorem zip_snd_eq {es : List MapEntry} {l : List (K × V)} (h : es.map (·.key) = l.map (fun p => ek p.1)) : (es.zip l).map (·.2) = l := by
  have := congrArg List.length h
  simp only [List.length_map] at this
  rw [List.map_snd_zip]
  omega

/-- range. -/
theorem MapIs.range {P : Program} {w : World} {b : Nat} {l : List (K × V)} {mt kt et : TypeId} (h : MapIs ek ev w b l) (hm : P.underlying mt = some (.map kt et)) :
    ∃ w', (Instr.range mt (.map (some b))).run P w = .ok (.pointer (some ⟨w.heap.size, 0, none⟩)) w' ∧ IterIs ek ev w' w.heap.size b l l none ∧ Below w.heap.size w w' ∧ w'.heap.size = w.heap.size + 1 := by
  have hlt := h.lt
  obtain ⟨hn, es, clock, h1, h2, h3, h4, h5⟩ := h
  refine ⟨w.alloc (.mapIter (some b) clock #[] clock), ?_, ⟨hn, es, clock, #[], ?_, ?_, h2, h3, h4, h5, ?_, ?_⟩, (Below.refl _ _).alloc (Nat.le_refl _) _, by simp⟩
  · simp [Instr.range, run_underlying hm, run_getObj_map' h1, Result.andThen]
  · rw [Below.heap_alloc _ _ _ hlt]; exact h1
  · show (w.heap.push _)[w.heap.size]? = _
    simp
  · rw [List.filter_eq_self.2 (by simp)]
    exact zip_snd_eq h2
  · intro p hp; cases hp

theorem pos_of_pairwise {es : List MapEntry} (hp : es.Pairwise (fun x y => x.born < y.born)) {i j : Nat} {x y : MapEntry} (hi : es[i]? = some x) (hj : es[j]? = some y) (he : x.born = y.born) : i = j := by
  obtain ⟨hi', rfl⟩ := List.getElem?_eq_some_iff.1 hi
  obtain ⟨hj', rfl⟩ := List.getElem?_eq_some_iff.1 hj
  rcases Nat.lt_trichotomy i j with h | h | h
  · have := List.pairwise_iff_getElem.1 hp i j hi' hj' h; omega
  · exact h
  · have := List.pairwise_iff_getElem.1 hp j i hj' hi' h; omega


theorem zip_fst_eq {es : List MapEntry} {l : List (K × V)} (h : es.map (·.key) = l.map (fun p => ek p.1)) : (es.zip l).map (·.1) = es := by
  have := congrArg List.length h
  simp only [List.length_map] at this
  rw [List.map_fst_zip]
  omega

theorem zip_pairwise {es : List MapEntry} {l : List (K × V)} (hp : es.Pairwise (fun x y => x.born < y.born)) : (es.zip l).Pairwise (fun x y => x.1.born < y.1.born) := by
  induction es generalizing l with
  | nil => simp
  | cons e es ih =>
    cases l with
    | nil => simp
    | cons q l =>
      rw [List.zip_cons_cons]
      rw [List.pairwise_cons] at hp ⊢
      refine ⟨fun y hy => hp.1 y.1 (List.of_mem_zip hy).1, ih hp.2⟩

/-- The world behind a step of the iterator. -/
theorem IterIs.next1 {P : Program} {w : World} {r b : Nat} {l left : List (K × V)} {cur : Option (K × V)} {ty : TypeId} (h : IterIs ek ev w r b l left cur) (hrb : r ≠ b) :
    (left = [] ∧ (Instr.next (.pointer (some ⟨r, 0, none⟩)) false ty).run P w = .ok (.tuple #[.bool false]) w) ∨
    ∃ i p w', left[i]? = some p ∧ (Instr.next (.pointer (some ⟨r, 0, none⟩)) false ty).run P w = .ok (.tuple #[.bool true, ek p.1, ev p.2]) w' ∧ IterIs ek ev w' r b l (left.eraseIdx i) (some p) ∧ Ext (· = r) w w' ∧ w'.heap.size = w.heap.size := by
  have hlt := h.lt
  obtain ⟨hn, es, clock, seen, h1, h2, h3, h4, h5, h6, h7, h8⟩ := h
  have hz := zip_fst_eq h3
  have hgr : (getObj r).run P w = .ok (.mapIter (some b) clock seen clock) w := by simp [getObj, Sem.run, h2]
  have hgb : (getObj b).run P w = .ok (.map es clock) w := run_getObj_map' h1
  have hold : (es.filter fun e => !seen.contains e.born).filter (fun e => decide (e.born < clock)) = es.filter fun e => !seen.contains e.born := by
    rw [Array.filter_eq_self]
    intro e he
    simp only [decide_eq_true_eq]
    exact h6 e (by simpa using (Array.mem_filter.1 he).1)
  have hnew : (es.filter fun e => !seen.contains e.born).filter (fun e => decide (e.born ≥ clock)) = #[] := by
    rw [Array.filter_eq_empty_iff]
    intro e he
    simp only [decide_eq_true_eq]
    have := h6 e (by simpa using (Array.mem_filter.1 he).1)
    omega
  have hall : (!seen.isEmpty && !es.isEmpty && es.all fun e => decide (e.born ≥ clock)) = false := by
    cases hes : es.isEmpty with
    | true => simp
    | false =>
      simp only [Bool.not_false, Bool.and_true]
      rw [Bool.and_eq_false_iff]
      right
      have h0 : 0 < es.size := by
        rw [Array.isEmpty_eq_false_iff] at hes
        exact Array.size_pos_iff.2 hes
      have := h6 es[0] (by simp)
      cases hq : es.all fun e => decide (e.born ≥ clock) with
      | false => rfl
      | true =>
        rw [Array.all_eq_true] at hq
        have := hq 0 h0
        simp at this
        omega
  have hleft : left.map (fun p => p) = left := List.map_id' _
  generalize hF : (es.toList.zip l).filter (fun x => !seen.contains x.1.born) = F at h7
  have hFes : (es.filter fun e => !seen.contains e.born).toList = F.map (·.1) := by
    rw [Array.toList_filter, ← hF]
    conv => lhs; rw [← hz]
    rw [List.filter_map]
    rfl
  by_cases hemp : left = []
  · left
    refine ⟨hemp, ?_⟩
    have hFnil : F = [] := by rw [hemp] at h7; exact List.map_eq_nil_iff.1 h7
    have he : es.filter (fun e => !seen.contains e.born) = #[] := by
      apply Array.toList_inj.1
      rw [hFes, hFnil]
      rfl
    simp only [Instr.next, Sem.run_bind, hgr, Result.andThen_ok, hgb, hall, Bool.false_eq_true, if_false, Sem.run_pure]
    rw [hold, hnew, he]
    simp [Question.forced]
  · right
    have hne : F ≠ [] := fun e => hemp (by rw [← h7, e]; rfl)
    have hpos : 0 < F.length := List.length_pos_iff.2 hne
    have hemp2 : (es.filter fun e => !seen.contains e.born).isEmpty = false := by
      rw [Array.isEmpty_eq_false_iff]
      intro e
      have := congrArg Array.toList e
      rw [hFes] at this
      exact hne (List.map_eq_nil_iff.1 this)
    -- whichever is taken
    have key : ∀ i (hi : i < F.length) (w0 : World), w0.heap = w.heap → w0.os = w.os → w0.tape = w.tape → w0.output = w.output →
        ∃ p w', left[i]? = some p ∧ (do setObj r (.mapIter (some b) clock (seen.push (F[i]'hi).1.born) clock); pure (Value.tuple #[.bool true, (F[i]'hi).1.key, (F[i]'hi).1.val]) : Sem Value).run P w0 = .ok (.tuple #[.bool true, ek p.1, ev p.2]) w' ∧ IterIs ek ev w' r b l (left.eraseIdx i) (some p) ∧ Ext (· = r) w w' ∧ w'.heap.size = w.heap.size := by
      intro i hi w0 g1 g2 g3 g4
      obtain ⟨e, p, hep⟩ : ∃ e p, F[i]'hi = (e, p) := ⟨_, _, rfl⟩
      rw [hep]
      have hmem : (e, p) ∈ es.toList.zip l := by
        have : (e, p) ∈ F := by rw [← hep]; exact List.getElem_mem hi
        rw [← hF] at this
        exact (List.mem_filter.1 this).1
      obtain ⟨q, hq⟩ := List.getElem?_of_mem hmem
      rw [List.getElem?_zip_eq_some] at hq
      have hk : e.key = ek p.1 := by
        have := congrArg (fun l : List Value => l[q]?) h3
        simpa [hq.1, hq.2] using this
      have hv : e.val = ev p.2 := by
        have := congrArg (fun l : List Value => l[q]?) h4
        simpa [hq.1, hq.2] using this
      have hFi : F[i]? = some (e, p) := by rw [List.getElem?_eq_getElem hi, hep]
      have hr0 : w0.heap[r]? = some (.mapIter (some b) clock seen clock) := by rw [g1]; exact h2
      refine ⟨p, { w0 with heap := w0.heap.setIfInBounds r (.mapIter (some b) clock (seen.push e.born) clock) }, ?_, ?_, ?_, ⟨g2, g3, g4, by simp [g1], fun k hk' hkr => ?_⟩, by simp [g1]⟩
      · rw [← h7, List.getElem?_map, hFi]; rfl
      · have : (setObj r (.mapIter (some b) clock (seen.push e.born) clock)).run P w0 = .ok () { w0 with heap := w0.heap.setIfInBounds r (.mapIter (some b) clock (seen.push e.born) clock) } := by simp [setObj, Sem.run, hr0]
        simp only [Sem.run_bind, this, Result.andThen_ok, Sem.run_pure, hk, hv]
      · refine ⟨hn, es, clock, seen.push e.born, ?_, ?_, h3, h4, h5, h6, ?_, ?_⟩
        · show (w0.heap.setIfInBounds r _)[b]? = _
          rw [Array.getElem?_setIfInBounds_ne hrb, g1]; exact h1
        · show (w0.heap.setIfInBounds r _)[r]? = _
          rw [Array.getElem?_setIfInBounds_self_of_lt (by rw [g1]; exact hlt.1)]
        · have e1 : (es.toList.zip l).filter (fun x => !(seen.push e.born).contains x.1.born) = F.filter (fun x => !(x.1.born == e.born)) := by
            rw [← hF, List.filter_filter]
            refine List.filter_congr fun x _ => ?_
            simp only [Array.contains_push, Bool.not_or]
            rw [Bool.and_comm]
          have hpw : F.Pairwise (fun x y => x.1.born < y.1.born) := by rw [← hF]; exact (zip_pairwise h5).filter _
          rw [e1, ChangeMaps.filter_eq_eraseIdx (fun x : MapEntry × (K × V) => x.1.born == e.born) F i (e, p) hFi (by simp) (hpw.imp (fun {x y} hxy ⟨a, c⟩ => by simp at a c; omega)), ChangeMaps.map_eraseIdx, h7]
        · intro p' hp'
          cases hp'
          exact ⟨e, hmem, by simp⟩
      · show (w0.heap.setIfInBounds r _)[k]? = _
        rw [Array.getElem?_setIfInBounds_ne (fun e => hkr e.symm), g1]
    have hsz : ((es.filter fun (e : MapEntry) => !seen.contains e.born).map some).size = F.length := by
      have := congrArg List.length hFes
      rw [Array.size_map]
      rw [← Array.length_toList, hFes, List.length_map]
    have hget : ∀ i (hi : i < F.length), ((es.filter fun (e : MapEntry) => !seen.contains e.born).map some)[i]? = some (some (F[i]'hi).1) := by
      intro i hi
      rw [Array.getElem?_map, ← Array.getElem?_toList, hFes, List.getElem?_map, List.getElem?_eq_getElem hi]
      rfl
    have hrun : ∀ i (hi : i < F.length) w0, (choose (.mapNext F.length)).run P w = .ok i w0 → (Instr.next (.pointer (some ⟨r, 0, none⟩)) false ty).run P w =
        (do setObj r (.mapIter (some b) clock (seen.push (F[i]'hi).1.born) clock); pure (Value.tuple #[.bool true, (F[i]'hi).1.key, (F[i]'hi).1.val]) : Sem Value).run P w0 := by
      intro i hi w0 hc
      simp only [Instr.next, Sem.run_bind, hgr, Result.andThen_ok, hgb, hall, Bool.false_eq_true, if_false, Sem.run_pure]
      rw [hold, hnew, hemp2]
      simp only [Bool.false_eq_true, if_false, Array.empty_append, Array.append_empty]
      rw [hsz, hc, Result.andThen_ok, hget i hi]
      simp only [Sem.run_bind, Sem.run_pure]
    by_cases hforced : F.length ≤ 1
    · obtain ⟨p, w', k1, k2, k3⟩ := key 0 hpos w rfl rfl rfl rfl
      refine ⟨0, p, w', k1, ?_, k3⟩
      rw [← k2]
      exact hrun 0 hpos w (by rw [run_choose_drew, if_pos (by simp [Question.forced, hforced])])
    · obtain ⟨p, w', k1, k2, k3⟩ := key (w.tape w.drawn (.mapNext F.length) % F.length) (Nat.mod_lt _ hpos) w.drew rfl rfl rfl rfl
      refine ⟨_, p, w', k1, ?_, k3⟩
      rw [← k2]
      exact hrun _ (Nat.mod_lt _ hpos) w.drew (by rw [run_choose_drew, if_neg (by simp [Question.forced]; omega)]; rfl)

theorem IterIs.next {P : Program} {w : World} {r b : Nat} {l left : List (K × V)} {cur : Option (K × V)} (h : IterIs ek ev w r b l left cur) (hrb : r ≠ b) :
    (left = [] ∧ ∀ ty, (Instr.next (.pointer (some ⟨r, 0, none⟩)) false ty).run P w = .ok (.tuple #[.bool false]) w) ∨
    ∃ i p w', left[i]? = some p ∧ (∀ ty, (Instr.next (.pointer (some ⟨r, 0, none⟩)) false ty).run P w = .ok (.tuple #[.bool true, ek p.1, ev p.2]) w') ∧ IterIs ek ev w' r b l (left.eraseIdx i) (some p) ∧ Ext (· = r) w w' ∧ w'.heap.size = w.heap.size := by
  rcases h.next1 (P := P) (ty := 0) hrb with ⟨h1, h2⟩ | ⟨i, p, w', h1, h2, h3⟩
  · exact .inl ⟨h1, fun _ => h2⟩
  · exact .inr ⟨i, p, w', h1, fun _ => h2, h3⟩

/-- What the loop's variables get. -/
theorem IterIs.entry {P : Program} {w : World} {r b : Nat} {l left : List (K × V)} {p : K × V} (h : IterIs ek ev w r b l left (some p)) :
    (Instr.entry (.pointer (some ⟨r, 0, none⟩))).run P w = .ok (.tuple #[ek p.1, ev p.2]) w := by
  obtain ⟨hn, es, clock, seen, h1, h2, h3, h4, h5, h6, h7, h8⟩ := h
  obtain ⟨e, hmem, hback⟩ := h8 p rfl
  obtain ⟨q, hq⟩ := List.getElem?_of_mem hmem
  rw [List.getElem?_zip_eq_some] at hq
  have hk : e.key = ek p.1 := by
    have := congrArg (fun l : List Value => l[q]?) h3
    simpa [hq.1, hq.2] using this
  have hv : e.val = ev p.2 := by
    have := congrArg (fun l : List Value => l[q]?) h4
    simpa [hq.1, hq.2] using this
  have hgr : (getObj r).run P w = .ok (.mapIter (some b) clock seen clock) w := by simp [getObj, Sem.run, h2]
  have hgb : (getObj b).run P w = .ok (.map es clock) w := run_getObj_map' h1
  have hfind : es.find? (fun x => x.born == e.born) = some e := by
    rw [← Array.find?_toList]
    rw [List.find?_eq_some_iff_getElem]
    obtain ⟨hq', hqe⟩ := List.getElem?_eq_some_iff.1 hq.1
    refine ⟨by simp, q, hq', hqe, fun j hj => ?_⟩
    have hj' : j < es.toList.length := by omega
    have := List.pairwise_iff_getElem.1 h5 j q hj' hq' hj
    rw [hqe] at this
    simp
    simp at this
    omega
  simp [Instr.entry, hgr, hgb, hback, hfind, hk, hv, Result.andThen]

end

end Go.Proofs.Ytilonmpcifohiaa
