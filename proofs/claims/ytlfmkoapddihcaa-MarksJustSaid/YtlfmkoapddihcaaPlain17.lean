/- Layer 17, plain: what an element has, by the marks that cover it: of one name the one with the greatest stamp, of one stamp the first. -/
import Derived.Test.YtlfmkoapddihcaaStyle17
namespace Go.Proofs.Ytlfmkoapddihcaa
open Go.RowKit Go.Sort Go.Shelf
set_option linter.unusedSimpArgs false
set_option linter.unusedVariables false

/-- Does an operation's mark cover the i-th element? -/
def Cov (l : List El) (o : OpD) (i : Int) : Prop := ∃ p q, placeOf l o.fr = some p ∧ placeOf l o.tr = some q ∧ (p : Int) + (if o.fa = true then 1 else 0) ≤ i ∧ i < (q : Int) + (if o.ta = true then 1 else 0)
/-- The k-th mark counts for an element and a name. -/
def Win (l : List El) (ms : List OpD) (i : Int) (n : ByteArray) (k : Nat) (o : OpD) : Prop :=
  ms[k]? = some o ∧ Cov l o i ∧ o.name = n ∧ ∀ j o', ms[j]? = some o' → Cov l o' i → o'.name = n → stLt o'.id o.id ∨ (o'.id = o.id ∧ k ≤ j)

theorem Win.unique {l : List El} {ms : List OpD} {i : Int} {n : ByteArray} {k k' : Nat} {o o' : OpD} (h : Win l ms i n k o) (h' : Win l ms i n k' o') : k = k' ∧ o = o' := by
  obtain ⟨a1, a2, a3, a4⟩ := h
  obtain ⟨b1, b2, b3, b4⟩ := h'
  have hk : k = k' := by
    rcases a4 k' o' b1 b2 b3 with c | ⟨c1, c2⟩ <;> rcases b4 k o a1 a2 a3 with d | ⟨d1, d2⟩
    · exact absurd (stLt_trans c d) (stLt_irrefl _)
    · rw [d1] at c; exact absurd c (stLt_irrefl _)
    · rw [c1] at d; exact absurd d (stLt_irrefl _)
    · omega
  subst hk
  rw [a1] at b1
  exact ⟨rfl, Option.some.inj b1⟩

theorem markOf_op {h : List (St × Int)} {o : OpD} {m : Mark} (hm : markOf h o = some m) : m.op = o := by
  unfold markOf at hm
  split at hm
  · cases hm; rfl
  · cases hm
theorem markOf_cov {l : List El} {o : OpD} {m : Mark} (hm : markOf (notedP (backXs l)) o = some m) (i : Int) : (m.lo ≤ i ∧ i < m.hi) ↔ Cov l o i := by
  unfold markOf at hm
  split at hm
  · rename_i hc
    cases hm
    simp only [noted_get, Option.isSome_map, Bool.and_eq_true] at hc
    obtain ⟨p, hp⟩ := Option.isSome_iff_exists.1 hc.1
    obtain ⟨q, hq⟩ := Option.isSome_iff_exists.1 hc.2
    simp only [atI, noted_get, hp, hq, Option.map_some, Option.getD_some]
    constructor
    · intro h
      exact ⟨p, q, hp, hq, h.1, h.2⟩
    · rintro ⟨p', q', hp', hq', h1, h2⟩
      rw [hp] at hp'
      rw [hq] at hq'
      cases hp'
      cases hq'
      exact ⟨h1, h2⟩
  · cases hm
theorem cov_markOf {l : List El} {o : OpD} {i : Int} (h : Cov l o i) : ∃ m, markOf (notedP (backXs l)) o = some m := by
  obtain ⟨p, q, hp, hq, _⟩ := h
  exact ⟨_, if_pos (by simp [noted_get, hp, hq])⟩

/-- The marks with their operations' places. -/
def rawI (h : List (St × Int)) (pre : List (Nat × OpD)) : List (Mark × Nat) := pre.filterMap fun p => (markOf h p.2).map fun m => (m, p.1)
theorem rawI_fst (h : List (St × Int)) (pre : List (Nat × OpD)) : (rawI h pre).map (·.1) = rawMarks h pre := by
  unfold rawI rawMarks
  rw [List.map_filterMap]
  congr 1
  funext p
  cases markOf h p.2 <;> rfl
theorem backXs_pair {α : Type} {l : List α} {k : Nat} {x : α} : (k, x) ∈ backXs l ↔ l[k]? = some x := by
  unfold backXs
  rw [List.mem_reverse, List.mem_map]
  constructor
  · rintro ⟨⟨y, j⟩, h, e⟩
    cases e
    exact List.mem_zipIdx_iff_getElem?.1 h
  · intro h
    exact ⟨(x, k), List.mem_zipIdx_iff_getElem?.2 h, rfl⟩
theorem backXs_dec {α : Type} (l : List α) : (backXs l).Pairwise (fun a b => b.1 < a.1) := by
  unfold backXs
  rw [List.pairwise_reverse, List.pairwise_map]
  rw [List.pairwise_iff_getElem]
  intro i j hi hj hij
  simp only [List.getElem_zipIdx]
  omega
theorem rawI_mem {h : List (St × Int)} {ms : List OpD} {m : Mark} {k : Nat} : (m, k) ∈ rawI h (backXs ms) ↔ ∃ o, ms[k]? = some o ∧ markOf h o = some m := by
  unfold rawI
  rw [List.mem_filterMap]
  constructor
  · rintro ⟨⟨j, o⟩, h1, h2⟩
    cases hm : markOf h o with
    | none => simp [hm] at h2
    | some m' =>
      simp [hm] at h2
      obtain ⟨rfl, rfl⟩ := h2
      exact ⟨o, backXs_pair.1 h1, hm⟩
  · rintro ⟨o, h1, h2⟩
    exact ⟨(k, o), backXs_pair.2 h1, by simp [h2]⟩
theorem rawI_dec (h : List (St × Int)) (ms : List OpD) : (rawI h (backXs ms)).Pairwise (fun a b => b.2 < a.2) := by
  unfold rawI
  rw [List.pairwise_filterMap]
  refine (backXs_dec ms).imp ?_
  intro a b hab x hx y hy
  cases ha : markOf h a.2 with
  | none => simp [ha] at hx
  | some m =>
    cases hb : markOf h b.2 with
    | none => simp [hb] at hy
    | some m' =>
      simp [ha] at hx
      simp [hb] at hy
      subst hx
      subst hy
      exact hab

/-- What a stable sort leaves, with the numbers that the elements bear. -/
theorem StableOf.carry {α κ : Type} {klt : κ → κ → Prop} {key : α → κ} {L : List (α × Nat)} {l' : List α} (h : StableOf klt key (L.map (·.1)) l') (hd : L.Pairwise (fun a b => b.2 < a.2)) :
    ∃ G : List (α × Nat), G.Perm L ∧ G.Pairwise (fun a b => klt (key a.1) (key b.1) ∨ (key a.1 = key b.1 ∧ b.2 < a.2)) ∧ l' = G.map (·.1) := by
  obtain ⟨G, h1, h2, rfl⟩ := h
  have hz : ((L.map (·.1)).zipIdx.map fun p => (p.1, (L[p.2]?.map (·.2)).getD 0)) = L := by
    refine List.ext_getElem (by simp) fun i hi1 hi2 => ?_
    simp [List.getElem?_eq_getElem hi2]
  refine ⟨G.map fun p => (p.1, (L[p.2]?.map (·.2)).getD 0), ?_, ?_, by rw [List.map_map]; rfl⟩
  · rw [← hz]
    simpa [hz] using h1.map fun p => (p.1, (L[p.2]?.map (·.2)).getD 0)
  · rw [List.pairwise_map]
    refine h2.imp_of_mem fun {a b} ha hb hab => ?_
    rcases hab with hab | ⟨e, hab⟩
    · exact .inl hab
    · refine .inr ⟨e, ?_⟩
      have ha' := List.mem_zipIdx_iff_getElem?.1 (h1.mem_iff.1 ha)
      have hb' := List.mem_zipIdx_iff_getElem?.1 (h1.mem_iff.1 hb)
      rw [List.getElem?_map] at ha' hb'
      obtain ⟨x, hx, _⟩ := Option.map_eq_some_iff.1 ha'
      obtain ⟨y, hy, _⟩ := Option.map_eq_some_iff.1 hb'
      obtain ⟨hi, hx'⟩ := List.getElem?_eq_some_iff.1 hx
      obtain ⟨hj, hy'⟩ := List.getElem?_eq_some_iff.1 hy
      have := List.pairwise_iff_getElem.1 hd a.2 b.2 hi hj hab
      simp only [hx, hy, Option.map_some, Option.getD_some]
      rw [← hx', ← hy']
      exact this

theorem last_split {α : Type} (p : α → Bool) : ∀ L : List α, (∀ y ∈ L, p y = false) ∨ ∃ A x B, L = A ++ x :: B ∧ p x = true ∧ ∀ y ∈ B, p y = false
  | [] => .inl (by simp)
  | x :: L => by
    rcases last_split p L with h | ⟨A, y, B, rfl, h1, h2⟩
    · cases hx : p x with
      | true => exact .inr ⟨[], x, L, rfl, hx, h⟩
      | false => exact .inl (by simp [hx]; exact h)
    · exact .inr ⟨x :: A, y, B, rfl, h1, h2⟩

/-- Covers a mark the i-th element, and has it this name? -/
def hits (i : Int) (n : ByteArray) (x : Mark) : Bool := decide ((x.lo ≤ i ∧ i < x.hi) ∧ x.op.name = n)
theorem fold_none (i : Int) (n : ByteArray) : ∀ (B : List Mark) (h : List (ByteArray × Atr)), (∀ y ∈ B, hits i n y = false) →
    aget (B.foldl (fun h x => if x.lo ≤ i ∧ i < x.hi then aset h x.op.name (⟨x.op.name, x.op.value⟩ : Atr) else h) h) n = aget h n
  | [], h, _ => rfl
  | x :: B, h, hy => by
    rw [List.foldl_cons, fold_none i n B _ (fun y hy' => hy y (List.mem_cons_of_mem _ hy'))]
    have hx := hy x (List.mem_cons_self ..)
    simp only [hits, decide_eq_false_iff_not] at hx
    split
    · rename_i hc
      exact aget_aset_other _ _ (fun e => hx ⟨hc, e⟩)
    · rfl
theorem hasM_none {i : Int} {n : ByteArray} {F : List Mark} (h : ∀ y ∈ F, hits i n y = false) : aget (hasM F i) n = none := by
  unfold hasM
  rw [fold_none i n F [] h]
  rfl
theorem hasM_last {i : Int} {n : ByteArray} {A B : List Mark} {x : Mark} (hx : hits i n x = true) (h : ∀ y ∈ B, hits i n y = false) : aget (hasM (A ++ x :: B) i) n = some ⟨x.op.name, x.op.value⟩ := by
  unfold hasM
  rw [List.foldl_append, List.foldl_cons, fold_none i n B _ h]
  simp only [hits, decide_eq_true_eq] at hx
  rw [if_pos hx.1, ← hx.2, aget_aset_same]

theorem hasM_win {l : List El} {ms : List OpD} {F : List Mark} (hF : StableOf stLt keyM (rawMarks (notedP (backXs l)) (backXs ms)) F) (i : Int) (n : ByteArray) (a : Atr) :
    aget (hasM F i) n = some a ↔ ∃ k o, Win l ms i n k o ∧ a = ⟨o.name, o.value⟩ := by
  rw [← rawI_fst] at hF
  obtain ⟨G, h1, h2, rfl⟩ := hF.carry (rawI_dec _ ms)
  have hmem : ∀ m k, (m, k) ∈ G ↔ ∃ o, ms[k]? = some o ∧ markOf (notedP (backXs l)) o = some m := fun m k => h1.mem_iff.trans rawI_mem
  have hhit : ∀ {m : Mark} {o : OpD}, markOf (notedP (backXs l)) o = some m → (hits i n m = true ↔ Cov l o i ∧ o.name = n) := fun {m o} hm => by
    unfold hits
    rw [decide_eq_true_eq, markOf_cov hm, markOf_op hm]
  rcases last_split (fun p : Mark × Nat => hits i n p.1) G with h | ⟨A, ⟨x, k⟩, B, rfl, hx, hB⟩
  · rw [hasM_none (fun y hy => by obtain ⟨p, hp, rfl⟩ := List.mem_map.1 hy; exact h p hp)]
    constructor
    · intro e; cases e
    · rintro ⟨k, o, ⟨w1, w2, w3, _⟩, _⟩
      obtain ⟨m, hm⟩ := cov_markOf w2
      have := h (m, k) ((hmem m k).2 ⟨o, w1, hm⟩)
      rw [(hhit hm).2 ⟨w2, w3⟩] at this
      cases this
  · rw [List.map_append, List.map_cons, hasM_last hx (fun y hy => by obtain ⟨p, hp, rfl⟩ := List.mem_map.1 hy; exact hB p hp)]
    obtain ⟨o, ho, hm⟩ := (hmem x k).1 (by simp)
    have hop := markOf_op hm
    have hxc := (hhit hm).1 hx
    have hw : Win l ms i n k o := by
      refine ⟨ho, hxc.1, hxc.2, fun j o' hj hc hn => ?_⟩
      obtain ⟨m', hm'⟩ := cov_markOf hc
      have hj' := (hmem m' j).2 ⟨o', hj, hm'⟩
      rw [List.mem_append, List.mem_cons] at hj'
      rcases hj' with hj' | hj' | hj'
      · have := (List.pairwise_append.1 h2).2.2 _ hj' _ (List.mem_cons_self ..)
        simp only [keyM, hop, markOf_op hm'] at this
        rcases this with t | ⟨t1, t2⟩
        · exact .inl t
        · exact .inr ⟨t1, by omega⟩
      · cases hj'
        rw [ho] at hj
        cases hj
        exact .inr ⟨rfl, Nat.le_refl _⟩
      · have := hB _ hj'
        rw [(hhit hm').2 ⟨hc, hn⟩] at this
        cases this
    rw [hop]
    constructor
    · intro e
      exact ⟨k, o, hw, (Option.some.inj e).symm⟩
    · rintro ⟨k', o', hw', rfl⟩
      obtain ⟨_, rfl⟩ := hw.unique hw'
      rfl

/-- By rising names, no name twice. -/
def StrictN (al : List Atr) : Prop := al.Pairwise fun a b => a.name.toList < b.name.toList
theorem sorted_unique {α : Type} {R : α → α → Prop} (irr : ∀ a, ¬ R a a) (tr : ∀ a b c, R a b → R b c → R a c) : ∀ {l l' : List α}, l.Pairwise R → l'.Pairwise R → (∀ x, x ∈ l ↔ x ∈ l') → l = l'
  | [], [], _, _, _ => rfl
  | [], y :: l', _, _, h => absurd ((h y).2 (List.mem_cons_self ..)) (by simp)
  | x :: l, [], _, _, h => absurd ((h x).1 (List.mem_cons_self ..)) (by simp)
  | x :: l, y :: l', h1, h2, h => by
    rw [List.pairwise_cons] at h1 h2
    have e : x = y := by
      rcases List.mem_cons.1 ((h x).1 (List.mem_cons_self ..)) with e | e
      · exact e
      · rcases List.mem_cons.1 ((h y).2 (List.mem_cons_self ..)) with e' | e'
        · exact e'.symm
        · exact absurd (tr _ _ _ (h2.1 x e) (h1.1 y e')) (irr _)
    subst e
    congr 1
    refine sorted_unique irr tr h1.2 h2.2 fun z => ?_
    constructor
    · intro hz
      rcases List.mem_cons.1 ((h z).1 (List.mem_cons_of_mem _ hz)) with e | e
      · rw [e] at hz; exact absurd (h1.1 x hz) (irr _)
      · exact e
    · intro hz
      rcases List.mem_cons.1 ((h z).2 (List.mem_cons_of_mem _ hz)) with e | e
      · rw [e] at hz; exact absurd (h2.1 x hz) (irr _)
      · exact e
theorem StrictN.unique {a b : List Atr} (ha : StrictN a) (hb : StrictN b) (h : ∀ x, x ∈ a ↔ x ∈ b) : a = b :=
  sorted_unique (R := fun a b : Atr => a.name.toList < b.name.toList) (fun a => List.lt_irrefl _) (fun _ _ _ h k => List.lt_trans h k) ha hb h

/-- What an element has: each name that a mark counts for, with its value, if there is one. -/
def HasL (l : List El) (ms : List OpD) (i : Int) (al : List Atr) : Prop := StrictN al ∧ ∀ a, a ∈ al ↔ a.value ≠ ⟨#[]⟩ ∧ ∃ k o, Win l ms i a.name k o ∧ a.value = o.value
theorem HasL.unique {l : List El} {ms : List OpD} {i : Int} {a b : List Atr} (ha : HasL l ms i a) (hb : HasL l ms i b) : a = b := ha.1.unique hb.1 fun x => (ha.2 x).trans (hb.2 x).symm

theorem attrs_hasL {l : List El} {ms : List OpD} {F : List Mark} (hF : StableOf stLt keyM (rawMarks (notedP (backXs l)) (backXs ms)) F) {i : Int} {al : List Atr} (h : AttrsAt F i al) (hk : (hasM F i).map (·.1) |>.Nodup) : HasL l ms i al := by
  obtain ⟨h1, h2⟩ := h
  have hwin := hasM_win hF i
  have hnm : ∀ p ∈ hasM F i, p.2.name = p.1 := fun p hp => by
    obtain ⟨k, o, hw, e⟩ := (hwin p.1 p.2).1 (aget_of_mem hk hp)
    rw [e]
    exact hw.2.2.1
  have hm : ∀ a, a ∈ al ↔ a.value ≠ ⟨#[]⟩ ∧ ∃ k o, Win l ms i a.name k o ∧ a.value = o.value := fun a => by
    rw [h1.mem_iff]
    unfold attrsH
    rw [List.mem_filter, List.mem_map, decide_eq_true_eq]
    constructor
    · rintro ⟨⟨p, hp, rfl⟩, hv⟩
      refine ⟨hv, ?_⟩
      obtain ⟨k, o, hw, e⟩ := (hwin p.1 p.2).1 (aget_of_mem hk hp)
      rw [hnm p hp]
      exact ⟨k, o, hw, by rw [e]⟩
    · rintro ⟨hv, k, o, hw, e⟩
      refine ⟨⟨(a.name, a), aget_mem ((hwin a.name a).2 ⟨k, o, hw, ?_⟩), rfl⟩, hv⟩
      obtain ⟨an, av⟩ := a
      have h3 := hw.2.2.1
      simp only at e h3 ⊢
      rw [e, h3]
  refine ⟨?_, hm⟩
  have hnd : (al.map (·.name)).Nodup := by
    rw [(h1.map (·.name)).nodup_iff]
    unfold attrsH
    have hs : (((hasM F i).map (·.2)).filter (fun a => decide (a.value ≠ ⟨#[]⟩))).map (·.name) |>.Sublist (((hasM F i).map (·.2)).map (·.name)) := (List.filter_sublist ..).map _
    refine hs.nodup ?_
    rw [List.map_map, show (hasM F i).map ((·.name) ∘ (·.2)) = (hasM F i).map (·.1) from List.map_congr_left hnm]
    exact hk
  have hp : al.Pairwise (fun a b => a.name ≠ b.name) := List.pairwise_map.1 hnd
  refine (h2.and hp).imp fun {a b} hab => ?_
  obtain ⟨x, y⟩ := hab
  simp only [ltOf, ltB, decide_eq_false_iff_not] at x
  exact Classical.byContradiction fun hn => y ((eq_bytes _ _).1 (list_total _ _ hn x))

end Go.Proofs.Ytlfmkoapddihcaa
