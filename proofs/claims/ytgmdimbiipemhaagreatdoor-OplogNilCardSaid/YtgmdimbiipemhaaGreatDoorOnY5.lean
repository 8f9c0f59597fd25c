/- OplogNil, part 5 of what the proof leans on (made short by a program). -/
import Derived.Test.YtgmdimbiipemhaaGreatDoorOnY4
import Derived.Test.YtgmdimbiipemhaaGreatDoorOnY2
import Derived.Deep.LoopGhost
import Derived.Deep.QuietTactic
import Derived.Deep.CutBlock
import Derived.Deep.DeepCutAuto
import Derived.Test.YtgmdimbiipemhaaGreatDoorOnY1
import Derived.Test.YtgmdimbiipemhaaGreatDoorOnY3
import Derived.ChangeKeysEq
import Derived.Laws.StructEq
import Derived.Laws.CopyRow
import Derived.Laws.Append
import Derived.OwnWalkIn
set_option linter.unusedSimpArgs false
set_option linter.unusedVariables false
set_option linter.unusedSectionVars false
namespace Go.Proofs.YtgmdimbiipemhaaGreatDoor
open Go.RowKit Go.Deep
def inI (x : Int) : Prop := -9223372036854775808 ≤ x ∧ x ≤ 9223372036854775807
theorem zigN_in {x : Int} : zigN x < 18446744073709551616 ↔ inI x := by
  unfold inI zigN
  split <;> omega
theorem sumsF_in : ∀ (l : List Int) (p : Int), ∀ x ∈ sumsF p l, inI x
  | [], p, x, h => by simp [sumsF] at h
  | y :: l, p, x, h => by
    rw [sumsF] at h
    rcases List.mem_cons.1 h with rfl | h
    · exact wrapI_in _
    · exact sumsF_in l _ x h
theorem sumsB_in {l : List Int} (h : ∀ x ∈ l, inI x) : ∀ x ∈ sumsB l, inI x := by
  intro x hx
  cases l with
  | nil => simp [sumsB] at hx
  | cons y l =>
    rw [sumsB] at hx
    rcases List.mem_cons.1 hx with rfl | hx
    · exact h _ (by simp)
    · exact sumsF_in l _ x hx
def colBy (d : Bool) (l : List Int) : List UInt8 := if d then runsB (diffsB l) else runsB l
theorem runsB_nil : runsB [] = [] := by rw [runsB]
theorem decR_all {n : Nat} (hn : n ≤ 65536) {b : List UInt8} {l : List Int} {u : Nat} : decR n none b = some (l, u) ↔ l.length = n ∧ (∀ x ∈ l, inI x) ∧ runsB l <+: b ∧ u = (runsB l).length := by
  rw [decR_iff n (by omega) none b l u]
  constructor
  · rintro (⟨h1, _, h2, h3, h4⟩ | ⟨h1, rfl, rfl⟩)
    · exact ⟨h1, fun x hx => zigN_in.1 (h2 x hx), h3, h4⟩
    · rw [runsB_nil]
      exact ⟨h1.symm, fun x hx => by simp at hx, List.nil_prefix, rfl⟩
  · rintro ⟨h1, h2, h3, h4⟩
    exact .inl ⟨h1, fun h => absurd rfl h, fun x hx => zigN_in.2 (h2 x hx), h3, h4⟩
theorem colD_all {n : Nat} (hn : n ≤ 65536) {d : Bool} {b : List UInt8} {l : List Int} {u : Nat} : colD n d b = some (l, u) ↔ l.length = n ∧ (∀ x ∈ l, inI x) ∧ colBy d l <+: b ∧ u = (colBy d l).length := by
  unfold colD colBy
  cases d with
  | false => exact decR_all hn
  | true =>
    simp only [if_true]
    unfold decD
    rw [Option.map_eq_some_iff]
    constructor
    · rintro ⟨⟨l0, u0⟩, h1, h2⟩
      cases h2
      obtain ⟨h3, h4, h5, h6⟩ := (decR_all hn).1 h1
      dsimp only
      rw [diffs_sums h4, sumsB_len]
      exact ⟨h3, sumsB_in h4, h5, h6⟩
    · rintro ⟨h1, h2, h3, h4⟩
      refine ⟨(diffsB l, u), (decR_all hn).2 ⟨by rw [diffsB_length]; exact h1, diffsB_in h2, h3, h4⟩, ?_⟩
      dsimp only
      rw [sums_diffs h2]
def colsOf (L : List (List Int)) : List UInt8 := (List.range L.length).flatMap fun c => colBy (dlt c) (L.getD c [])
theorem getD_snoc {α : Type} (L : List α) (x d : α) {c : Nat} (hc : c < L.length) : (L ++ [x]).getD c d = L.getD c d := by
  rw [List.getD_eq_getElem?_getD, List.getD_eq_getElem?_getD, List.getElem?_append_left hc]
theorem getD_last {α : Type} (L : List α) (x d : α) : (L ++ [x]).getD L.length d = x := by
  rw [List.getD_eq_getElem?_getD, List.getElem?_append_right (Nat.le_refl _), Nat.sub_self]
  rfl
theorem flatMap_congr8 {α β : Type} {f g : α → List β} : ∀ {l : List α}, (∀ x ∈ l, f x = g x) → l.flatMap f = l.flatMap g
  | [], _ => rfl
  | x :: l, h => by rw [List.flatMap_cons, List.flatMap_cons, h x (by simp), flatMap_congr8 (fun y hy => h y (by simp [hy]))]
theorem colsOf_snoc (L : List (List Int)) (l : List Int) : colsOf (L ++ [l]) = colsOf L ++ colBy (dlt L.length) l := by
  unfold colsOf
  rw [List.length_append, List.length_singleton, List.range_succ, List.flatMap_append, List.flatMap_cons, List.flatMap_nil, List.append_nil, getD_last]
  congr 1
  exact flatMap_congr8 fun c hc => by rw [getD_snoc _ _ _ (List.mem_range.1 hc)]
theorem prefix_drop {a b : List UInt8} (h : a <+: b) : b = a ++ b.drop a.length := by
  obtain ⟨t, rfl⟩ := h
  rw [List.drop_left]
theorem decCols_spec {n : Nat} (hn : n ≤ 65536) : ∀ {c : Nat} {b r : List UInt8} {L : List (List Int)}, decCols n c b = some (L, r) ↔ L.length = c ∧ (∀ l ∈ L, l.length = n ∧ ∀ x ∈ l, inI x) ∧ b = colsOf L ++ r
  | 0, b, r, L => by
    constructor
    · intro h
      cases h
      exact ⟨rfl, fun l hl => by simp at hl, rfl⟩
    · rintro ⟨h1, _, h2⟩
      rw [List.length_eq_zero_iff.1 h1] at h2 ⊢
      subst h2
      rfl
  | c + 1, b, r, L => by
    unfold decCols
    rw [Option.bind_eq_some_iff]
    constructor
    · rintro ⟨⟨L0, r0⟩, h1, h2⟩
      rw [Option.map_eq_some_iff] at h2
      obtain ⟨⟨l, u⟩, h3, h4⟩ := h2
      cases h4
      obtain ⟨a1, a2, a3⟩ := (decCols_spec hn).1 h1
      obtain ⟨b1, b2, b3, b4⟩ := (colD_all hn).1 h3
      subst a1
      refine ⟨by rw [List.length_append]; rfl, fun x hx => ?_, ?_⟩
      · rcases List.mem_append.1 hx with hx | hx
        · exact a2 x hx
        · rw [List.mem_singleton.1 hx]; exact ⟨b1, b2⟩
      · rw [colsOf_snoc, List.append_assoc, a3]
        congr 1
        dsimp only at b3 b4 ⊢
        rw [b4]
        exact prefix_drop b3
    · rintro ⟨h1, h2, h3⟩
      obtain ⟨L0, l, rfl⟩ : ∃ L0 l, L = L0 ++ [l] := by
        rcases List.eq_nil_or_concat L with rfl | ⟨L0, l, h⟩
        · simp at h1
        · exact ⟨L0, l, by rw [h, List.concat_eq_append]⟩
      rw [List.length_append, List.length_singleton] at h1
      have h1 : L0.length = c := by omega
      subst h1
      rw [colsOf_snoc, List.append_assoc] at h3
      refine ⟨(L0, colBy (dlt L0.length) l ++ r), (decCols_spec hn).2 ⟨rfl, fun x hx => h2 x (List.mem_append_left _ hx), h3⟩, ?_⟩
      have h4 := h2 l (by simp)
      rw [Option.map_eq_some_iff]
      refine ⟨(l, (colBy (dlt L0.length) l).length), (colD_all hn).2 ⟨h4.1, h4.2, List.prefix_append _ _, rfl⟩, ?_⟩
      dsimp only
      rw [List.drop_left]
theorem decT_all {n : Nat} (hn : n ≤ 65536) {b : List UInt8} {l : List Bool} {u : Nat} : decT n false true b = some (l, u) ↔ l.length = n ∧ boolsF false l <+: b ∧ u = (boolsF false l).length := by
  rw [decT_iff n (by omega) false true b l u]
  constructor
  · rintro ⟨h1, _, h2, h3⟩; exact ⟨h1, h2, h3⟩
  · rintro ⟨h1, h2, h3⟩; exact ⟨h1, fun h => absurd h (by decide), h2, h3⟩
theorem tkT_spec {n : Nat} (hn : n ≤ 65536) {p q : List OpD × List UInt8} : tkT n 2 p = some q ↔ ∃ V0 V1, V0.length = n ∧ V1.length = n ∧ q.1 = mixT 1 V1 n (mixT 0 V0 n p.1) ∧ p.2 = boolsF false V0 ++ (boolsF false V1 ++ q.2) := by
  have e : tkT n 2 p = (decT n false true p.2).bind fun t => (decT n false true (p.2.drop t.2)).map fun s => (mixT 1 s.1 n (mixT 0 t.1 n p.1), (p.2.drop t.2).drop s.2) := by
    unfold tkT tkT tkT
    rw [Option.bind_some]
    cases decT n false true p.2 with
    | none => rfl
    | some t => rfl
  rw [e, Option.bind_eq_some_iff]
  constructor
  · rintro ⟨⟨V0, u⟩, h1, h2⟩
    rw [Option.map_eq_some_iff] at h2
    obtain ⟨⟨V1, s⟩, h3, h4⟩ := h2
    subst h4
    obtain ⟨a1, a2, a3⟩ := (decT_all hn).1 h1
    obtain ⟨b1, b2, b3⟩ := (decT_all hn).1 h3
    refine ⟨V0, V1, a1, b1, rfl, ?_⟩
    dsimp only at a3 b2 b3 ⊢
    rw [b3, ← prefix_drop b2, a3]
    exact prefix_drop a2
  · rintro ⟨V0, V1, h1, h2, h3, h4⟩
    refine ⟨(V0, (boolsF false V0).length), (decT_all hn).2 ⟨h1, by rw [h4]; exact List.prefix_append _ _, rfl⟩, ?_⟩
    rw [Option.map_eq_some_iff]
    refine ⟨(V1, (boolsF false V1).length), (decT_all hn).2 ⟨h2, ?_, rfl⟩, ?_⟩
    · dsimp only
      rw [h4, List.drop_left]
      exact List.prefix_append _ _
    · dsimp only
      rw [h4, List.drop_left, List.drop_left, ← h3]
def sizX (X : List ByteArray) : List Int := X.map fun s => (s.size : Int)
def catX (X : List ByteArray) : List UInt8 := X.flatMap fun s => s.data.toList
theorem cutX_spec {v : List Int} : ∀ {i : Nat} {b r : List UInt8} {X : List ByteArray}, i ≤ v.length → (cutX v i b = some (X, r) ↔ v.take i = sizX X ∧ b = catX X ++ r)
  | 0, b, r, X, _ => by
    constructor
    · intro h
      cases h
      exact ⟨rfl, rfl⟩
    · rintro ⟨h1, h2⟩
      have : X = [] := by
        cases X with
        | nil => rfl
        | cons x X => simp [sizX] at h1
      subst this
      subst h2
      rfl
  | i + 1, b, r, X, hi => by
    unfold cutX
    rw [Option.bind_eq_some_iff]
    have hvi : v[i]? = some (v.getD i 0) := by rw [List.getD_eq_getElem?_getD, List.getElem?_eq_getElem (by omega)]; rfl
    have htk : v.take (i + 1) = v.take i ++ [v.getD i 0] := by rw [List.take_add_one, hvi]; rfl
    rw [htk]
    constructor
    · rintro ⟨⟨X0, r0⟩, h1, h2⟩
      split at h2
      · rename_i hc
        cases h2
        obtain ⟨a1, a2⟩ := (cutX_spec (by omega)).1 h1
        dsimp only at hc
        refine ⟨?_, ?_⟩
        · rw [a1, sizX, sizX, List.map_append]
          congr 1
          rw [List.map_cons, List.map_nil]
          congr 1
          show _ = (((r0.take (v.getD i 0).toNat).toArray.size : Nat) : Int)
          rw [List.size_toArray, List.length_take]
          omega
        · rw [a2, catX, catX, List.flatMap_append, List.append_assoc]
          congr 1
          simp
      · cases h2
    · rintro ⟨h1, h2⟩
      obtain ⟨X0, x, rfl⟩ : ∃ X0 x, X = X0 ++ [x] := by
        rcases List.eq_nil_or_concat X with rfl | ⟨X0, x, h⟩
        · simp [sizX] at h1
        · exact ⟨X0, x, by rw [h, List.concat_eq_append]⟩
      rw [sizX, List.map_append, List.map_cons, List.map_nil] at h1
      have h3 := List.append_inj' h1 rfl
      rw [catX, List.flatMap_append, List.append_assoc] at h2
      have hv : v.getD i 0 = (x.size : Int) := by
        have := h3.2
        simpa using this
      refine ⟨(X0, x.data.toList ++ r), (cutX_spec (by omega)).2 ⟨h3.1, by rw [h2]; simp [catX]⟩, ?_⟩
      have hs : x.data.toList.length = x.size := by rw [Array.length_toList]; rfl
      rw [hv]
      dsimp only
      rw [if_pos ⟨by omega, by rw [List.length_append]; omega⟩, Int.toNat_natCast, ← hs, List.take_left, List.drop_left]
theorem tkX1_spec {n c : Nat} (hn : n ≤ 65536) {p q : List OpD × List UInt8} : tkX1 n c p = some q ↔ ∃ X, X.length = n ∧ (∀ x ∈ sizX X, inI x) ∧ q.1 = mixX c X n p.1 ∧ p.2 = runsB (sizX X) ++ (catX X ++ q.2) := by
  unfold tkX1
  rw [Option.bind_eq_some_iff]
  constructor
  · rintro ⟨⟨v, u⟩, h1, h2⟩
    rw [Option.map_eq_some_iff] at h2
    obtain ⟨⟨X, r⟩, h3, h4⟩ := h2
    subst h4
    obtain ⟨a1, a2, a3, a4⟩ := (decR_all hn).1 h1
    obtain ⟨b1, b2⟩ := (cutX_spec (by dsimp only; omega)).1 h3
    dsimp only at b1 b2 a4 ⊢
    rw [← a1, List.take_length] at b1
    subst b1
    refine ⟨X, by rw [← a1, sizX, List.length_map], a2, rfl, ?_⟩
    rw [← b2, a4]
    exact prefix_drop a3
  · rintro ⟨X, h1, h2, h3, h4⟩
    have h5 : (sizX X).length = n := by rw [sizX, List.length_map]; exact h1
    refine ⟨(sizX X, (runsB (sizX X)).length), (decR_all hn).2 ⟨h5, h2, by rw [h4]; exact List.prefix_append _ _, rfl⟩, ?_⟩
    rw [Option.map_eq_some_iff]
    refine ⟨(X, q.2), (cutX_spec (by dsimp only; omega)).2 ⟨by dsimp only; rw [← h5, List.take_length], ?_⟩, by rw [← h3]⟩
    dsimp only
    rw [h4, List.drop_left]
def zOp : OpD := ⟨⟨0, 0⟩, 0, 0, 0, 0, 0, 0, 0, 0, 0, ⟨0, 0⟩, 0, 0, ⟨0, 0⟩, noText, noText, noText, ⟨0, 0⟩, false, ⟨0, 0⟩, false⟩
def fullO (L : List (List Int)) (V0 V1 : List Bool) (X0 X1 X2 : List ByteArray) (j : Nat) : OpD := (((((zOp.withF (colF L j)).setT 0 (V0.getD j false)).setT 1 (V1.getD j false)).setX 0 (X0.getD j noText)).setX 1 (X1.getD j noText)).setX 2 (X2.getD j noText)
theorem mixG_get (f : Nat → OpD → OpD) {n j : Nat} (hj : j < n) (ls : List OpD) : (mixG f n ls)[j]? = ls[j]?.map (f j) := by
  simp [mixG, hj]
theorem full_list (n : Nat) (L : List (List Int)) (V0 V1 : List Bool) (X0 X1 X2 : List ByteArray) : mixX 2 X2 n (mixX 1 X1 n (mixX 0 X0 n (mixT 1 V1 n (mixT 0 V0 n (mixN L n (List.replicate n zOp)))))) = (List.range n).map (fullO L V0 V1 X0 X1 X2) := by
  apply List.ext_getElem?
  intro j
  by_cases hj : j < n
  · unfold mixX mixT
    rw [mixN_G, mixG_get _ hj, mixG_get _ hj, mixG_get _ hj, mixG_get _ hj, mixG_get _ hj, mixG_get _ hj, List.getElem?_replicate_of_lt hj, List.getElem?_map, List.getElem?_range hj]
    rfl
  · rw [List.getElem?_eq_none, List.getElem?_eq_none]
    · simp; omega
    · unfold mixX mixT
      rw [mixG_len, mixG_len, mixG_len, mixG_len, mixG_len, mixN_len, List.length_replicate]
      omega
theorem fld_setX (o : OpD) (c k : Nat) (s : ByteArray) : fld (o.setX c s) k = fld o k := by
  unfold OpD.setX
  split
  · unfold fld; split <;> rfl
  · split <;> (unfold fld; split <;> rfl)
theorem fld_setT (o : OpD) (c k : Nat) (v : Bool) : fld (o.setT c v) k = fld o k := by
  unfold OpD.setT
  split <;> (unfold fld; split <;> rfl)
theorem fld_full (L : List (List Int)) (V0 V1 : List Bool) (X0 X1 X2 : List ByteArray) (j : Nat) {c : Nat} (hc : c < 21) : fld (fullO L V0 V1 X0 X1 X2 j) c = colF L j c := by
  unfold fullO
  rw [fld_setX, fld_setX, fld_setX, fld_setT, fld_setT, fld_withF _ _ hc]
theorem map_getD {α : Type} {l : List α} {n : Nat} (d : α) (h : l.length = n) : ((List.range n).map fun j => l.getD j d) = l := by
  apply List.ext_getElem?
  intro j
  by_cases hj : j < n
  · rw [List.getElem?_map, List.getElem?_range hj, Option.map_some, List.getD_eq_getElem?_getD, List.getElem?_eq_getElem (by omega)]
    rfl
  · rw [List.getElem?_eq_none (by simp; omega), List.getElem?_eq_none (by omega)]
theorem numC_full {n : Nat} {L : List (List Int)} (V0 V1 : List Bool) (X0 X1 X2 : List ByteArray) {c : Nat} (hc : c < 21) (hl : (L.getD c []).length = n) : numC ((List.range n).map (fullO L V0 V1 X0 X1 X2)) c = L.getD c [] := by
  unfold numC
  rw [List.map_map]
  refine Eq.trans (List.map_congr_left fun j _ => ?_) (map_getD 0 hl)
  show fld (fullO L V0 V1 X0 X1 X2 j) c = _
  rw [fld_full _ _ _ _ _ _ _ hc]
  rfl
theorem truC_full {n : Nat} (L : List (List Int)) {V0 V1 : List Bool} (X0 X1 X2 : List ByteArray) (h0 : V0.length = n) (h1 : V1.length = n) : truC ((List.range n).map (fullO L V0 V1 X0 X1 X2)) 0 = V0 ∧ truC ((List.range n).map (fullO L V0 V1 X0 X1 X2)) 1 = V1 := by
  unfold truC
  rw [List.map_map, List.map_map]
  exact ⟨map_getD false h0, map_getD false h1⟩
theorem txt_full {n : Nat} (L : List (List Int)) (V0 V1 : List Bool) {X0 X1 X2 : List ByteArray} (h0 : X0.length = n) (h1 : X1.length = n) (h2 : X2.length = n) :
    ((List.range n).map (fullO L V0 V1 X0 X1 X2)).map (fun o => txt o 0) = X0 ∧ ((List.range n).map (fullO L V0 V1 X0 X1 X2)).map (fun o => txt o 1) = X1 ∧ ((List.range n).map (fullO L V0 V1 X0 X1 X2)).map (fun o => txt o 2) = X2 := by
  rw [List.map_map, List.map_map, List.map_map]
  exact ⟨map_getD noText h0, map_getD noText h1, map_getD noText h2⟩
theorem lenC_X (l : List OpD) (c : Nat) : lenC l c = sizX (l.map fun o => txt o c) := by unfold lenC sizX; rw [List.map_map]; rfl
theorem catC_X (l : List OpD) (c : Nat) : catC l c = catX (l.map fun o => txt o c) := by unfold catC catX; rw [List.flatMap_map]
theorem numsB_cols {l : List OpD} {L : List (List Int)} (hL : L.length = 21) (h : ∀ c, c < 21 → numC l c = L.getD c []) : numsB l 21 = colsOf L := by
  unfold numsB colsOf
  rw [hL]
  exact flatMap_congr8 fun c hc => by unfold colB colBy; rw [h c (List.mem_range.1 hc)]
theorem encB_eq (l : List OpD) : encB l = putB l.length ++ (numsB l 21 ++ (boolsF false (truC l 0) ++ (boolsF false (truC l 1) ++ (runsB (lenC l 0) ++ (catC l 0 ++ (runsB (lenC l 1) ++ (catC l 1 ++ (runsB (lenC l 2) ++ catC l 2)))))))) := by
  unfold encB
  have h1 : trusB l 2 = boolsF false (truC l 0) ++ boolsF false (truC l 1) := by
    rw [trusB_succ, trusB_succ]; rfl
  have h2 : txtsB l 3 = runsB (lenC l 0) ++ (catC l 0 ++ (runsB (lenC l 1) ++ (catC l 1 ++ (runsB (lenC l 2) ++ catC l 2)))) := by
    rw [txtsB_succ, txtsB_succ, txtsB_succ]
    simp [txtsB]
  rw [h1, h2]
  simp only [List.append_assoc]
noncomputable def decChain (b : List UInt8) : Option (List OpD × List UInt8) :=
  (takeV b).bind fun n => if 200 < n then none else (decCols n 21 (b.drop (putB n).length)).bind fun p => (tkT n 2 (mixN p.1 n (List.replicate n zOp), p.2)).bind fun q => (tkX1 n 0 q).bind fun q => (tkX1 n 1 q).bind fun q => tkX1 n 2 q
theorem decChain_enc {b r : List UInt8} {l : List OpD} (h : decChain b = some (l, r)) : l.length ≤ 200 ∧ b = encB l ++ r ∧ ∀ x ∈ l, x.wf := by
  unfold decChain at h
  rw [Option.bind_eq_some_iff] at h
  obtain ⟨n, h0, h⟩ := h
  split at h
  · cases h
  rename_i hn
  rw [Option.bind_eq_some_iff] at h
  obtain ⟨⟨L, r1⟩, h1, h⟩ := h
  rw [Option.bind_eq_some_iff] at h
  obtain ⟨⟨l2, r2⟩, h2, h⟩ := h
  rw [Option.bind_eq_some_iff] at h
  obtain ⟨⟨l3, r3⟩, h3, h⟩ := h
  rw [Option.bind_eq_some_iff] at h
  obtain ⟨⟨l4, r4⟩, h4, h5⟩ := h
  have hn6 : n ≤ 65536 := by omega
  obtain ⟨a1, a2, a3⟩ := (decCols_spec hn6).1 h1
  obtain ⟨V0, V1, v0, v1, v2, v3⟩ := (tkT_spec hn6).1 h2
  obtain ⟨X0, x0, x1, x2, x3⟩ := (tkX1_spec hn6).1 h3
  obtain ⟨X1, y0, y1, y2, y3⟩ := (tkX1_spec hn6).1 h4
  obtain ⟨X2, z0, z1, z2, z3⟩ := (tkX1_spec hn6).1 h5
  dsimp only at v2 v3 x2 x3 y2 y3 z2 z3
  rw [v2] at x2
  rw [x2] at y2
  rw [y2] at z2
  rw [full_list] at z2
  have hln : l.length = n := by rw [z2]; simp
  have hnum : ∀ c, c < 21 → numC l c = L.getD c [] := fun c hc => by
    rw [z2]
    refine numC_full _ _ _ _ _ hc ?_
    obtain ⟨y, hy⟩ : ∃ y, L[c]? = some y := ⟨_, List.getElem?_eq_getElem (by omega)⟩
    rw [List.getD_eq_getElem?_getD, hy]
    exact (a2 y (List.mem_of_getElem? hy)).1
  obtain ⟨t0, t1⟩ := truC_full L X0 X1 X2 v0 v1
  obtain ⟨s0, s1, s2⟩ := txt_full L V0 V1 x0 y0 z0
  rw [← z2] at t0 t1 s0 s1 s2
  refine ⟨by omega, ?_, fun x hx => ⟨?_, fun c hc => ?_⟩⟩
  · rw [encB_eq, hln, numsB_cols a1 hnum, t0, t1, lenC_X, lenC_X, lenC_X, catC_X, catC_X, catC_X, s0, s1, s2]
    rw [prefix_drop (takeV_some.1 h0).2, a3, v3, x3, y3, z3]
    simp only [List.append_assoc]
  · have k0 := x1 (x.key.size : Int) (by rw [← s0]; exact List.mem_map.2 ⟨_, List.mem_map.2 ⟨x, hx, rfl⟩, rfl⟩)
    have k1 := y1 (x.name.size : Int) (by rw [← s1]; exact List.mem_map.2 ⟨_, List.mem_map.2 ⟨x, hx, rfl⟩, rfl⟩)
    have k2 := z1 (x.value.size : Int) (by rw [← s2]; exact List.mem_map.2 ⟨_, List.mem_map.2 ⟨x, hx, rfl⟩, rfl⟩)
    unfold inI at k0 k1 k2
    omega
  · have h6 := hnum c hc
    have h7 : fld x c ∈ L.getD c [] := by rw [← h6]; exact List.mem_map.2 ⟨x, hx, rfl⟩
    obtain ⟨y, hy⟩ : ∃ y, L[c]? = some y := ⟨_, List.getElem?_eq_getElem (by omega)⟩
    rw [List.getD_eq_getElem?_getD, hy] at h7
    exact (a2 y (List.mem_of_getElem? hy)).2 _ h7
theorem op_ext {o p : OpD} (h : ∀ c, c < 21 → fld o c = fld p c) (h1 : tru o 0 = tru p 0) (h2 : tru o 1 = tru p 1) (h3 : txt o 0 = txt p 0) (h4 : txt o 1 = txt p 1) (h5 : txt o 2 = txt p 2) : o = p := by
  have e0 := h 0 (by omega)
  have e1 := h 1 (by omega)
  have e2 := h 2 (by omega)
  have e3 := h 3 (by omega)
  have e4 := h 4 (by omega)
  have e5 := h 5 (by omega)
  have e6 := h 6 (by omega)
  have e7 := h 7 (by omega)
  have e8 := h 8 (by omega)
  have e9 := h 9 (by omega)
  have e10 := h 10 (by omega)
  have e11 := h 11 (by omega)
  have e12 := h 12 (by omega)
  have e13 := h 13 (by omega)
  have e14 := h 14 (by omega)
  have e15 := h 15 (by omega)
  have e16 := h 16 (by omega)
  have e17 := h 17 (by omega)
  have e18 := h 18 (by omega)
  have e19 := h 19 (by omega)
  have e20 := h 20 (by omega)
  obtain ⟨⟨a0, a1⟩, a2, a3, a4, a5, a6, a7, a8, a9, a10, ⟨a11, a12⟩, a13, a14, ⟨a15, a16⟩, s0, s1, s2, ⟨a17, a18⟩, t0, ⟨a19, a20⟩, t1⟩ := o
  obtain ⟨⟨b0, b1⟩, b2, b3, b4, b5, b6, b7, b8, b9, b10, ⟨b11, b12⟩, b13, b14, ⟨b15, b16⟩, u0, u1, u2, ⟨b17, b18⟩, v0, ⟨b19, b20⟩, v1⟩ := p
  simp only [fld, tru, txt] at *
  subst e0 e1 e2 e3 e4 e5 e6 e7 e8 e9 e10 e11 e12 e13 e14 e15 e16 e17 e18 e19 e20 h1 h2 h3 h4 h5
  rfl
theorem getD_map {α β : Type} (f : α → β) {l : List α} {j : Nat} {x : α} (d : β) (h : l[j]? = some x) : (l.map f).getD j d = f x := by
  rw [List.getD_eq_getElem?_getD, List.getElem?_map, h]
  rfl
theorem enc_decChain {b r : List UInt8} {l : List OpD} (hn : l.length ≤ 200) (hb : b = encB l ++ r) (hw : ∀ x ∈ l, x.wf) : decChain b = some (l, r) := by
  have hn6 : l.length ≤ 65536 := by omega
  have h0 : takeV b = some l.length := takeV_some.2 ⟨by omega, by rw [hb, encB_eq, List.append_assoc]; exact List.prefix_append _ _⟩
  have hd : b.drop (putB l.length).length = numsB l 21 ++ (boolsF false (truC l 0) ++ (boolsF false (truC l 1) ++ (runsB (lenC l 0) ++ (catC l 0 ++ (runsB (lenC l 1) ++ (catC l 1 ++ (runsB (lenC l 2) ++ (catC l 2 ++ r)))))))) := by
    rw [hb, encB_eq, List.append_assoc, List.drop_left]
    simp only [List.append_assoc]
  obtain ⟨L, hL⟩ : ∃ L, L = (List.range 21).map (numC l) := ⟨_, rfl⟩
  have hLl : L.length = 21 := by rw [hL]; simp
  have hLc : ∀ c, c < 21 → numC l c = L.getD c [] := fun c hc => by
    rw [hL, List.getD_eq_getElem?_getD, List.getElem?_map, List.getElem?_range hc]
    rfl
  have h1 : decCols l.length 21 (b.drop (putB l.length).length) = some (L, boolsF false (truC l 0) ++ (boolsF false (truC l 1) ++ (runsB (lenC l 0) ++ (catC l 0 ++ (runsB (lenC l 1) ++ (catC l 1 ++ (runsB (lenC l 2) ++ (catC l 2 ++ r)))))))) := by
    refine (decCols_spec hn6).2 ⟨hLl, fun y hy => ?_, by rw [hd, numsB_cols hLl hLc]⟩
    rw [hL] at hy
    obtain ⟨c, hc, rfl⟩ := List.mem_map.1 hy
    refine ⟨by unfold numC; rw [List.length_map], fun x hx => ?_⟩
    obtain ⟨o, ho, rfl⟩ := List.mem_map.1 hx
    exact (hw o ho).2 c (List.mem_range.1 hc)
  have h2 : tkT l.length 2 (mixN L l.length (List.replicate l.length zOp), boolsF false (truC l 0) ++ (boolsF false (truC l 1) ++ (runsB (lenC l 0) ++ (catC l 0 ++ (runsB (lenC l 1) ++ (catC l 1 ++ (runsB (lenC l 2) ++ (catC l 2 ++ r)))))))) = some (mixT 1 (truC l 1) l.length (mixT 0 (truC l 0) l.length (mixN L l.length (List.replicate l.length zOp))), runsB (lenC l 0) ++ (catC l 0 ++ (runsB (lenC l 1) ++ (catC l 1 ++ (runsB (lenC l 2) ++ (catC l 2 ++ r)))))) :=
    (tkT_spec hn6).2 ⟨truC l 0, truC l 1, by unfold truC; rw [List.length_map], by unfold truC; rw [List.length_map], rfl, rfl⟩
  have hsz : ∀ c, ∀ x ∈ sizX (l.map fun o => txt o c), inI x := fun c x hx => by
    rw [← lenC_X] at hx
    obtain ⟨o, ho, rfl⟩ := List.mem_map.1 hx
    have := (hw o ho).1
    unfold inI txt
    split <;> omega
  have hl3 : ∀ c, (l.map fun o => txt o c).length = l.length := fun c => List.length_map _
  have h3 := (tkX1_spec (n := l.length) (c := 0) (p := (mixT 1 (truC l 1) l.length (mixT 0 (truC l 0) l.length (mixN L l.length (List.replicate l.length zOp))), runsB (lenC l 0) ++ (catC l 0 ++ (runsB (lenC l 1) ++ (catC l 1 ++ (runsB (lenC l 2) ++ (catC l 2 ++ r))))))) (q := (mixX 0 (l.map fun o => txt o 0) l.length (mixT 1 (truC l 1) l.length (mixT 0 (truC l 0) l.length (mixN L l.length (List.replicate l.length zOp)))), runsB (lenC l 1) ++ (catC l 1 ++ (runsB (lenC l 2) ++ (catC l 2 ++ r))))) hn6).2 ⟨l.map fun o => txt o 0, hl3 0, hsz 0, rfl, by rw [← lenC_X, ← catC_X]⟩
  have h4 := (tkX1_spec (n := l.length) (c := 1) (p := (mixX 0 (l.map fun o => txt o 0) l.length (mixT 1 (truC l 1) l.length (mixT 0 (truC l 0) l.length (mixN L l.length (List.replicate l.length zOp)))), runsB (lenC l 1) ++ (catC l 1 ++ (runsB (lenC l 2) ++ (catC l 2 ++ r))))) (q := (mixX 1 (l.map fun o => txt o 1) l.length (mixX 0 (l.map fun o => txt o 0) l.length (mixT 1 (truC l 1) l.length (mixT 0 (truC l 0) l.length (mixN L l.length (List.replicate l.length zOp))))), runsB (lenC l 2) ++ (catC l 2 ++ r))) hn6).2 ⟨l.map fun o => txt o 1, hl3 1, hsz 1, rfl, by rw [← lenC_X, ← catC_X]⟩
  have h5 := (tkX1_spec (n := l.length) (c := 2) (p := (mixX 1 (l.map fun o => txt o 1) l.length (mixX 0 (l.map fun o => txt o 0) l.length (mixT 1 (truC l 1) l.length (mixT 0 (truC l 0) l.length (mixN L l.length (List.replicate l.length zOp))))), runsB (lenC l 2) ++ (catC l 2 ++ r))) (q := (mixX 2 (l.map fun o => txt o 2) l.length (mixX 1 (l.map fun o => txt o 1) l.length (mixX 0 (l.map fun o => txt o 0) l.length (mixT 1 (truC l 1) l.length (mixT 0 (truC l 0) l.length (mixN L l.length (List.replicate l.length zOp)))))), r)) hn6).2 ⟨l.map fun o => txt o 2, hl3 2, hsz 2, rfl, by rw [← lenC_X, ← catC_X]⟩
  unfold decChain
  rw [h0, Option.bind_some, if_neg (by omega), h1, Option.bind_some]
  dsimp only
  rw [h2, Option.bind_some]
  rw [h3, Option.bind_some]
  rw [h4, Option.bind_some]
  rw [h5, full_list]
  congr 2
  apply List.ext_getElem?
  intro j
  by_cases hj : j < l.length
  · rw [List.getElem?_map, List.getElem?_range hj, Option.map_some]
    obtain ⟨x, hx⟩ : ∃ x, l[j]? = some x := ⟨_, List.getElem?_eq_getElem hj⟩
    rw [hx]
    congr 1
    refine op_ext (fun c hc => ?_) ?_ ?_ ?_ ?_ ?_
    · rw [fld_full _ _ _ _ _ _ _ hc]
      unfold colF
      rw [← hLc c hc]
      exact getD_map _ _ hx
    · exact getD_map (fun o => tru o 0) false hx
    · exact getD_map (fun o => tru o 1) false hx
    · exact getD_map (fun o => txt o 0) noText hx
    · exact getD_map (fun o => txt o 1) noText hx
    · exact getD_map (fun o => txt o 2) noText hx
  · rw [List.getElem?_eq_none (by simp; omega), List.getElem?_eq_none (by omega)]
open Classical in
noncomputable def decB (b : List UInt8) : Option (List OpD) := (decChain b).bind fun q => if q.2 = [] ∧ ∀ x ∈ q.1, x.right = true then some q.1 else none
theorem decB_iff {b : List UInt8} {l : List OpD} : decB b = some l ↔ l.length ≤ 200 ∧ (∀ x ∈ l, x.right = true ∧ x.wf) ∧ encB l = b := by
  unfold decB
  rw [Option.bind_eq_some_iff]
  constructor
  · rintro ⟨⟨l0, r⟩, h1, h2⟩
    split at h2
    · rename_i hc
      cases h2
      obtain ⟨a1, a2, a3⟩ := decChain_enc h1
      refine ⟨a1, fun x hx => ⟨hc.2 x hx, a3 x hx⟩, ?_⟩
      have := hc.1
      dsimp only at this
      rw [a2, this, List.append_nil]
    · cases h2
  · rintro ⟨h1, h2, h3⟩
    exact ⟨(l, []), enc_decChain h1 (by rw [List.append_nil]; exact h3.symm) (fun x hx => (h2 x hx).2), by rw [if_pos ⟨rfl, fun x hx => (h2 x hx).1⟩]⟩
noncomputable def tkX (n : Nat) : Nat → List OpD × List UInt8 → Option (List OpD × List UInt8)
  | 0, p => some p
  | c + 1, p => (tkX n c p).bind (tkX1 n c)
theorem tkX_none {n c : Nat} {p : List OpD × List UInt8} (h : tkX n c p = none) : ∀ d, tkX n (c + d) p = none
  | 0 => h
  | d + 1 => by
    show (tkX n (c + d) p).bind _ = none
    rw [tkX_none h d]
    rfl
theorem tkX_step {n c : Nat} {p q : List OpD × List UInt8} (h : tkX n c p = some q) : tkX n (c + 1) p = tkX1 n c q := by
  show (tkX n c p).bind _ = _
  rw [h]
  rfl
theorem tkX_bad {n c : Nat} {p q : List OpD × List UInt8} (h : tkX n c p = some q) (k : tkX1 n c q = none) {d : Nat} (hd : c < d) : tkX n d p = none := by
  have := tkX_none ((tkX_step h).trans k) (d - (c + 1))
  rwa [show c + 1 + (d - (c + 1)) = d by omega] at this
theorem tkX1_len {n c : Nat} {p q : List OpD × List UInt8} (h : tkX1 n c p = some q) : q.1.length = p.1.length := by
  unfold tkX1 at h
  rw [Option.bind_eq_some_iff] at h
  obtain ⟨t, _, h2⟩ := h
  rw [Option.map_eq_some_iff] at h2
  obtain ⟨x, _, h4⟩ := h2
  rw [← h4]
  exact mixG_len _ _ _
theorem decChain_eq (b : List UInt8) : decChain b = (takeV b).bind fun n => if 200 < n then none else (decCols n 21 (b.drop (putB n).length)).bind fun p => (tkT n 2 (mixN p.1 n (List.replicate n zOp), p.2)).bind (tkX n 3) := by
  unfold decChain
  congr 1
  funext n
  split
  · rfl
  congr 1
  funext p
  congr 1
  funext q
  show _ = (((some q).bind (tkX1 n 0)).bind (tkX1 n 1)).bind (tkX1 n 2)
  rw [Option.bind_some, Option.bind_assoc]
theorem decB_none {b : List UInt8} (h : decChain b = none) : decB b = none := by
  unfold decB
  rw [h]
  rfl
theorem decB_none1 {b : List UInt8} (h : takeV b = none) : decB b = none := decB_none (by rw [decChain_eq, h]; rfl)
theorem decB_none2 {b : List UInt8} {n : Nat} (h : takeV b = some n) (hn : 200 < n) : decB b = none := decB_none (by rw [decChain_eq, h, Option.bind_some, if_pos hn])
theorem decB_none3 {b : List UInt8} {n : Nat} (h : takeV b = some n) (hn : ¬ 200 < n) (h2 : decCols n 21 (b.drop (putB n).length) = none) : decB b = none := decB_none (by rw [decChain_eq, h, Option.bind_some, if_neg hn, h2]; rfl)
theorem decB_none4 {b r : List UInt8} {n : Nat} {L : List (List Int)} (h : takeV b = some n) (hn : ¬ 200 < n) (h2 : decCols n 21 (b.drop (putB n).length) = some (L, r)) (h3 : tkT n 2 (mixN L n (List.replicate n zOp), r) = none) : decB b = none := decB_none (by rw [decChain_eq, h, Option.bind_some, if_neg hn, h2, Option.bind_some]; dsimp only; rw [h3]; rfl)
theorem decChain_all {b r : List UInt8} {n : Nat} {L : List (List Int)} {q : List OpD × List UInt8} (h : takeV b = some n) (hn : ¬ 200 < n) (h2 : decCols n 21 (b.drop (putB n).length) = some (L, r)) (h3 : tkT n 2 (mixN L n (List.replicate n zOp), r) = some q) : decChain b = tkX n 3 q := by
  rw [decChain_eq, h, Option.bind_some, if_neg hn, h2, Option.bind_some]
  dsimp only
  rw [h3, Option.bind_some]
theorem decB_of {b r : List UInt8} {l : List OpD} (h : decChain b = some (l, r)) (hr : ¬ (r = [] ∧ ∀ x ∈ l, x.right = true)) : decB b = none := by
  unfold decB
  rw [h, Option.bind_some, if_neg hr]
theorem decB_yes {b : List UInt8} {l : List OpD} (h : decChain b = some (l, [])) (hr : ∀ x ∈ l, x.right = true) : decB b = some l := by
  unfold decB
  rw [h, Option.bind_some, if_pos ⟨rfl, hr⟩]
set_option maxRecDepth 20000 in
set_option maxHeartbeats 1000000 in
theorem takebools_any (v : Value) (b : List UInt8) (n : Nat) (w : World) (h : SliceIs u8c 1 w v b) (hn0 : n ≤ 65536) : Calls Tryz.prog 156 #[v, .int .i64 n] w fun e w' => TbPost w b n e w' := by
  obtain ⟨a, cap, rfl, hcap, hmax, -⟩ := id h
  unfold maxLen at hmax
  have HH := Lib.hid h
  clear h
  have hn1 : ¬ (n : Int) < 0 := by omega
  have hn2 : ¬ (65536 : Int) < (n : Int) := by omega
  go_enter Tryz.func156, Tryz.ntmps156
  go_wp2_with fail
  go_loopg [7, 8, 9] (2 * n + 1) (fun g lv pv vv wr => ∃ (s : Sl) (l : List Bool) (p : Nat) (v : Bool), g = 2 * (n - l.length) + (if p = 0 then 1 else 0) ∧ lv = .slice s.a s.n s.cap ∧ pv = .int .i64 p ∧ vv = .bool v ∧ s.n = l.length ∧ l.length ≤ n ∧ p ≤ b.length ∧ Hid (TB b n l p v) ∧ Hid (Own btc 1 4 w.heap.size wr (.slice s.a s.n s.cap) l ∧ Below w.heap.size w wr))
  case atStart => exact ⟨⟨none, 0, 0⟩, [], 0, false, by simp, rfl, rfl, rfl, rfl, Nat.zero_le _, Nat.zero_le _, Lib.hid (TB.zero b n), Lib.hid ⟨Own.nil, Below.refl _ _⟩⟩
  case round =>
    obtain ⟨⟨sa, sn, sc⟩, l, p, v, hg, rfl, rfl, rfl, hsn, hln, hpb, HT, HU⟩ := hrel
    dsimp only at hsn HU ⊢
    subst hsn
    have HG := Lib.hid hg
    clear hg
    by_cases hlt : l.length < n
    · have hl1 : (l.length : Int) < (n : Int) := by omega
      obtain ⟨a1, c1, hsl, hS1, -⟩ := slice_from (P := Tryz.prog) (ea := u8c) Tryz.underlying22 size_u8 a b.length cap p hcap hpb
      have HS := Lib.hid (hS1 wr b rfl (HH.out.below HU.out.2))
      clear hS1
      go_wp2_with fail
      refine (take_any _ _ _ HS.out).mono ?_
      rintro e w5 ⟨rfl, e5⟩
      rw [← e5]
      clear e5 w5 HS
      cases hk : takeV (b.drop p) with
      | none =>
        have hr : takeR (b.drop p) = .tuple #[.int .u64 0, .int .i64 0, .int .i64 31] := by unfold takeR; rw [hk]
        have HD := Lib.hid (HT.out.bad hlt (.inl hk))
        rw [hr]
        clear hk hr hsl
        go_wp2_with fail
        go_ret3
        exact .inr ⟨HD.out, rfl, HU.out.2⟩
      | some k =>
        have hr : takeR (b.drop p) = .tuple #[.int .u64 k, .int .i64 (putB k).length, .int .i64 0] := by unfold takeR; rw [hk]
        have hk64 := (takeV_some.1 hk).1
        rw [hr]
        obtain ⟨q, hq⟩ : ∃ q, (putB k).length = q := ⟨_, rfl⟩
        rw [hq]
        obtain ⟨r, hrr⟩ : ∃ r : Nat, r = n - l.length := ⟨_, rfl⟩
        have hsub : (n : Int) - (l.length : Int) = (r : Int) := by omega
        by_cases hz : k = 0 ∧ p ≠ 0
        · obtain ⟨rfl, hp0⟩ := hz
          have hp4 : (0 : Int) < (p : Int) := by omega
          have HD := Lib.hid (HT.out.bad hlt (.inr ⟨0, hk, .inl ⟨rfl, hp0⟩⟩))
          clear hk hr hq hrr hp0 hsl
          go_wp2_with fail
          go_ret3
          exact .inr ⟨HD.out, rfl, HU.out.2⟩
        · have hz3 : ((k : Int) == 0) = false ∨ (((k : Int) == 0) = true ∧ ¬ (0 : Int) < (p : Int) ∧ decide (0 < p) = false) := by
            by_cases e : k = 0
            · have : p = 0 := Classical.byContradiction fun h => hz ⟨e, h⟩
              exact .inr ⟨by rw [e]; rfl, by omega, decide_eq_false (by omega)⟩
            · exact .inl (by have : ¬ (k : Int) = 0 := by omega
                             simpa using this)
          by_cases hkn : r < k
          · have hk1 : (r : Int) < (k : Int) := by omega
            have HD := Lib.hid (HT.out.bad hlt (.inr ⟨k, hk, .inr (by omega)⟩))
            clear hk hr hq hrr hkn hz hsl
            rcases hz3 with hz3 | ⟨hz3, hz4, hz5⟩
            all_goals
              go_wp2_with fail
              go_ret3
              exact .inr ⟨HD.out, rfl, HU.out.2⟩
          · have hk1 : ¬ (r : Int) < (k : Int) := by omega
            have HNX := Lib.hid (HT.out.step hlt hk hz (by omega))
            rw [hq] at HNX
            have hqp := (takeV_some.1 hk).2.length_le
            rw [hq, List.length_drop] at hqp
            have hq0 : 0 < q := by rw [← hq]; exact List.length_pos_iff.2 (putB_ne k)
            have HQ : Hid (0 < q ∧ p + q ≤ b.length) := Lib.hid ⟨hq0, by omega⟩
            have HKN : Hid (k ≤ n - l.length ∧ (k = 0 → p = 0)) := Lib.hid ⟨by omega, fun e => Classical.byContradiction fun h => hz ⟨e, h⟩⟩
            have hdk : decide (n - l.length < k) = false := decide_eq_false (by omega)
            have hk65 : k ≤ 65536 := by omega
            clear hk hr hq hqp hq0 hkn hz hsl hrr
            have hpq : IntKind.i64.wrap ((p : Int) + (q : Int)) = ((p + q : Nat) : Int) := by rw [IntWalk.i64_in _ (by have := HQ.out; omega)]; omega
            have HC := Lib.hid (repbt_any v wr.heap.size 1 k (wr.alloc (.cells #[.bool v] 4)) (bt_new wr v 0 _ rfl) hk65 (Nat.le_refl _))
            rcases hz3 with hz3 | ⟨hz3, hz4, hz5⟩
            all_goals
              go_wp2_with fail
              refine HC.out.mono ?_
              rintro e w6 ⟨v6, rfl, hown6, b6⟩
              have hb0 : Below w.heap.size w (wr.alloc (.cells #[.bool v] 4)) := HU.out.2.alloc HU.out.2.size _
              obtain ⟨⟨ta, tn, tc⟩, w7, hr7, own7, b7, hsz7⟩ := bools_append ((HU.out.1.alloc _).below1 b6) (hb0.trans (b6.mono hb0.size)) (hown6.slice btc_len) (Nat.le_trans hb0.size b6.size) (by rw [List.length_replicate]; omega)
              have HX := Lib.hid (And.intro own7 b7)
              have HTN := Lib.hid (own7.nlen btc_len).1
              clear own7 b7 hown6 b6 hb0 HC hsz7
              go_wp2_with (at_builtin; refine Lib.wpList_append_run _ rfl _ _ _ _ rfl _ _ rfl rfl _ _ hr7 ?_)
              go_roundg (2 * (n - (l ++ List.replicate k v).length) + (if p + q = 0 then 1 else 0))
              case measure => rw [HG.out, List.length_append, List.length_replicate, if_neg (by have := HQ.out; omega)]; have h1 := HKN.out; split <;> omega
              case rel => exact ⟨⟨ta, tn, tc⟩, l ++ List.replicate k v, p + q, !v, rfl, rfl, rfl, rfl, HTN.out, by rw [List.length_append, List.length_replicate]; have h1 := HKN.out.1; omega, HQ.out.2, HNX, HX⟩
    · have hll : l.length = n := by omega
      have hl1 : ¬ (l.length : Int) < (n : Int) := by omega
      have HD := Lib.hid (HT.out.done hll)
      clear hll hlt
      go_wp2_with fail
      go_ret3
      exact .inl ⟨l, p, _, HD.out, rfl, HU.out.1, HU.out.2⟩
theorem results_cell8 {fn : Func} {p : Tmp} {ty : TypeId} (h : fn.results = #[.cell p ty]) (tmps : Array Value) (P : Program) (w : World) :
    (results fn tmps).run P w = ((asAddr (tmps.getD p undef)).run P w).andThen fun a w₁ => (loadVar ty a).run P w₁ := by
  simp only [results, h]
  simp [Sem.run_bind, Result.andThen]
set_option maxRecDepth 20000 in
set_option maxHeartbeats 1000000 in
theorem truths_any (b off : Nat) (w : World) : Calls Tryz.prog 96 #[.pointer (some ⟨b, off, none⟩)] w fun e w' => e = .returned (.agg #[.pointer (some ⟨b, off + 22, none⟩), .pointer (some ⟨b, off + 25, none⟩)]) ∧ Below w.heap.size w w' := by
  go_enter Tryz.func96, Tryz.ntmps96
  go_upto_region 1 with fail
  have hb0 : Below w.heap.size w (w.alloc (.cells #[.pointer none, .pointer none] 168)).drew := ((Below.refl _ _).alloc (Nat.le_refl _) _).drew
  have ho0 : (w.alloc (.cells #[.pointer none, .pointer none] 168)).drew.heap[w.heap.size]? = some (.cells #[.pointer none, .pointer none] 168 (0, 0)) := heap_new8 w _
  have hS0 : (fun _ : World => True) (w.alloc (.cells #[.pointer none, .pointer none] 168)).drew := trivial
  refine wp_region_s (fun _ => True) (fun _ => false) (by kernel_rfl) ?_
  generalize (w.alloc (.cells #[.pointer none, .pointer none] 168)).drew = W1 at hS0 hb0 ho0 ⊢
  refine wpAnyS_take (i := 0) (d := some 3) rfl rfl rfl (by kernel_rfl) (by kernel_rfl) (by kernel_rfl) (by kernel_rfl) (fun _ _ _ h => h) (.inl ⟨by rfl, fun W hW => by go_simp; try rfl⟩) hS0 ?_
  try simp only [Act.put, List.setIfInBounds_toArray, List.set_cons_zero, List.set_cons_succ]
  refine wpAnyS_take (i := 1) (d := some 4) (v := .pointer (some ⟨b, off, none⟩)) rfl rfl rfl (by kernel_rfl) (by kernel_rfl) (by kernel_rfl) (by kernel_rfl) (fun _ _ _ h => h) (.inl ⟨by rfl, fun W hW => by go_simp; try rfl⟩) hS0 ?_
  try simp only [Act.put, List.setIfInBounds_toArray, List.set_cons_zero, List.set_cons_succ]
  refine wpAnyS_take (i := 2) (d := some 5) (v := .pointer (some ⟨b, off + 20, none⟩)) rfl rfl rfl (by kernel_rfl) (by kernel_rfl) (by kernel_rfl) (by kernel_rfl) (fun _ _ _ h => h) (.inl ⟨by rfl, fun W hW => by go_simp; try rfl⟩) hS0 ?_
  try simp only [Act.put, List.setIfInBounds_toArray, List.set_cons_zero, List.set_cons_succ]
  refine wpAnyS_take (i := 3) (d := some 6) (v := .pointer (some ⟨b, off + 22, none⟩)) rfl rfl rfl (by kernel_rfl) (by kernel_rfl) (by kernel_rfl) (by kernel_rfl) (fun _ _ _ h => h) (.inl ⟨by rfl, fun W hW => by go_simp; try rfl⟩) hS0 ?_
  try simp only [Act.put, List.setIfInBounds_toArray, List.set_cons_zero, List.set_cons_succ]
  refine wpAnyS_take (i := 4) (d := some 7) rfl rfl rfl (by kernel_rfl) (by kernel_rfl) (by kernel_rfl) (by kernel_rfl) (fun _ _ _ h => h) (.inl ⟨by rfl, fun W hW => by go_simp; try rfl⟩) hS0 ?_
  try simp only [Act.put, List.setIfInBounds_toArray, List.set_cons_zero, List.set_cons_succ]
  refine wpAnyS_take (i := 5) (d := some 8) (v := .pointer (some ⟨b, off, none⟩)) rfl rfl rfl (by kernel_rfl) (by kernel_rfl) (by kernel_rfl) (by kernel_rfl) (fun _ _ _ h => h) (.inl ⟨by rfl, fun W hW => by go_simp; try rfl⟩) hS0 ?_
  try simp only [Act.put, List.setIfInBounds_toArray, List.set_cons_zero, List.set_cons_succ]
  refine wpAnyS_take (i := 6) (d := some 9) (v := .pointer (some ⟨b, off + 23, none⟩)) rfl rfl rfl (by kernel_rfl) (by kernel_rfl) (by kernel_rfl) (by kernel_rfl) (fun _ _ _ h => h) (.inl ⟨by rfl, fun W hW => by go_simp; try rfl⟩) hS0 ?_
  try simp only [Act.put, List.setIfInBounds_toArray, List.set_cons_zero, List.set_cons_succ]
  refine wpAnyS_take (i := 7) (d := some 10) (v := .pointer (some ⟨b, off + 25, none⟩)) rfl rfl rfl (by kernel_rfl) (by kernel_rfl) (by kernel_rfl) (by kernel_rfl) (fun _ _ _ h => h) (.inl ⟨by rfl, fun W hW => by go_simp; try rfl⟩) hS0 ?_
  try simp only [Act.put, List.setIfInBounds_toArray, List.set_cons_zero, List.set_cons_succ]
  refine wpAnyS_take (i := 8) (d := some 11) (v := .agg #[.pointer (some ⟨b, off + 22, none⟩), .pointer (some ⟨b, off + 25, none⟩)]) rfl rfl rfl (by kernel_rfl) (by kernel_rfl) (by kernel_rfl) (by kernel_rfl) (fun _ _ _ h => h) (.inl ⟨by rfl, fun W hW => by go_simp; try rfl⟩) hS0 ?_
  try simp only [Act.put, List.setIfInBounds_toArray, List.set_cons_zero, List.set_cons_succ]
  have c0 : W1.cell? ⟨w.heap.size, 0, none⟩ = some (.pointer none) := by simp [World.cell?, ho0]
  have c1 : W1.cell? ⟨w.heap.size, 1, none⟩ = some (.pointer none) := by simp [World.cell?, ho0]
  have f0 : W1.frozen? ⟨w.heap.size, 0, none⟩ = false := by simp [World.frozen?, ho0]
  have f1 : W1.frozen? ⟨w.heap.size, 1, none⟩ = false := by simp [World.frozen?, ho0]
  refine wpAnyS_mute (i := 9) (d := none) (w' := ((W1.setCell ⟨w.heap.size, 0, none⟩ (.pointer (some ⟨b, off + 22, none⟩))).setCell ⟨w.heap.size, 1, none⟩ (.pointer (some ⟨b, off + 25, none⟩)))) (by kernel_rfl) rfl rfl (by rfl) (by go_simp; try rfl) (fun _ => trivial) ?_
  try simp only [Act.put, List.setIfInBounds_toArray, List.set_cons_zero, List.set_cons_succ]
  refine wpAnyS_done (by kernel_rfl) ?_ _
  have HB : Hid (Below w.heap.size w ((W1.setCell ⟨w.heap.size, 0, none⟩ (.pointer (some ⟨b, off + 22, none⟩))).setCell ⟨w.heap.size, 1, none⟩ (.pointer (some ⟨b, off + 25, none⟩)))) := Lib.hid ((hb0.setCell (p := ⟨w.heap.size, 0, none⟩) (Nat.le_refl _) (.pointer (some ⟨b, off + 22, none⟩))).setCell (p := ⟨w.heap.size, 1, none⟩) (Nat.le_refl _) (.pointer (some ⟨b, off + 25, none⟩)))
  clear hb0 hS0
  go_wp2_with fail
  refine bodyPost_ret (v := .agg #[.pointer (some ⟨b, off + 22, none⟩), .pointer (some ⟨b, off + 25, none⟩)]) (by rw [results_cell8 rfl]; go_simp) rfl ?_
  exact ⟨rfl, HB.out⟩
set_option maxRecDepth 20000 in
set_option maxHeartbeats 1000000 in
theorem texts_any (b off : Nat) (w : World) : Calls Tryz.prog 98 #[.pointer (some ⟨b, off, none⟩)] w fun e w' => e = .returned (.agg #[.pointer (some ⟨b, off + 17, none⟩), .pointer (some ⟨b, off + 18, none⟩), .pointer (some ⟨b, off + 19, none⟩)]) ∧ Below w.heap.size w w' := by
  go_enter Tryz.func98, Tryz.ntmps98
  go_upto_region 1 with fail
  have hb0 : Below w.heap.size w (w.alloc (.cells #[.pointer none, .pointer none, .pointer none] 172)).drew := ((Below.refl _ _).alloc (Nat.le_refl _) _).drew
  have ho0 : (w.alloc (.cells #[.pointer none, .pointer none, .pointer none] 172)).drew.heap[w.heap.size]? = some (.cells #[.pointer none, .pointer none, .pointer none] 172 (0, 0)) := heap_new8 w _
  have hS0 : (fun _ : World => True) (w.alloc (.cells #[.pointer none, .pointer none, .pointer none] 172)).drew := trivial
  refine wp_region_s (fun _ => True) (fun _ => false) (by kernel_rfl) ?_
  generalize (w.alloc (.cells #[.pointer none, .pointer none, .pointer none] 172)).drew = W1 at hS0 hb0 ho0 ⊢
  refine wpAnyS_take (i := 0) (d := some 3) rfl rfl rfl (by kernel_rfl) (by kernel_rfl) (by kernel_rfl) (by kernel_rfl) (fun _ _ _ h => h) (.inl ⟨by rfl, fun W hW => by go_simp; try rfl⟩) hS0 ?_
  try simp only [Act.put, List.setIfInBounds_toArray, List.set_cons_zero, List.set_cons_succ]
  refine wpAnyS_take (i := 1) (d := some 4) (v := .pointer (some ⟨b, off, none⟩)) rfl rfl rfl (by kernel_rfl) (by kernel_rfl) (by kernel_rfl) (by kernel_rfl) (fun _ _ _ h => h) (.inl ⟨by rfl, fun W hW => by go_simp; try rfl⟩) hS0 ?_
  try simp only [Act.put, List.setIfInBounds_toArray, List.set_cons_zero, List.set_cons_succ]
  refine wpAnyS_take (i := 2) (d := some 5) (v := .pointer (some ⟨b, off + 17, none⟩)) rfl rfl rfl (by kernel_rfl) (by kernel_rfl) (by kernel_rfl) (by kernel_rfl) (fun _ _ _ h => h) (.inl ⟨by rfl, fun W hW => by go_simp; try rfl⟩) hS0 ?_
  try simp only [Act.put, List.setIfInBounds_toArray, List.set_cons_zero, List.set_cons_succ]
  refine wpAnyS_take (i := 3) (d := some 6) rfl rfl rfl (by kernel_rfl) (by kernel_rfl) (by kernel_rfl) (by kernel_rfl) (fun _ _ _ h => h) (.inl ⟨by rfl, fun W hW => by go_simp; try rfl⟩) hS0 ?_
  try simp only [Act.put, List.setIfInBounds_toArray, List.set_cons_zero, List.set_cons_succ]
  refine wpAnyS_take (i := 4) (d := some 7) (v := .pointer (some ⟨b, off, none⟩)) rfl rfl rfl (by kernel_rfl) (by kernel_rfl) (by kernel_rfl) (by kernel_rfl) (fun _ _ _ h => h) (.inl ⟨by rfl, fun W hW => by go_simp; try rfl⟩) hS0 ?_
  try simp only [Act.put, List.setIfInBounds_toArray, List.set_cons_zero, List.set_cons_succ]
  refine wpAnyS_take (i := 5) (d := some 8) (v := .pointer (some ⟨b, off + 18, none⟩)) rfl rfl rfl (by kernel_rfl) (by kernel_rfl) (by kernel_rfl) (by kernel_rfl) (fun _ _ _ h => h) (.inl ⟨by rfl, fun W hW => by go_simp; try rfl⟩) hS0 ?_
  try simp only [Act.put, List.setIfInBounds_toArray, List.set_cons_zero, List.set_cons_succ]
  refine wpAnyS_take (i := 6) (d := some 9) rfl rfl rfl (by kernel_rfl) (by kernel_rfl) (by kernel_rfl) (by kernel_rfl) (fun _ _ _ h => h) (.inl ⟨by rfl, fun W hW => by go_simp; try rfl⟩) hS0 ?_
  try simp only [Act.put, List.setIfInBounds_toArray, List.set_cons_zero, List.set_cons_succ]
  refine wpAnyS_take (i := 7) (d := some 10) (v := .pointer (some ⟨b, off, none⟩)) rfl rfl rfl (by kernel_rfl) (by kernel_rfl) (by kernel_rfl) (by kernel_rfl) (fun _ _ _ h => h) (.inl ⟨by rfl, fun W hW => by go_simp; try rfl⟩) hS0 ?_
  try simp only [Act.put, List.setIfInBounds_toArray, List.set_cons_zero, List.set_cons_succ]
  refine wpAnyS_take (i := 8) (d := some 11) (v := .pointer (some ⟨b, off + 19, none⟩)) rfl rfl rfl (by kernel_rfl) (by kernel_rfl) (by kernel_rfl) (by kernel_rfl) (fun _ _ _ h => h) (.inl ⟨by rfl, fun W hW => by go_simp; try rfl⟩) hS0 ?_
  try simp only [Act.put, List.setIfInBounds_toArray, List.set_cons_zero, List.set_cons_succ]
  refine wpAnyS_take (i := 9) (d := some 12) (v := .agg #[.pointer (some ⟨b, off + 17, none⟩), .pointer (some ⟨b, off + 18, none⟩), .pointer (some ⟨b, off + 19, none⟩)]) rfl rfl rfl (by kernel_rfl) (by kernel_rfl) (by kernel_rfl) (by kernel_rfl) (fun _ _ _ h => h) (.inl ⟨by rfl, fun W hW => by go_simp; try rfl⟩) hS0 ?_
  try simp only [Act.put, List.setIfInBounds_toArray, List.set_cons_zero, List.set_cons_succ]
  have c0 : W1.cell? ⟨w.heap.size, 0, none⟩ = some (.pointer none) := by simp [World.cell?, ho0]
  have c1 : W1.cell? ⟨w.heap.size, 1, none⟩ = some (.pointer none) := by simp [World.cell?, ho0]
  have c2 : W1.cell? ⟨w.heap.size, 2, none⟩ = some (.pointer none) := by simp [World.cell?, ho0]
  have f0 : W1.frozen? ⟨w.heap.size, 0, none⟩ = false := by simp [World.frozen?, ho0]
  have f1 : W1.frozen? ⟨w.heap.size, 1, none⟩ = false := by simp [World.frozen?, ho0]
  have f2 : W1.frozen? ⟨w.heap.size, 2, none⟩ = false := by simp [World.frozen?, ho0]
  refine wpAnyS_mute (i := 10) (d := none) (w' := (((W1.setCell ⟨w.heap.size, 0, none⟩ (.pointer (some ⟨b, off + 17, none⟩))).setCell ⟨w.heap.size, 1, none⟩ (.pointer (some ⟨b, off + 18, none⟩))).setCell ⟨w.heap.size, 2, none⟩ (.pointer (some ⟨b, off + 19, none⟩)))) (by kernel_rfl) rfl rfl (by rfl) (by go_simp; try rfl) (fun _ => trivial) ?_
  try simp only [Act.put, List.setIfInBounds_toArray, List.set_cons_zero, List.set_cons_succ]
  refine wpAnyS_done (by kernel_rfl) ?_ _
  have HB : Hid (Below w.heap.size w (((W1.setCell ⟨w.heap.size, 0, none⟩ (.pointer (some ⟨b, off + 17, none⟩))).setCell ⟨w.heap.size, 1, none⟩ (.pointer (some ⟨b, off + 18, none⟩))).setCell ⟨w.heap.size, 2, none⟩ (.pointer (some ⟨b, off + 19, none⟩)))) := Lib.hid (((hb0.setCell (p := ⟨w.heap.size, 0, none⟩) (Nat.le_refl _) (.pointer (some ⟨b, off + 17, none⟩))).setCell (p := ⟨w.heap.size, 1, none⟩) (Nat.le_refl _) (.pointer (some ⟨b, off + 18, none⟩))).setCell (p := ⟨w.heap.size, 2, none⟩) (Nat.le_refl _) (.pointer (some ⟨b, off + 19, none⟩)))
  clear hb0 hS0
  go_wp2_with fail
  refine bodyPost_ret (v := .agg #[.pointer (some ⟨b, off + 17, none⟩), .pointer (some ⟨b, off + 18, none⟩), .pointer (some ⟨b, off + 19, none⟩)]) (by rw [results_cell8 rfl]; go_simp) rfl ?_
  exact ⟨rfl, HB.out⟩
def TakPost (w0 : World) (T : Nat) (tl : Value) (res : Option (List OpD × List UInt8)) (e : Ending) (w' : World) : Prop :=
  (∃ l2 r2 tb', res = some (l2, r2) ∧ e = .returned .nilIface ∧ TKS w0 T w' tb' r2 tl l2) ∨ (res = none ∧ (∃ s m, e = .returned (atErr s m)) ∧ Kp w0 T w')
theorem run_indexT (b off : Nat) : ∀ {c : Nat}, c < 2 → ∀ w : World, (Instr.index 168 (.agg #[.pointer (some ⟨b, off + 22, none⟩), .pointer (some ⟨b, off + 25, none⟩)]) (.int .i64 (c : Int))).run Tryz.prog w = .ok (.pointer (some ⟨b, off + offT c, none⟩)) w
  | 0, _, w => by kernel_rfl
  | 1, _, w => by kernel_rfl
  | n + 2, h, _ => absurd h (by omega)
theorem Own.notg {α β : Type} {ea : α → List Value} {q : Nat} {t : TypeId} {base base2 g : Nat} {W : World} {v v2 : Value} {m : List α} {eb : β → List Value} {q2 : Nat} {t2 : TypeId} {l : List β} (h : Own ea q t base W v m) (h2 : Own eb q2 t2 base2 W v2 l) (ht : t ≠ t2) (hg : v2.ownBlock = some g) (off : Nat) (u : Value) : Own ea q t base (W.setCell ⟨g, off, none⟩ u) v m :=
  h.ext ((Ext.refl (· = g) W).setCell (p := ⟨g, off, none⟩) (.inr rfl) _) (fun b hb e => by
    obtain ⟨c1, g1⟩ := h.tag hb
    obtain ⟨c2, g2⟩ := h2.tag hg
    rw [e, g2] at g1
    cases g1
    exact ht rfl)
theorem Own.notT {α : Type} {ea : α → List Value} {q : Nat} {t : TypeId} {base : Nat} {w0 : World} {T : Nat} {W : World} {tb tl : Value} {r : List UInt8} {ls : List OpD} {v : Value} {m : List α} (h : Own ea q t base W v m) (h2 : TKS w0 T W tb r tl ls) (ht : t ≠ 90) (off : Nat) (u : Value) : Own ea q t base (W.setCell ⟨T, off, none⟩ u) v m :=
  h.ext ((Ext.refl (· = T) W).setCell (p := ⟨T, off, none⟩) (.inr rfl) _) (fun b hb e => by
    obtain ⟨c1, g1⟩ := h.tag hb
    have g2 := h2.cell
    rw [e, g2] at g1
    cases g1
    exact ht rfl)
set_option maxRecDepth 20000 in
set_option maxHeartbeats 4000000 in
theorem taketruths_any (w0 : World) (T : Nat) (w : World) (tb tl : Value) (r : List UInt8) (ls : List OpD) (h : TKS w0 T w tb r tl ls) (hn : ls.length ≤ 200) : Calls Tryz.prog 105 #[.pointer (some ⟨T, 0, none⟩)] w fun e w' => TakPost w0 T tl (tkT ls.length 2 (ls, r)) e w' := by
  obtain ⟨⟨la, ln, lc⟩, el⟩ := h.own.sl
  dsimp only at el
  subst el
  obtain rfl : ln = ls.length := (h.own.nlen OpD.len).1
  have HT := Lib.hid h
  clear h
  go_enter Tryz.func105, Tryz.ntmps105
  go_wp2_with fail
  go_loopg [8] 2 (fun g kv wx => ∃ (k : Nat) (tb : Value) (ls2 : List OpD) (r2 : List UInt8), g = 2 - k ∧ kv = .int .i64 k ∧ k ≤ 2 ∧ Hid (tkT ls.length k (ls, r) = some (ls2, r2) ∧ TKS w0 T wx tb r2 (.slice la ls.length lc) ls2))
  case atStart => exact ⟨0, tb, ls, r, rfl, rfl, by omega, Lib.hid ⟨rfl, HT.out⟩⟩
  case round =>
    clear HT
    obtain ⟨k, tb1, ls2, r2, hg, rfl, hk, HR⟩ := hrel
    have HG := Lib.hid hg
    clear hg
    by_cases hlt : k < 2
    · have hk1 : (k : Int) < 2 := by omega
      obtain ⟨ta, tcap, rfl, htc, htm, -⟩ := id HR.out.2.byt
      unfold maxLen at htm
      have hc0 := HR.out.2.cell
      have HLN : Hid (ls2.length = ls.length) := Lib.hid (tkT_len HR.out.1)
      have hSW : (fun W : World => W.cell? ⟨T, 0, none⟩ = some (.slice ta r2.length tcap) ∧ W.cell? ⟨T, 1, none⟩ = some (.slice la ls.length lc)) wr.drew := ⟨by show World.cell? wr _ = _; simp [World.cell?, hc0], by show World.cell? wr _ = _; simp [World.cell?, hc0]⟩
      clear hc0
      go_upto_region 4 with fail
      refine wp_region_s (fun W : World => W.cell? ⟨T, 0, none⟩ = some (.slice ta r2.length tcap) ∧ W.cell? ⟨T, 1, none⟩ = some (.slice la ls.length lc)) (fun i => i == 16) (by kernel_rfl) ?_
      have HR1 : Hid (TKS w0 T wr.drew (.slice ta r2.length tcap) r2 (.slice la ls.length lc) ls2) := Lib.hid (HR.out.2.below (Below.refl _ _).drew)
      have HB1 : Hid (SliceIs u8c 1 wr.drew (.slice ta r2.length tcap) r2) := Lib.hid HR1.out.bytes
      generalize wr.drew = W1 at hSW HR1 HB1 ⊢
      refine wpAnyS_take (i := 0) (d := some 12) rfl rfl rfl (by kernel_rfl) (by kernel_rfl) (by kernel_rfl) (by kernel_rfl) (fun _ _ _ h => h) (.inl ⟨by rfl, fun W hW => by obtain ⟨q0, q1⟩ := hW; go_simp; try rfl⟩) hSW ?_
      try simp only [Act.put, List.setIfInBounds_toArray, List.set_cons_zero, List.set_cons_succ]
      refine wpAnyS_take (i := 1) (d := some 13) (v := .pointer (some ⟨T, 0, none⟩)) rfl rfl rfl (by kernel_rfl) (by kernel_rfl) (by kernel_rfl) (by kernel_rfl) (fun _ _ _ h => h) (.inl ⟨by rfl, fun W hW => by obtain ⟨q0, q1⟩ := hW; go_simp; try rfl⟩) hSW ?_
      try simp only [Act.put, List.setIfInBounds_toArray, List.set_cons_zero, List.set_cons_succ]
      refine wpAnyS_take (i := 2) (d := some 14) (v := .pointer (some ⟨T, 0, none⟩)) rfl rfl rfl (by kernel_rfl) (by kernel_rfl) (by kernel_rfl) (by kernel_rfl) (fun _ _ _ h => h) (.inl ⟨by rfl, fun W hW => by obtain ⟨q0, q1⟩ := hW; go_simp; try rfl⟩) hSW ?_
      try simp only [Act.put, List.setIfInBounds_toArray, List.set_cons_zero, List.set_cons_succ]
      refine wpAnyS_take (i := 3) (d := some 15) (v := .slice ta r2.length tcap) rfl rfl rfl (by kernel_rfl) (by kernel_rfl) (by kernel_rfl) (by kernel_rfl) (fun _ _ _ h => h) (.inl ⟨by rfl, fun W hW => by obtain ⟨q0, q1⟩ := hW; go_simp; try rfl⟩) hSW ?_
      try simp only [Act.put, List.setIfInBounds_toArray, List.set_cons_zero, List.set_cons_succ]
      refine wpAnyS_take (i := 4) (d := some 16) rfl rfl rfl (by kernel_rfl) (by kernel_rfl) (by kernel_rfl) (by kernel_rfl) (fun _ _ _ h => h) (.inl ⟨by rfl, fun W hW => by obtain ⟨q0, q1⟩ := hW; go_simp; try rfl⟩) hSW ?_
      try simp only [Act.put, List.setIfInBounds_toArray, List.set_cons_zero, List.set_cons_succ]
      refine wpAnyS_take (i := 5) (d := some 17) (v := .pointer (some ⟨T, 0, none⟩)) rfl rfl rfl (by kernel_rfl) (by kernel_rfl) (by kernel_rfl) (by kernel_rfl) (fun _ _ _ h => h) (.inl ⟨by rfl, fun W hW => by obtain ⟨q0, q1⟩ := hW; go_simp; try rfl⟩) hSW ?_
      try simp only [Act.put, List.setIfInBounds_toArray, List.set_cons_zero, List.set_cons_succ]
      refine wpAnyS_take (i := 6) (d := some 18) (v := .pointer (some ⟨T, 1, none⟩)) rfl rfl rfl (by kernel_rfl) (by kernel_rfl) (by kernel_rfl) (by kernel_rfl) (fun _ _ _ h => h) (.inl ⟨by rfl, fun W hW => by obtain ⟨q0, q1⟩ := hW; go_simp; try rfl⟩) hSW ?_
      try simp only [Act.put, List.setIfInBounds_toArray, List.set_cons_zero, List.set_cons_succ]
      refine wpAnyS_take (i := 7) (d := some 19) (v := .slice la ls.length lc) rfl rfl rfl (by kernel_rfl) (by kernel_rfl) (by kernel_rfl) (by kernel_rfl) (fun _ _ _ h => h) (.inl ⟨by rfl, fun W hW => by obtain ⟨q0, q1⟩ := hW; go_simp; try rfl⟩) hSW ?_
      try simp only [Act.put, List.setIfInBounds_toArray, List.set_cons_zero, List.set_cons_succ]
      refine wpAnyS_take (i := 8) (d := some 20) (v := .int .i64 ls.length) rfl rfl rfl (by kernel_rfl) (by kernel_rfl) (by kernel_rfl) (by kernel_rfl) (fun _ _ _ h => h) (.inl ⟨by rfl, fun W hW => by obtain ⟨q0, q1⟩ := hW; go_simp; try rfl⟩) hSW ?_
      try simp only [Act.put, List.setIfInBounds_toArray, List.set_cons_zero, List.set_cons_succ]
      refine wpAnyS_call (i := 9) (d := some 21) (f := 156) (args := #[.slice ta r2.length tcap, .int .i64 ls.length]) (w' := W1) (by kernel_rfl) rfl rfl (by rfl) (by go_simp; try rfl) ?_
      refine (takebools_any _ r2 ls.length _ HB1.out (by omega)).mono ?_
      rintro e w3 (⟨V, u, v, hdec, rfl, hown, hb⟩ | ⟨hdec, rfl, hb⟩)
      · have hS3 : (fun W : World => W.cell? ⟨T, 0, none⟩ = some (.slice ta r2.length tcap) ∧ W.cell? ⟨T, 1, none⟩ = some (.slice la ls.length lc)) w3 := ⟨(hb.cell (p := ⟨T, 0, none⟩) (cell_lt hSW.1)).trans hSW.1, (hb.cell (p := ⟨T, 1, none⟩) (cell_lt hSW.2)).trans hSW.2⟩
        have HR3 := Lib.hid (HR1.out.below hb)
        refine ⟨_, rfl, fun _ => hS3, ?_⟩
        try simp only [Act.put, List.setIfInBounds_toArray, List.set_cons_zero, List.set_cons_succ]
        refine wpAnyS_take (i := 10) (d := some 11) (v := .tuple #[v, .int .i64 (u : Nat), .int .i64 0]) rfl rfl rfl (by kernel_rfl) (by kernel_rfl) (by kernel_rfl) (by kernel_rfl) (fun _ _ _ h => h) (.inl ⟨by rfl, fun W hW => by obtain ⟨q0, q1⟩ := hW; go_simp; try rfl⟩) hS3 ?_
        try simp only [Act.put, List.setIfInBounds_toArray, List.set_cons_zero, List.set_cons_succ]
        refine wpAnyS_take (i := 11) (d := some 22) (v := v) rfl rfl rfl (by kernel_rfl) (by kernel_rfl) (by kernel_rfl) (by kernel_rfl) (fun _ _ _ h => h) (.inl ⟨by rfl, fun W hW => by obtain ⟨q0, q1⟩ := hW; go_simp; try rfl⟩) hS3 ?_
        try simp only [Act.put, List.setIfInBounds_toArray, List.set_cons_zero, List.set_cons_succ]
        refine wpAnyS_take (i := 12) (d := some 23) (v := .int .i64 (u : Nat)) rfl rfl rfl (by kernel_rfl) (by kernel_rfl) (by kernel_rfl) (by kernel_rfl) (fun _ _ _ h => h) (.inl ⟨by rfl, fun W hW => by obtain ⟨q0, q1⟩ := hW; go_simp; try rfl⟩) hS3 ?_
        try simp only [Act.put, List.setIfInBounds_toArray, List.set_cons_zero, List.set_cons_succ]
        refine wpAnyS_take (i := 13) (d := some 24) (v := .int .i64 0) rfl rfl rfl (by kernel_rfl) (by kernel_rfl) (by kernel_rfl) (by kernel_rfl) (fun _ _ _ h => h) (.inl ⟨by rfl, fun W hW => by obtain ⟨q0, q1⟩ := hW; go_simp; try rfl⟩) hS3 ?_
        try simp only [Act.put, List.setIfInBounds_toArray, List.set_cons_zero, List.set_cons_succ]
        refine wpAnyS_take (i := 14) (d := some 4) (v := v) rfl rfl rfl (by kernel_rfl) (by kernel_rfl) (by kernel_rfl) (by kernel_rfl) (fun _ _ _ h => h) (.inl ⟨by rfl, fun W hW => by obtain ⟨q0, q1⟩ := hW; go_simp; try rfl⟩) hS3 ?_
        try simp only [Act.put, List.setIfInBounds_toArray, List.set_cons_zero, List.set_cons_succ]
        refine wpAnyS_take (i := 15) (d := some 5) (v := .int .i64 (u : Nat)) rfl rfl rfl (by kernel_rfl) (by kernel_rfl) (by kernel_rfl) (by kernel_rfl) (fun _ _ _ h => h) (.inl ⟨by rfl, fun W hW => by obtain ⟨q0, q1⟩ := hW; go_simp; try rfl⟩) hS3 ?_
        try simp only [Act.put, List.setIfInBounds_toArray, List.set_cons_zero, List.set_cons_succ]
        refine wpAnyS_ran (i := 16) (d := some 6) (v := .int .i64 0) (w' := w3) (by kernel_rfl) rfl rfl (by rfl) (by go_simp; try rfl) (fun h => by cases h) ?_
        try simp only [Act.put, List.setIfInBounds_toArray, List.set_cons_zero, List.set_cons_succ]
        refine wpAnyS_done (by kernel_rfl) ?_ _
        clear hS3 hSW
        have HDEC := Lib.hid hdec
        clear hdec
        have hcf := decT_facts (by omega) HDEC.out
        have hul := hcf.2
        obtain ⟨⟨pa, pn, pc⟩, ep⟩ := hown.sl
        dsimp only at ep
        subst ep
        obtain rfl : pn = ls.length := by have h := (hown.nlen btc_len).1; rw [hcf.1] at h; exact h
        have HVL : Hid (V.length = ls.length) := Lib.hid hcf.1
        have HOWN : Hid (Own btc 1 4 w0.heap.size w3 (.slice pa ls.length pc) V) := Lib.hid (hown.mono HR1.out.bel.size)
        obtain ⟨a1, c1, hsl, hS1, -⟩ := slice_from (P := Tryz.prog) (ea := u8c) Tryz.underlying22 size_u8 ta r2.length tcap u htc hul
        have HBY := Lib.hid (hS1 w0 r2 rfl HR3.out.byt)
        have hc3 := HR3.out.cell
        have cT : w3.cell? ⟨T, 0, none⟩ = some (.slice ta r2.length tcap) := by simp [World.cell?, hc3]
        have cT1 : w3.cell? ⟨T, 1, none⟩ = some (.slice la ls.length lc) := by simp [World.cell?, hc3]
        have fT : w3.frozen? ⟨T, 0, none⟩ = false := by simp [World.frozen?, hc3]
        have HN0 : Hid (TKS w0 T (w3.setCell ⟨T, 0, none⟩ (.slice a1 (r2.length - u) c1)) (.slice a1 (r2.length - u) c1) (r2.drop u) (.slice la ls.length lc) (mixT k V 0 ls2) ∧ Own btc 1 4 w0.heap.size (w3.setCell ⟨T, 0, none⟩ (.slice a1 (r2.length - u) c1)) (.slice pa ls.length pc) V) := Lib.hid ⟨by unfold mixT; rw [mixG_zero]; exact HR3.out.setB HBY.out, HOWN.out.notT HR3.out (by decide) _ _⟩
        have HST := Lib.hid (tkT_step HR.out.1 HDEC.out)
        clear hown hcf hS1 hc3 HOWN HR HR1 HB1 HR3 HBY
        go_wp2_with fail
        clear cT cT1 fT hsl
        go_loopg [45] ls.length (fun g kv wx => ∃ i : Nat, g = ls.length - i ∧ kv = .int .i64 i ∧ i ≤ ls.length ∧ Hid (TKS w0 T wx (.slice a1 (r2.length - u) c1) (r2.drop u) (.slice la ls.length lc) (mixT k V i ls2) ∧ Own btc 1 4 w0.heap.size wx (.slice pa ls.length pc) V))
        case atStart => exact ⟨0, rfl, rfl, by omega, HN0⟩
        case round =>
          clear HN0
          obtain ⟨i, hg2, rfl, hi, HI⟩ := hrel
          have HG2 := Lib.hid hg2
          clear hg2
          by_cases hli : i < ls.length
          · have hi1 : (i : Int) < (ls.length : Int) := by omega
            have hi0 : (0 : Int) ≤ (i : Int) := by omega
            obtain ⟨x, hx⟩ : ∃ x, ls2[i]? = some x := ⟨_, List.getElem?_eq_getElem (by rw [HLN.out]; exact hli)⟩
            have HX := Lib.hid hx
            clear hx
            obtain ⟨y, hy⟩ : ∃ y, V[i]? = some y := ⟨_, List.getElem?_eq_getElem (by rw [HVL.out]; exact hli)⟩
            have HY := Lib.hid hy
            clear hy
            obtain ⟨g, cap, e, hg1, hg3⟩ := HI.out.1.own.eq_slice.resolve_left (fun e => by have h2 := e.2; have h3 := mixG_len (fun j o => o.setT k (V.getD j false)) i ls2; rw [show mixG (fun j o => o.setT k (V.getD j false)) i ls2 = [] from h2, HLN.out] at h3; simp at h3; omega)
            injection e with e1 e2 e3
            subst e1 e3
            clear e2
            obtain ⟨vb, vo, ev, cv⟩ := (HI.out.2.slice btc_len).at1 HY.out rfl
            cases ev
            have hc0 := HI.out.1.cell
            have hSW : (fun W : World => W.cell? ⟨T, 1, none⟩ = some (.slice (some ⟨g, 0, none⟩) ls.length lc) ∧ W.cell? ⟨vb, vo + i, none⟩ = some (.bool y)) wr.drew := ⟨by show World.cell? wr _ = _; simp [World.cell?, hc0], cv⟩
            have hix := fun W : World => run_indexT g (i * 26) hlt W
            clear hc0 cv
            go_upto_region 11 with fail
            refine wp_region_s (fun W : World => W.cell? ⟨T, 1, none⟩ = some (.slice (some ⟨g, 0, none⟩) ls.length lc) ∧ W.cell? ⟨vb, vo + i, none⟩ = some (.bool y)) (fun i => i == 14) (by kernel_rfl) ?_
            have HI1 : Hid (TKS w0 T wr.drew (.slice a1 (r2.length - u) c1) (r2.drop u) (.slice (some ⟨g, 0, none⟩) ls.length lc) (mixT k V i ls2) ∧ Own btc 1 4 w0.heap.size wr.drew (.slice (some ⟨vb, vo, none⟩) ls.length pc) V) := Lib.hid ⟨HI.out.1.below (Below.refl _ _).drew, HI.out.2.below1 (Below.refl _ _).drew⟩
            generalize wr.drew = W2 at hSW HI1 ⊢
            refine wpAnyS_take (i := 0) (d := some 48) rfl rfl rfl (by kernel_rfl) (by kernel_rfl) (by kernel_rfl) (by kernel_rfl) (fun _ _ _ h => h) (.inl ⟨by rfl, fun W hW => by obtain ⟨q0, q1⟩ := hW; go_simp; try rfl⟩) hSW ?_
            try simp only [Act.put, List.setIfInBounds_toArray, List.set_cons_zero, List.set_cons_succ]
            refine wpAnyS_take (i := 1) (d := some 49) (v := .pointer (some ⟨T, 0, none⟩)) rfl rfl rfl (by kernel_rfl) (by kernel_rfl) (by kernel_rfl) (by kernel_rfl) (fun _ _ _ h => h) (.inl ⟨by rfl, fun W hW => by obtain ⟨q0, q1⟩ := hW; go_simp; try rfl⟩) hSW ?_
            try simp only [Act.put, List.setIfInBounds_toArray, List.set_cons_zero, List.set_cons_succ]
            refine wpAnyS_take (i := 2) (d := some 50) (v := .pointer (some ⟨T, 1, none⟩)) rfl rfl rfl (by kernel_rfl) (by kernel_rfl) (by kernel_rfl) (by kernel_rfl) (fun _ _ _ h => h) (.inl ⟨by rfl, fun W hW => by obtain ⟨q0, q1⟩ := hW; go_simp; try rfl⟩) hSW ?_
            try simp only [Act.put, List.setIfInBounds_toArray, List.set_cons_zero, List.set_cons_succ]
            refine wpAnyS_take (i := 3) (d := some 51) (v := .slice (some ⟨g, 0, none⟩) ls.length lc) rfl rfl rfl (by kernel_rfl) (by kernel_rfl) (by kernel_rfl) (by kernel_rfl) (fun _ _ _ h => h) (.inl ⟨by rfl, fun W hW => by obtain ⟨q0, q1⟩ := hW; go_simp; try rfl⟩) hSW ?_
            try simp only [Act.put, List.setIfInBounds_toArray, List.set_cons_zero, List.set_cons_succ]
            refine wpAnyS_take (i := 4) (d := some 52) (v := .int .i64 i) rfl rfl rfl (by kernel_rfl) (by kernel_rfl) (by kernel_rfl) (by kernel_rfl) (fun _ _ _ h => h) (.inl ⟨by rfl, fun W hW => by obtain ⟨q0, q1⟩ := hW; go_simp; try rfl⟩) hSW ?_
            try simp only [Act.put, List.setIfInBounds_toArray, List.set_cons_zero, List.set_cons_succ]
            refine wpAnyS_take (i := 5) (d := some 53) (v := .pointer (some ⟨g, i * 26, none⟩)) rfl rfl rfl (by kernel_rfl) (by kernel_rfl) (by kernel_rfl) (by kernel_rfl) (fun _ _ _ h => h) (.inl ⟨by rfl, fun W hW => by obtain ⟨q0, q1⟩ := hW; go_simp; try rfl⟩) hSW ?_
            try simp only [Act.put, List.setIfInBounds_toArray, List.set_cons_zero, List.set_cons_succ]
            refine wpAnyS_take (i := 7) (d := some 55) (v := .int .i64 k) rfl rfl rfl (by kernel_rfl) (by kernel_rfl) (by kernel_rfl) (by kernel_rfl) (fun _ _ _ h => h) (.inl ⟨by rfl, fun W hW => by obtain ⟨q0, q1⟩ := hW; go_simp; try rfl⟩) hSW ?_
            try simp only [Act.put, List.setIfInBounds_toArray, List.set_cons_zero, List.set_cons_succ]
            refine wpAnyS_take (i := 9) (d := some 57) (v := .slice (some ⟨vb, vo, none⟩) ls.length pc) rfl rfl rfl (by kernel_rfl) (by kernel_rfl) (by kernel_rfl) (by kernel_rfl) (fun _ _ _ h => h) (.inl ⟨by rfl, fun W hW => by obtain ⟨q0, q1⟩ := hW; go_simp; try rfl⟩) hSW ?_
            try simp only [Act.put, List.setIfInBounds_toArray, List.set_cons_zero, List.set_cons_succ]
            refine wpAnyS_take (i := 10) (d := some 58) (v := .int .i64 i) rfl rfl rfl (by kernel_rfl) (by kernel_rfl) (by kernel_rfl) (by kernel_rfl) (fun _ _ _ h => h) (.inl ⟨by rfl, fun W hW => by obtain ⟨q0, q1⟩ := hW; go_simp; try rfl⟩) hSW ?_
            try simp only [Act.put, List.setIfInBounds_toArray, List.set_cons_zero, List.set_cons_succ]
            refine wpAnyS_take (i := 11) (d := some 59) (v := .pointer (some ⟨vb, vo + i, none⟩)) rfl rfl rfl (by kernel_rfl) (by kernel_rfl) (by kernel_rfl) (by kernel_rfl) (fun _ _ _ h => h) (.inl ⟨by rfl, fun W hW => by obtain ⟨q0, q1⟩ := hW; go_simp; try rfl⟩) hSW ?_
            try simp only [Act.put, List.setIfInBounds_toArray, List.set_cons_zero, List.set_cons_succ]
            refine wpAnyS_take (i := 12) (d := some 60) (v := .bool y) rfl rfl rfl (by kernel_rfl) (by kernel_rfl) (by kernel_rfl) (by kernel_rfl) (fun _ _ _ h => h) (.inl ⟨by rfl, fun W hW => by obtain ⟨q0, q1⟩ := hW; go_simp; try rfl⟩) hSW ?_
            try simp only [Act.put, List.setIfInBounds_toArray, List.set_cons_zero, List.set_cons_succ]
            refine wpAnyS_call (i := 6) (d := some 54) (f := 96) (args := #[.pointer (some ⟨g, i * 26, none⟩)]) (w' := W2) (by kernel_rfl) rfl rfl (by rfl) (by go_simp; try rfl) ?_
            refine (truths_any g (i * 26) W2).mono ?_
            rintro e w4 ⟨rfl, hb4⟩
            have hS4 : (fun W : World => W.cell? ⟨T, 1, none⟩ = some (.slice (some ⟨g, 0, none⟩) ls.length lc) ∧ W.cell? ⟨vb, vo + i, none⟩ = some (.bool y)) w4 := ⟨(hb4.cell (p := ⟨T, 1, none⟩) (cell_lt hSW.1)).trans hSW.1, (hb4.cell (p := ⟨vb, vo + i, none⟩) (cell_lt hSW.2)).trans hSW.2⟩
            have HI4 := Lib.hid (And.intro (HI1.out.1.below hb4) (HI1.out.2.below1 hb4))
            refine ⟨_, rfl, fun _ => hS4, ?_⟩
            try simp only [Act.put, List.setIfInBounds_toArray, List.set_cons_zero, List.set_cons_succ]
            refine wpAnyS_take (i := 8) (d := some 56) (v := .pointer (some ⟨g, i * 26 + offT k, none⟩)) rfl rfl rfl (by kernel_rfl) (by kernel_rfl) (by kernel_rfl) (by kernel_rfl) (fun _ _ _ h => h) (.inl ⟨by rfl, fun W hW => by obtain ⟨q0, q1⟩ := hW; go_simp; try rfl⟩) hS4 ?_
            try simp only [Act.put, List.setIfInBounds_toArray, List.set_cons_zero, List.set_cons_succ]
            refine wpAnyS_take (i := 13) (d := some 61) (v := .pointer (some ⟨g, i * 26 + offT k, none⟩)) rfl rfl rfl (by kernel_rfl) (by kernel_rfl) (by kernel_rfl) (by kernel_rfl) (fun _ _ _ h => h) (.inl ⟨by rfl, fun W hW => by obtain ⟨q0, q1⟩ := hW; go_simp; try rfl⟩) hS4 ?_
            try simp only [Act.put, List.setIfInBounds_toArray, List.set_cons_zero, List.set_cons_succ]
            have hln : ls.length = (mixT k V i ls2).length := by unfold mixT; rw [mixG_len]; exact HLN.out.symm
            have hk4 := HI4.out.1
            rw [hln] at hk4
            obtain ⟨u0, hu0⟩ : ∃ u0, x.cells[offT k]? = some u0 := ⟨_, List.getElem?_eq_getElem (by rw [OpD.len]; exact offT_lt k)⟩
            have c4 := hk4.own.cellAt OpD.len (mixG_at _ i HX.out) hu0
            have f4 := hk4.own.free (i * 26 + offT k)
            have hst := hk4.setOp (mixG_at _ i HX.out) (offT_lt k) (setT_cells x k y)
            have HN : Hid (TKS w0 T (w4.setCell ⟨g, i * 26 + offT k, none⟩ (.bool y)) (.slice a1 (r2.length - u) c1) (r2.drop u) (.slice (some ⟨g, 0, none⟩) ls.length lc) (mixT k V (i + 1) ls2) ∧ Own btc 1 4 w0.heap.size (w4.setCell ⟨g, i * 26 + offT k, none⟩ (.bool y)) (.slice (some ⟨vb, vo, none⟩) ls.length pc) V) := Lib.hid (by
              refine ⟨?_, HI4.out.2.notg HI4.out.1.own (by decide) rfl _ _⟩
              have e : mixT k V (i + 1) ls2 = (mixT k V i ls2).set i (x.setT k y) := by
                have hyg : V.getD i false = y := by rw [List.getD_eq_getElem?_getD, HY.out]; rfl
                unfold mixT
                rw [mixG_succ _ _ i HX.out (fun _ _ => rfl), hyg]
              rw [e, hln]
              exact hst)
            clear hk4 hst hu0 hln
            refine wpAnyS_mute (i := 14) (d := none) (w' := w4.setCell ⟨g, i * 26 + offT k, none⟩ (.bool y)) (by kernel_rfl) rfl rfl (by rfl) (by go_simp; try rfl) (fun h => by cases h) ?_
            try simp only [Act.put, List.setIfInBounds_toArray, List.set_cons_zero, List.set_cons_succ]
            refine wpAnyS_done (by kernel_rfl) ?_ _
            clear hS4 hSW HI4 HI1 HI c4 f4 hix
            go_wp2_with fail
            go_roundg (ls.length - (i + 1))
            case measure => rw [HG2.out]; omega
            case rel => exact ⟨i + 1, rfl, by simp, by omega, HN⟩
          · obtain rfl : i = ls.length := by omega
            have hi1 : ¬ (ls.length : Int) < (ls.length : Int) := by omega
            have HN : Hid (tkT ls.length (k + 1) (ls, r) = some (mixT k V ls.length ls2, r2.drop u) ∧ TKS w0 T wr (.slice a1 (r2.length - u) c1) (r2.drop u) (.slice la ls.length lc) (mixT k V ls.length ls2)) := Lib.hid ⟨HST.out, HI.out.1⟩
            clear HI HST
            go_wp2_with fail
            go_roundg (2 - (k + 1))
            case measure => rw [HG.out]; omega
            case rel => exact ⟨k + 1, _, _, _, rfl, by simp, by omega, HN⟩
      · have hS3 : (fun W : World => W.cell? ⟨T, 0, none⟩ = some (.slice ta r2.length tcap) ∧ W.cell? ⟨T, 1, none⟩ = some (.slice la ls.length lc)) w3 := ⟨(hb.cell (p := ⟨T, 0, none⟩) (cell_lt hSW.1)).trans hSW.1, (hb.cell (p := ⟨T, 1, none⟩) (cell_lt hSW.2)).trans hSW.2⟩
        have HR3 := Lib.hid (HR1.out.below hb)
        refine ⟨_, rfl, fun _ => hS3, ?_⟩
        try simp only [Act.put, List.setIfInBounds_toArray, List.set_cons_zero, List.set_cons_succ]
        refine wpAnyS_take (i := 10) (d := some 11) (v := .tuple #[.slice none 0 0, .int .i64 0, .int .i64 41]) rfl rfl rfl (by kernel_rfl) (by kernel_rfl) (by kernel_rfl) (by kernel_rfl) (fun _ _ _ h => h) (.inl ⟨by rfl, fun W hW => by obtain ⟨q0, q1⟩ := hW; go_simp; try rfl⟩) hS3 ?_
        try simp only [Act.put, List.setIfInBounds_toArray, List.set_cons_zero, List.set_cons_succ]
        refine wpAnyS_take (i := 11) (d := some 22) (v := .slice none 0 0) rfl rfl rfl (by kernel_rfl) (by kernel_rfl) (by kernel_rfl) (by kernel_rfl) (fun _ _ _ h => h) (.inl ⟨by rfl, fun W hW => by obtain ⟨q0, q1⟩ := hW; go_simp; try rfl⟩) hS3 ?_
        try simp only [Act.put, List.setIfInBounds_toArray, List.set_cons_zero, List.set_cons_succ]
        refine wpAnyS_take (i := 12) (d := some 23) (v := .int .i64 0) rfl rfl rfl (by kernel_rfl) (by kernel_rfl) (by kernel_rfl) (by kernel_rfl) (fun _ _ _ h => h) (.inl ⟨by rfl, fun W hW => by obtain ⟨q0, q1⟩ := hW; go_simp; try rfl⟩) hS3 ?_
        try simp only [Act.put, List.setIfInBounds_toArray, List.set_cons_zero, List.set_cons_succ]
        refine wpAnyS_take (i := 13) (d := some 24) (v := .int .i64 41) rfl rfl rfl (by kernel_rfl) (by kernel_rfl) (by kernel_rfl) (by kernel_rfl) (fun _ _ _ h => h) (.inl ⟨by rfl, fun W hW => by obtain ⟨q0, q1⟩ := hW; go_simp; try rfl⟩) hS3 ?_
        try simp only [Act.put, List.setIfInBounds_toArray, List.set_cons_zero, List.set_cons_succ]
        refine wpAnyS_take (i := 14) (d := some 4) (v := .slice none 0 0) rfl rfl rfl (by kernel_rfl) (by kernel_rfl) (by kernel_rfl) (by kernel_rfl) (fun _ _ _ h => h) (.inl ⟨by rfl, fun W hW => by obtain ⟨q0, q1⟩ := hW; go_simp; try rfl⟩) hS3 ?_
        try simp only [Act.put, List.setIfInBounds_toArray, List.set_cons_zero, List.set_cons_succ]
        refine wpAnyS_take (i := 15) (d := some 5) (v := .int .i64 0) rfl rfl rfl (by kernel_rfl) (by kernel_rfl) (by kernel_rfl) (by kernel_rfl) (fun _ _ _ h => h) (.inl ⟨by rfl, fun W hW => by obtain ⟨q0, q1⟩ := hW; go_simp; try rfl⟩) hS3 ?_
        try simp only [Act.put, List.setIfInBounds_toArray, List.set_cons_zero, List.set_cons_succ]
        refine wpAnyS_ran (i := 16) (d := some 6) (v := .int .i64 41) (w' := w3) (by kernel_rfl) rfl rfl (by rfl) (by go_simp; try rfl) (fun h => by cases h) ?_
        try simp only [Act.put, List.setIfInBounds_toArray, List.set_cons_zero, List.set_cons_succ]
        refine wpAnyS_done (by kernel_rfl) ?_ _
        clear hS3 hSW
        have HBAD : Hid (tkT ls.length 2 (ls, r) = none) := Lib.hid (tkT_bad HR.out.1 hdec hlt)
        clear hdec
        go_wp2_with fail
        go_ret
        exact Or.inr ⟨HBAD.out, ⟨_, _, rfl⟩, HR3.out.kp⟩
    · obtain rfl : k = 2 := by omega
      have hk1 : ¬ (2 : Int) < 2 := by omega
      clear hk hlt
      go_wp2_with fail
      go_ret
      exact Or.inl ⟨_, _, _, HR.out.1, rfl, HR.out.2⟩
theorem slice_to {P : Program} {α : Type} {ea : α → List Value} {q : Nat} {t e : TypeId} (ht : P.underlying t = some (.slice e)) (hsz : (P.info? e).map (·.size) = some q) (a : Option Addr) (n cap p : Nat) (hn : n ≤ cap) (hp : p ≤ n) :
    ∃ a', (∀ W, (Instr.slice t (.slice a n cap) none (some (.int .i64 (p : Int))) none).run P W = .ok (.slice a' p cap) W) ∧ (∀ W (l : List α), l.length = n → SliceIs ea q W (.slice a n cap) l → SliceIs ea q W (.slice a' p cap) (l.take p)) := by
  obtain ⟨i, hi, hq⟩ : ∃ i, P.info? e = some i ∧ i.size = q := by
    cases h : P.info? e with
    | none => rw [h] at hsz; cases hsz
    | some i => rw [h] at hsz; exact ⟨i, rfl, Option.some.inj hsz⟩
  have hpc : p ≤ cap := by omega
  refine ⟨if cap = 0 then a else a.map (·.add 0), fun W => ?_, fun W l hl h => ?_⟩
  · simp [Instr.slice, Instr.sliceBounds, Instr.sliceBound, asIntOf, run_underlying ht, sizeOf, typeInfo, hi, hq, hpc, hn, eq_comm]
  · by_cases hl0 : l = []
    · subst hl0
      simp at hl
      obtain ⟨a2, c2, e2, h1, h2, h3⟩ := h
      cases e2
      have hp0 : p = 0 := by omega
      subst hp0
      exact ⟨_, _, rfl, Nat.zero_le _, h2, fun hne => absurd rfl hne⟩
    · have h5 := SliceIs.take1 (k := p) h (by omega)
      have e : (if cap = 0 then a else a.map (·.add 0)) = a := by
        obtain ⟨a2, c2, e2, h1, h2, h3⟩ := h
        cases e2
        obtain ⟨b, off, rfl, _⟩ := h3 hl0
        split
        · rfl
        · simp [addr_add8]
      rw [e]
      exact h5
theorem run_indexX (b off : Nat) : ∀ {c : Nat}, c < 3 → ∀ w : World, (Instr.index 172 (.agg #[.pointer (some ⟨b, off + 17, none⟩), .pointer (some ⟨b, off + 18, none⟩), .pointer (some ⟨b, off + 19, none⟩)]) (.int .i64 (c : Int))).run Tryz.prog w = .ok (.pointer (some ⟨b, off + offX c, none⟩)) w
  | 0, _, w => by kernel_rfl
  | 1, _, w => by kernel_rfl
  | 2, _, w => by kernel_rfl
  | n + 3, h, _ => absurd h (by omega)
theorem mixX_succ (c i : Nat) {X : List ByteArray} {ls : List OpD} {x : OpD} {s : ByteArray} (hX : X.length = i) (hx : ls[i]? = some x) : mixX c (X ++ [s]) (i + 1) ls = (mixX c X i ls).set i (x.setX c s) := by
  have h1 : (X ++ [s]).getD i noText = s := by rw [List.getD_eq_getElem?_getD, List.getElem?_append_right (by omega), hX, Nat.sub_self]; rfl
  unfold mixX
  rw [mixG_succ (fun j o => o.setX c (X.getD j noText)) (fun j o => o.setX c ((X ++ [s]).getD j noText)) i hx (fun j hj => by
    funext o
    congr 1
    rw [List.getD_eq_getElem?_getD, List.getD_eq_getElem?_getD, List.getElem?_append_left (by omega)]), h1]
set_option maxRecDepth 20000 in
set_option maxHeartbeats 4000000 in
theorem taketexts_any (w0 : World) (T : Nat) (w : World) (tb tl : Value) (r : List UInt8) (ls : List OpD) (c : Nat) (hc : c < 3) (h : TKS w0 T w tb r tl ls) (hn : ls.length ≤ 200) : Calls Tryz.prog 106 #[.pointer (some ⟨T, 0, none⟩), .int .i64 c] w fun e w' => TakPost w0 T tl (tkX1 ls.length c (ls, r)) e w' := by
  obtain ⟨⟨la, ln, lc⟩, el⟩ := h.own.sl
  dsimp only at el
  subst el
  obtain rfl : ln = ls.length := (h.own.nlen OpD.len).1
  obtain ⟨ta, tcap, rfl, htc, htm, -⟩ := id h.byt
  unfold maxLen at htm
  have hc0 := h.cell
  have HT := Lib.hid h
  clear h
  have hSW : (fun W : World => W.cell? ⟨T, 0, none⟩ = some (.slice ta r.length tcap) ∧ W.cell? ⟨T, 1, none⟩ = some (.slice la ls.length lc)) w.drew := ⟨by show World.cell? w _ = _; simp [World.cell?, hc0], by show World.cell? w _ = _; simp [World.cell?, hc0]⟩
  clear hc0
  go_enter Tryz.func106, Tryz.ntmps106
  go_upto_region 1 with fail
  refine wp_region_s (fun W : World => W.cell? ⟨T, 0, none⟩ = some (.slice ta r.length tcap) ∧ W.cell? ⟨T, 1, none⟩ = some (.slice la ls.length lc)) (fun i => i == 16) (by kernel_rfl) ?_
  have HR1 : Hid (TKS w0 T w.drew (.slice ta r.length tcap) r (.slice la ls.length lc) ls) := Lib.hid (HT.out.below (Below.refl _ _).drew)
  have HB1 : Hid (SliceIs u8c 1 w.drew (.slice ta r.length tcap) r) := Lib.hid HR1.out.bytes
  generalize w.drew = W1 at hSW HR1 HB1 ⊢
  refine wpAnyS_take (i := 0) (d := some 11) rfl rfl rfl (by kernel_rfl) (by kernel_rfl) (by kernel_rfl) (by kernel_rfl) (fun _ _ _ h => h) (.inl ⟨by rfl, fun W hW => by obtain ⟨q0, q1⟩ := hW; go_simp; try rfl⟩) hSW ?_
  try simp only [Act.put, List.setIfInBounds_toArray, List.set_cons_zero, List.set_cons_succ]
  refine wpAnyS_take (i := 1) (d := some 12) (v := .pointer (some ⟨T, 0, none⟩)) rfl rfl rfl (by kernel_rfl) (by kernel_rfl) (by kernel_rfl) (by kernel_rfl) (fun _ _ _ h => h) (.inl ⟨by rfl, fun W hW => by obtain ⟨q0, q1⟩ := hW; go_simp; try rfl⟩) hSW ?_
  try simp only [Act.put, List.setIfInBounds_toArray, List.set_cons_zero, List.set_cons_succ]
  refine wpAnyS_take (i := 2) (d := some 13) (v := .pointer (some ⟨T, 0, none⟩)) rfl rfl rfl (by kernel_rfl) (by kernel_rfl) (by kernel_rfl) (by kernel_rfl) (fun _ _ _ h => h) (.inl ⟨by rfl, fun W hW => by obtain ⟨q0, q1⟩ := hW; go_simp; try rfl⟩) hSW ?_
  try simp only [Act.put, List.setIfInBounds_toArray, List.set_cons_zero, List.set_cons_succ]
  refine wpAnyS_take (i := 3) (d := some 14) (v := .slice ta r.length tcap) rfl rfl rfl (by kernel_rfl) (by kernel_rfl) (by kernel_rfl) (by kernel_rfl) (fun _ _ _ h => h) (.inl ⟨by rfl, fun W hW => by obtain ⟨q0, q1⟩ := hW; go_simp; try rfl⟩) hSW ?_
  try simp only [Act.put, List.setIfInBounds_toArray, List.set_cons_zero, List.set_cons_succ]
  refine wpAnyS_take (i := 4) (d := some 15) rfl rfl rfl (by kernel_rfl) (by kernel_rfl) (by kernel_rfl) (by kernel_rfl) (fun _ _ _ h => h) (.inl ⟨by rfl, fun W hW => by obtain ⟨q0, q1⟩ := hW; go_simp; try rfl⟩) hSW ?_
  try simp only [Act.put, List.setIfInBounds_toArray, List.set_cons_zero, List.set_cons_succ]
  refine wpAnyS_take (i := 5) (d := some 16) (v := .pointer (some ⟨T, 0, none⟩)) rfl rfl rfl (by kernel_rfl) (by kernel_rfl) (by kernel_rfl) (by kernel_rfl) (fun _ _ _ h => h) (.inl ⟨by rfl, fun W hW => by obtain ⟨q0, q1⟩ := hW; go_simp; try rfl⟩) hSW ?_
  try simp only [Act.put, List.setIfInBounds_toArray, List.set_cons_zero, List.set_cons_succ]
  refine wpAnyS_take (i := 6) (d := some 17) (v := .pointer (some ⟨T, 1, none⟩)) rfl rfl rfl (by kernel_rfl) (by kernel_rfl) (by kernel_rfl) (by kernel_rfl) (fun _ _ _ h => h) (.inl ⟨by rfl, fun W hW => by obtain ⟨q0, q1⟩ := hW; go_simp; try rfl⟩) hSW ?_
  try simp only [Act.put, List.setIfInBounds_toArray, List.set_cons_zero, List.set_cons_succ]
  refine wpAnyS_take (i := 7) (d := some 18) (v := .slice la ls.length lc) rfl rfl rfl (by kernel_rfl) (by kernel_rfl) (by kernel_rfl) (by kernel_rfl) (fun _ _ _ h => h) (.inl ⟨by rfl, fun W hW => by obtain ⟨q0, q1⟩ := hW; go_simp; try rfl⟩) hSW ?_
  try simp only [Act.put, List.setIfInBounds_toArray, List.set_cons_zero, List.set_cons_succ]
  refine wpAnyS_take (i := 8) (d := some 19) (v := .int .i64 ls.length) rfl rfl rfl (by kernel_rfl) (by kernel_rfl) (by kernel_rfl) (by kernel_rfl) (fun _ _ _ h => h) (.inl ⟨by rfl, fun W hW => by obtain ⟨q0, q1⟩ := hW; go_simp; try rfl⟩) hSW ?_
  try simp only [Act.put, List.setIfInBounds_toArray, List.set_cons_zero, List.set_cons_succ]
  refine wpAnyS_call (i := 9) (d := some 20) (f := 153) (args := #[.slice ta r.length tcap, .int .i64 ls.length]) (w' := W1) (by kernel_rfl) rfl rfl (by rfl) (by go_simp; try rfl) ?_
  refine (takeruns_any _ r ls.length _ HB1.out (by omega)).mono ?_
  rintro e w3 (⟨V, u, v, hdec, rfl, hown, hb⟩ | ⟨hdec, rfl, hb⟩)
  · have hS3 : (fun W : World => W.cell? ⟨T, 0, none⟩ = some (.slice ta r.length tcap) ∧ W.cell? ⟨T, 1, none⟩ = some (.slice la ls.length lc)) w3 := ⟨(hb.cell (p := ⟨T, 0, none⟩) (cell_lt hSW.1)).trans hSW.1, (hb.cell (p := ⟨T, 1, none⟩) (cell_lt hSW.2)).trans hSW.2⟩
    have HR3 := Lib.hid (HR1.out.below hb)
    refine ⟨_, rfl, fun _ => hS3, ?_⟩
    try simp only [Act.put, List.setIfInBounds_toArray, List.set_cons_zero, List.set_cons_succ]
    refine wpAnyS_take (i := 10) (d := some 10) (v := .tuple #[v, .int .i64 (u : Nat), .int .i64 0]) rfl rfl rfl (by kernel_rfl) (by kernel_rfl) (by kernel_rfl) (by kernel_rfl) (fun _ _ _ h => h) (.inl ⟨by rfl, fun W hW => by obtain ⟨q0, q1⟩ := hW; go_simp; try rfl⟩) hS3 ?_
    try simp only [Act.put, List.setIfInBounds_toArray, List.set_cons_zero, List.set_cons_succ]
    refine wpAnyS_take (i := 11) (d := some 21) (v := v) rfl rfl rfl (by kernel_rfl) (by kernel_rfl) (by kernel_rfl) (by kernel_rfl) (fun _ _ _ h => h) (.inl ⟨by rfl, fun W hW => by obtain ⟨q0, q1⟩ := hW; go_simp; try rfl⟩) hS3 ?_
    try simp only [Act.put, List.setIfInBounds_toArray, List.set_cons_zero, List.set_cons_succ]
    refine wpAnyS_take (i := 12) (d := some 22) (v := .int .i64 (u : Nat)) rfl rfl rfl (by kernel_rfl) (by kernel_rfl) (by kernel_rfl) (by kernel_rfl) (fun _ _ _ h => h) (.inl ⟨by rfl, fun W hW => by obtain ⟨q0, q1⟩ := hW; go_simp; try rfl⟩) hS3 ?_
    try simp only [Act.put, List.setIfInBounds_toArray, List.set_cons_zero, List.set_cons_succ]
    refine wpAnyS_take (i := 13) (d := some 23) (v := .int .i64 0) rfl rfl rfl (by kernel_rfl) (by kernel_rfl) (by kernel_rfl) (by kernel_rfl) (fun _ _ _ h => h) (.inl ⟨by rfl, fun W hW => by obtain ⟨q0, q1⟩ := hW; go_simp; try rfl⟩) hS3 ?_
    try simp only [Act.put, List.setIfInBounds_toArray, List.set_cons_zero, List.set_cons_succ]
    refine wpAnyS_take (i := 14) (d := some 5) (v := v) rfl rfl rfl (by kernel_rfl) (by kernel_rfl) (by kernel_rfl) (by kernel_rfl) (fun _ _ _ h => h) (.inl ⟨by rfl, fun W hW => by obtain ⟨q0, q1⟩ := hW; go_simp; try rfl⟩) hS3 ?_
    try simp only [Act.put, List.setIfInBounds_toArray, List.set_cons_zero, List.set_cons_succ]
    refine wpAnyS_take (i := 15) (d := some 6) (v := .int .i64 (u : Nat)) rfl rfl rfl (by kernel_rfl) (by kernel_rfl) (by kernel_rfl) (by kernel_rfl) (fun _ _ _ h => h) (.inl ⟨by rfl, fun W hW => by obtain ⟨q0, q1⟩ := hW; go_simp; try rfl⟩) hS3 ?_
    try simp only [Act.put, List.setIfInBounds_toArray, List.set_cons_zero, List.set_cons_succ]
    refine wpAnyS_ran (i := 16) (d := some 7) (v := .int .i64 0) (w' := w3) (by kernel_rfl) rfl rfl (by rfl) (by go_simp; try rfl) (fun h => by cases h) ?_
    try simp only [Act.put, List.setIfInBounds_toArray, List.set_cons_zero, List.set_cons_succ]
    refine wpAnyS_done (by kernel_rfl) ?_ _
    clear hS3 hSW
    have HDEC := Lib.hid hdec
    clear hdec
    have hcf := decR_facts (by omega) HDEC.out
    have hul := hcf.2
    obtain ⟨⟨pa, pn, pc⟩, ep⟩ := hown.sl
    dsimp only at ep
    subst ep
    obtain rfl : pn = ls.length := by have h := (hown.nlen intc_len).1; rw [hcf.1] at h; exact h
    have HVL : Hid (V.length = ls.length) := Lib.hid hcf.1
    have HOWN : Hid (Own intc 1 3 w0.heap.size w3 (.slice pa ls.length pc) V) := Lib.hid (hown.mono HR1.out.bel.size)
    obtain ⟨a1, c1, hsl, hS1, -⟩ := slice_from (P := Tryz.prog) (ea := u8c) Tryz.underlying22 size_u8 ta r.length tcap u htc hul
    have HBY := Lib.hid (hS1 w0 r rfl HR3.out.byt)
    have hc3 := HR3.out.cell
    have cT : w3.cell? ⟨T, 0, none⟩ = some (.slice ta r.length tcap) := by simp [World.cell?, hc3]
    have fT : w3.frozen? ⟨T, 0, none⟩ = false := by simp [World.frozen?, hc3]
    have HN0 : Hid (TKS w0 T (w3.setCell ⟨T, 0, none⟩ (.slice a1 (r.length - u) c1)) (.slice a1 (r.length - u) c1) (r.drop u) (.slice la ls.length lc) (mixX c [] 0 ls) ∧ Own intc 1 3 w0.heap.size (w3.setCell ⟨T, 0, none⟩ (.slice a1 (r.length - u) c1)) (.slice pa ls.length pc) V) := Lib.hid ⟨by unfold mixX; rw [mixG_zero]; exact HR3.out.setB HBY.out, HOWN.out.notT HR3.out (by decide) _ _⟩
    clear hown hcf hS1 hc3 HOWN HR1 HB1 HR3 HBY HT
    go_wp2_with fail
    clear cT fT hsl
    go_loopg [41] ls.length (fun g kv wx => ∃ (i : Nat) (X : List ByteArray) (r3 : List UInt8) (tb3 : Value), g = ls.length - i ∧ kv = .int .i64 i ∧ i ≤ ls.length ∧ Hid (cutX V i (r.drop u) = some (X, r3) ∧ TKS w0 T wx tb3 r3 (.slice la ls.length lc) (mixX c X i ls) ∧ Own intc 1 3 w0.heap.size wx (.slice pa ls.length pc) V))
    case atStart => exact ⟨0, [], _, _, rfl, rfl, by omega, Lib.hid ⟨rfl, HN0.out.1, HN0.out.2⟩⟩
    case round =>
      clear HN0 hul htc htm
      obtain ⟨i, X, r3, tb3, hg2, rfl, hi, HI⟩ := hrel
      have HG2 := Lib.hid hg2
      clear hg2
      by_cases hli : i < ls.length
      · have hi1 : (i : Int) < (ls.length : Int) := by omega
        have hi0 : (0 : Int) ≤ (i : Int) := by omega
        obtain ⟨x, hx⟩ : ∃ x, ls[i]? = some x := ⟨_, List.getElem?_eq_getElem hli⟩
        have HX := Lib.hid hx
        clear hx
        obtain ⟨y, hy⟩ : ∃ y, V[i]? = some y := ⟨_, List.getElem?_eq_getElem (by rw [HVL.out]; exact hli)⟩
        have HY := Lib.hid hy
        clear hy
        obtain ⟨vb, vo, ev, cv⟩ := (HI.out.2.2.slice intc_len).at1 HY.out rfl
        cases ev
        obtain ⟨t3, c3, rfl, ht3, hm3, -⟩ := id HI.out.2.1.byt
        unfold maxLen at hm3
        have hc0 := HI.out.2.1.cell
        have cT : wr.cell? ⟨T, 0, none⟩ = some (.slice t3 r3.length c3) := by simp [World.cell?, hc0]
        by_cases hbad : y < 0 ∨ (r3.length : Int) < y
        · have HBAD : Hid (tkX1 ls.length c (ls, r) = none) := Lib.hid (by unfold tkX1; dsimp only; rw [HDEC.out, Option.bind_some]; dsimp only; rw [cutX_bad HI.out.1 HY.out hbad hli]; rfl)
          have HBL := Lib.hid HI.out.2.1.kp
          clear hc0 HI
          by_cases hy0 : y < 0
          · clear hbad
            go_wp2_with fail
            go_ret
            exact Or.inr ⟨HBAD.out, ⟨_, _, rfl⟩, HBL.out⟩
          · have hy1 : (r3.length : Int) < y := hbad.resolve_left hy0
            clear hbad
            go_wp2_with fail
            go_ret
            exact Or.inr ⟨HBAD.out, ⟨_, _, rfl⟩, HBL.out⟩
        · obtain ⟨m, rfl⟩ : ∃ m : Nat, y = (m : Int) := Int.eq_ofNat_of_zero_le (by omega)
          have hy0 : ¬ (m : Int) < 0 := by omega
          have hy1 : ¬ (r3.length : Int) < (m : Int) := by omega
          have hmr : m ≤ r3.length := by omega
          clear hbad
          obtain ⟨g, cap, e, hg1, hg3⟩ := HI.out.2.1.own.eq_slice.resolve_left (fun e => by have h2 := e.2; have h3 := mixG_len (fun j o => o.setX c (X.getD j noText)) i ls; rw [show mixG (fun j o => o.setX c (X.getD j noText)) i ls = [] from h2] at h3; simp at h3; omega)
          injection e with e1 e2 e3
          subst e1 e3
          clear e2
          obtain ⟨a4, hs4, hS4⟩ := slice_to (P := Tryz.prog) (ea := u8c) Tryz.underlying22 size_u8 t3 r3.length c3 m ht3 hmr
          have hby4 := hS4 wr.drew r3 rfl ((HI.out.2.1.below (Below.refl _ _).drew).bytes)
          clear hS4
          obtain ⟨a5, c5, hs5, hS5, -⟩ := slice_from (P := Tryz.prog) (ea := u8c) Tryz.underlying22 size_u8 t3 r3.length c3 m ht3 hmr
          have HBY := Lib.hid (hS5 w0 r3 rfl HI.out.2.1.byt)
          clear hS5
          have hSW : (fun W : World => W.cell? ⟨T, 0, none⟩ = some (.slice t3 r3.length c3) ∧ W.cell? ⟨T, 1, none⟩ = some (.slice (some ⟨g, 0, none⟩) ls.length lc) ∧ SliceIs u8c 1 W (.slice a4 m c3) (r3.take m)) wr.drew := ⟨cT, by show World.cell? wr _ = _; simp [World.cell?, hc0], hby4⟩
          have hix := fun W : World => run_indexX g (i * 26) hc W
          clear hc0 hby4
          go_upto_region 10 with fail
          clear cT cv
          refine wp_region_s (fun W : World => W.cell? ⟨T, 0, none⟩ = some (.slice t3 r3.length c3) ∧ W.cell? ⟨T, 1, none⟩ = some (.slice (some ⟨g, 0, none⟩) ls.length lc) ∧ SliceIs u8c 1 W (.slice a4 m c3) (r3.take m)) (fun i => i == 17) (by kernel_rfl) ?_
          have HI1 : Hid (TKS w0 T wr.drew (.slice t3 r3.length c3) r3 (.slice (some ⟨g, 0, none⟩) ls.length lc) (mixX c X i ls) ∧ Own intc 1 3 w0.heap.size wr.drew (.slice (some ⟨vb, vo, none⟩) ls.length pc) V) := Lib.hid ⟨HI.out.2.1.below (Below.refl _ _).drew, HI.out.2.2.below1 (Below.refl _ _).drew⟩
          have HCUT := Lib.hid HI.out.1
          clear HI
          generalize wr.drew = W2 at hSW HI1 ⊢
          refine wpAnyS_take (i := 0) (d := some 60) rfl rfl rfl (by kernel_rfl) (by kernel_rfl) (by kernel_rfl) (by kernel_rfl) (fun _ _ _ h => h) (.inl ⟨by rfl, fun W hW => by obtain ⟨q0, q1, q2⟩ := hW; go_simp; try rfl⟩) hSW ?_
          try simp only [Act.put, List.setIfInBounds_toArray, List.set_cons_zero, List.set_cons_succ]
          refine wpAnyS_take (i := 1) (d := some 61) (v := .pointer (some ⟨T, 0, none⟩)) rfl rfl rfl (by kernel_rfl) (by kernel_rfl) (by kernel_rfl) (by kernel_rfl) (fun _ _ _ h => h) (.inl ⟨by rfl, fun W hW => by obtain ⟨q0, q1, q2⟩ := hW; go_simp; try rfl⟩) hSW ?_
          try simp only [Act.put, List.setIfInBounds_toArray, List.set_cons_zero, List.set_cons_succ]
          refine wpAnyS_take (i := 2) (d := some 62) (v := .pointer (some ⟨T, 1, none⟩)) rfl rfl rfl (by kernel_rfl) (by kernel_rfl) (by kernel_rfl) (by kernel_rfl) (fun _ _ _ h => h) (.inl ⟨by rfl, fun W hW => by obtain ⟨q0, q1, q2⟩ := hW; go_simp; try rfl⟩) hSW ?_
          try simp only [Act.put, List.setIfInBounds_toArray, List.set_cons_zero, List.set_cons_succ]
          refine wpAnyS_take (i := 3) (d := some 63) (v := .slice (some ⟨g, 0, none⟩) ls.length lc) rfl rfl rfl (by kernel_rfl) (by kernel_rfl) (by kernel_rfl) (by kernel_rfl) (fun _ _ _ h => h) (.inl ⟨by rfl, fun W hW => by obtain ⟨q0, q1, q2⟩ := hW; go_simp; try rfl⟩) hSW ?_
          try simp only [Act.put, List.setIfInBounds_toArray, List.set_cons_zero, List.set_cons_succ]
          refine wpAnyS_take (i := 4) (d := some 64) (v := .int .i64 i) rfl rfl rfl (by kernel_rfl) (by kernel_rfl) (by kernel_rfl) (by kernel_rfl) (fun _ _ _ h => h) (.inl ⟨by rfl, fun W hW => by obtain ⟨q0, q1, q2⟩ := hW; go_simp; try rfl⟩) hSW ?_
          try simp only [Act.put, List.setIfInBounds_toArray, List.set_cons_zero, List.set_cons_succ]
          refine wpAnyS_take (i := 5) (d := some 65) (v := .pointer (some ⟨g, i * 26, none⟩)) rfl rfl rfl (by kernel_rfl) (by kernel_rfl) (by kernel_rfl) (by kernel_rfl) (fun _ _ _ h => h) (.inl ⟨by rfl, fun W hW => by obtain ⟨q0, q1, q2⟩ := hW; go_simp; try rfl⟩) hSW ?_
          try simp only [Act.put, List.setIfInBounds_toArray, List.set_cons_zero, List.set_cons_succ]
          refine wpAnyS_take (i := 7) (d := some 67) (v := .int .i64 c) rfl rfl rfl (by kernel_rfl) (by kernel_rfl) (by kernel_rfl) (by kernel_rfl) (fun _ _ _ h => h) (.inl ⟨by rfl, fun W hW => by obtain ⟨q0, q1, q2⟩ := hW; go_simp; try rfl⟩) hSW ?_
          try simp only [Act.put, List.setIfInBounds_toArray, List.set_cons_zero, List.set_cons_succ]
          refine wpAnyS_take (i := 9) (d := some 69) rfl rfl rfl (by kernel_rfl) (by kernel_rfl) (by kernel_rfl) (by kernel_rfl) (fun _ _ _ h => h) (.inl ⟨by rfl, fun W hW => by obtain ⟨q0, q1, q2⟩ := hW; go_simp; try rfl⟩) hSW ?_
          try simp only [Act.put, List.setIfInBounds_toArray, List.set_cons_zero, List.set_cons_succ]
          refine wpAnyS_take (i := 10) (d := some 70) (v := .pointer (some ⟨T, 0, none⟩)) rfl rfl rfl (by kernel_rfl) (by kernel_rfl) (by kernel_rfl) (by kernel_rfl) (fun _ _ _ h => h) (.inl ⟨by rfl, fun W hW => by obtain ⟨q0, q1, q2⟩ := hW; go_simp; try rfl⟩) hSW ?_
          try simp only [Act.put, List.setIfInBounds_toArray, List.set_cons_zero, List.set_cons_succ]
          refine wpAnyS_take (i := 11) (d := some 71) (v := .pointer (some ⟨T, 0, none⟩)) rfl rfl rfl (by kernel_rfl) (by kernel_rfl) (by kernel_rfl) (by kernel_rfl) (fun _ _ _ h => h) (.inl ⟨by rfl, fun W hW => by obtain ⟨q0, q1, q2⟩ := hW; go_simp; try rfl⟩) hSW ?_
          try simp only [Act.put, List.setIfInBounds_toArray, List.set_cons_zero, List.set_cons_succ]
          refine wpAnyS_take (i := 12) (d := some 72) (v := .slice t3 r3.length c3) rfl rfl rfl (by kernel_rfl) (by kernel_rfl) (by kernel_rfl) (by kernel_rfl) (fun _ _ _ h => h) (.inl ⟨by rfl, fun W hW => by obtain ⟨q0, q1, q2⟩ := hW; go_simp; try rfl⟩) hSW ?_
          try simp only [Act.put, List.setIfInBounds_toArray, List.set_cons_zero, List.set_cons_succ]
          refine wpAnyS_take (i := 13) (d := some 73) (v := .int .i64 m) rfl rfl rfl (by kernel_rfl) (by kernel_rfl) (by kernel_rfl) (by kernel_rfl) (fun _ _ _ h => h) (.inl ⟨by rfl, fun W hW => by obtain ⟨q0, q1, q2⟩ := hW; go_simp; try rfl⟩) hSW ?_
          try simp only [Act.put, List.setIfInBounds_toArray, List.set_cons_zero, List.set_cons_succ]
          refine wpAnyS_take (i := 14) (d := some 74) (v := .slice a4 m c3) rfl rfl rfl (by kernel_rfl) (by kernel_rfl) (by kernel_rfl) (by kernel_rfl) (fun _ _ _ h => h) (.inl ⟨by rfl, fun W hW => by obtain ⟨q0, q1, q2⟩ := hW; go_simp; try rfl⟩) hSW ?_
          try simp only [Act.put, List.setIfInBounds_toArray, List.set_cons_zero, List.set_cons_succ]
          refine wpAnyS_take (i := 15) (d := some 75) (v := .string ⟨(r3.take m).toArray⟩) rfl rfl rfl (by kernel_rfl) (by kernel_rfl) (by kernel_rfl) (by kernel_rfl) (fun _ _ _ h => h) (.inl ⟨by rfl, fun W hW => by obtain ⟨q0, q1, q2⟩ := hW; have q3 := conv_bytes q2; go_simp; try rfl⟩) hSW ?_
          try simp only [Act.put, List.setIfInBounds_toArray, List.set_cons_zero, List.set_cons_succ]
          refine wpAnyS_call (i := 6) (d := some 66) (f := 98) (args := #[.pointer (some ⟨g, i * 26, none⟩)]) (w' := W2) (by kernel_rfl) rfl rfl (by rfl) (by go_simp; try rfl) ?_
          refine (texts_any g (i * 26) W2).mono ?_
          rintro e w4 ⟨rfl, hb4⟩
          have hS4 : (fun W : World => W.cell? ⟨T, 0, none⟩ = some (.slice t3 r3.length c3) ∧ W.cell? ⟨T, 1, none⟩ = some (.slice (some ⟨g, 0, none⟩) ls.length lc) ∧ SliceIs u8c 1 W (.slice a4 m c3) (r3.take m)) w4 := ⟨(hb4.cell (p := ⟨T, 0, none⟩) (cell_lt hSW.1)).trans hSW.1, (hb4.cell (p := ⟨T, 1, none⟩) (cell_lt hSW.2.1)).trans hSW.2.1, hSW.2.2.below hb4⟩
          have HI4 := Lib.hid (And.intro (HI1.out.1.below hb4) (HI1.out.2.below1 hb4))
          refine ⟨_, rfl, fun _ => hS4, ?_⟩
          try simp only [Act.put, List.setIfInBounds_toArray, List.set_cons_zero, List.set_cons_succ]
          refine wpAnyS_take (i := 8) (d := some 68) (v := .pointer (some ⟨g, i * 26 + offX c, none⟩)) rfl rfl rfl (by kernel_rfl) (by kernel_rfl) (by kernel_rfl) (by kernel_rfl) (fun _ _ _ h => h) (.inl ⟨by rfl, fun W hW => by obtain ⟨q0, q1, q2⟩ := hW; go_simp; try rfl⟩) hS4 ?_
          try simp only [Act.put, List.setIfInBounds_toArray, List.set_cons_zero, List.set_cons_succ]
          refine wpAnyS_take (i := 16) (d := some 76) (v := .pointer (some ⟨g, i * 26 + offX c, none⟩)) rfl rfl rfl (by kernel_rfl) (by kernel_rfl) (by kernel_rfl) (by kernel_rfl) (fun _ _ _ h => h) (.inl ⟨by rfl, fun W hW => by obtain ⟨q0, q1, q2⟩ := hW; go_simp; try rfl⟩) hS4 ?_
          try simp only [Act.put, List.setIfInBounds_toArray, List.set_cons_zero, List.set_cons_succ]
          have hln : ls.length = (mixX c X i ls).length := by unfold mixX; rw [mixG_len]
          have hk4 := HI4.out.1
          have hk5 := hk4
          rw [hln] at hk4
          obtain ⟨u0, hu0⟩ : ∃ u0, x.cells[offX c]? = some u0 := ⟨_, List.getElem?_eq_getElem (by rw [OpD.len]; exact offX_lt c)⟩
          have c4 := hk4.own.cellAt OpD.len (mixG_at _ i HX.out) hu0
          have f4 := hk4.own.free (i * 26 + offX c)
          have hst := hk4.setOp (mixG_at _ i HX.out) (offX_lt c) (setX_cells x c ⟨(r3.take m).toArray⟩)
          have HN1 : Hid (TKS w0 T (w4.setCell ⟨g, i * 26 + offX c, none⟩ (.string ⟨(r3.take m).toArray⟩)) (.slice t3 r3.length c3) r3 (.slice (some ⟨g, 0, none⟩) ls.length lc) (mixX c (X ++ [⟨(r3.take m).toArray⟩]) (i + 1) ls) ∧ Own intc 1 3 w0.heap.size (w4.setCell ⟨g, i * 26 + offX c, none⟩ (.string ⟨(r3.take m).toArray⟩)) (.slice (some ⟨vb, vo, none⟩) ls.length pc) V) := Lib.hid (by
            refine ⟨?_, HI4.out.2.notg HI4.out.1.own (by decide) rfl _ _⟩
            rw [mixX_succ c i (cutX_len HCUT.out).1 HX.out]
            have hq := hst
            rw [← hln] at hq
            exact hq)
          clear hk4 hk5 hst hu0 hln
          refine wpAnyS_mute (i := 17) (d := none) (w' := w4.setCell ⟨g, i * 26 + offX c, none⟩ (.string ⟨(r3.take m).toArray⟩)) (by kernel_rfl) rfl rfl (by rfl) (by go_simp; try rfl) (fun h => by cases h) ?_
          try simp only [Act.put, List.setIfInBounds_toArray, List.set_cons_zero, List.set_cons_succ]
          refine wpAnyS_done (by kernel_rfl) ?_ _
          clear hS4 hSW HI4 HI1 c4 f4 hix hs4
          generalize (w4.setCell ⟨g, i * 26 + offX c, none⟩ (.string ⟨(r3.take m).toArray⟩)) = w5 at HN1 ⊢
          have hc5 := HN1.out.1.cell
          have cT5 : w5.cell? ⟨T, 0, none⟩ = some (.slice t3 r3.length c3) := by simp [World.cell?, hc5]
          have fT5 : w5.frozen? ⟨T, 0, none⟩ = false := by simp [World.frozen?, hc5]
          clear hc5
          have HN : Hid (cutX V (i + 1) (r.drop u) = some (X ++ [⟨(r3.take m).toArray⟩], r3.drop m) ∧ TKS w0 T (w5.setCell ⟨T, 0, none⟩ (.slice a5 (r3.length - m) c5)) (.slice a5 (r3.length - m) c5) (r3.drop m) (.slice (some ⟨g, 0, none⟩) ls.length lc) (mixX c (X ++ [⟨(r3.take m).toArray⟩]) (i + 1) ls) ∧ Own intc 1 3 w0.heap.size (w5.setCell ⟨T, 0, none⟩ (.slice a5 (r3.length - m) c5)) (.slice (some ⟨vb, vo, none⟩) ls.length pc) V) := Lib.hid ⟨cutX_step HCUT.out HY.out hmr, HN1.out.1.setB HBY.out, HN1.out.2.notT HN1.out.1 (by decide) _ _⟩
          clear HN1 HBY HCUT
          go_wp2_with fail
          go_roundg (ls.length - (i + 1))
          case measure => rw [HG2.out]; omega
          case rel => exact ⟨i + 1, _, _, _, rfl, by simp, by omega, HN⟩
      · obtain rfl : i = ls.length := by omega
        have hi1 : ¬ (ls.length : Int) < (ls.length : Int) := by omega
        have HN : Hid (tkX1 ls.length c (ls, r) = some (mixX c X ls.length ls, r3) ∧ TKS w0 T wr tb3 r3 (.slice la ls.length lc) (mixX c X ls.length ls)) := Lib.hid ⟨by unfold tkX1; dsimp only; rw [HDEC.out, Option.bind_some]; dsimp only; rw [HI.out.1]; rfl, HI.out.2.1⟩
        clear HI
        go_wp2_with fail
        go_ret
        exact Or.inl ⟨_, _, _, HN.out.1, rfl, HN.out.2⟩
  · have hS3 : (fun W : World => W.cell? ⟨T, 0, none⟩ = some (.slice ta r.length tcap) ∧ W.cell? ⟨T, 1, none⟩ = some (.slice la ls.length lc)) w3 := ⟨(hb.cell (p := ⟨T, 0, none⟩) (cell_lt hSW.1)).trans hSW.1, (hb.cell (p := ⟨T, 1, none⟩) (cell_lt hSW.2)).trans hSW.2⟩
    have HR3 := Lib.hid (HR1.out.below hb)
    refine ⟨_, rfl, fun _ => hS3, ?_⟩
    try simp only [Act.put, List.setIfInBounds_toArray, List.set_cons_zero, List.set_cons_succ]
    refine wpAnyS_take (i := 10) (d := some 10) (v := .tuple #[.slice none 0 0, .int .i64 0, .int .i64 41]) rfl rfl rfl (by kernel_rfl) (by kernel_rfl) (by kernel_rfl) (by kernel_rfl) (fun _ _ _ h => h) (.inl ⟨by rfl, fun W hW => by obtain ⟨q0, q1⟩ := hW; go_simp; try rfl⟩) hS3 ?_
    try simp only [Act.put, List.setIfInBounds_toArray, List.set_cons_zero, List.set_cons_succ]
    refine wpAnyS_take (i := 11) (d := some 21) (v := .slice none 0 0) rfl rfl rfl (by kernel_rfl) (by kernel_rfl) (by kernel_rfl) (by kernel_rfl) (fun _ _ _ h => h) (.inl ⟨by rfl, fun W hW => by obtain ⟨q0, q1⟩ := hW; go_simp; try rfl⟩) hS3 ?_
    try simp only [Act.put, List.setIfInBounds_toArray, List.set_cons_zero, List.set_cons_succ]
    refine wpAnyS_take (i := 12) (d := some 22) (v := .int .i64 0) rfl rfl rfl (by kernel_rfl) (by kernel_rfl) (by kernel_rfl) (by kernel_rfl) (fun _ _ _ h => h) (.inl ⟨by rfl, fun W hW => by obtain ⟨q0, q1⟩ := hW; go_simp; try rfl⟩) hS3 ?_
    try simp only [Act.put, List.setIfInBounds_toArray, List.set_cons_zero, List.set_cons_succ]
    refine wpAnyS_take (i := 13) (d := some 23) (v := .int .i64 41) rfl rfl rfl (by kernel_rfl) (by kernel_rfl) (by kernel_rfl) (by kernel_rfl) (fun _ _ _ h => h) (.inl ⟨by rfl, fun W hW => by obtain ⟨q0, q1⟩ := hW; go_simp; try rfl⟩) hS3 ?_
    try simp only [Act.put, List.setIfInBounds_toArray, List.set_cons_zero, List.set_cons_succ]
    refine wpAnyS_take (i := 14) (d := some 5) (v := .slice none 0 0) rfl rfl rfl (by kernel_rfl) (by kernel_rfl) (by kernel_rfl) (by kernel_rfl) (fun _ _ _ h => h) (.inl ⟨by rfl, fun W hW => by obtain ⟨q0, q1⟩ := hW; go_simp; try rfl⟩) hS3 ?_
    try simp only [Act.put, List.setIfInBounds_toArray, List.set_cons_zero, List.set_cons_succ]
    refine wpAnyS_take (i := 15) (d := some 6) (v := .int .i64 0) rfl rfl rfl (by kernel_rfl) (by kernel_rfl) (by kernel_rfl) (by kernel_rfl) (fun _ _ _ h => h) (.inl ⟨by rfl, fun W hW => by obtain ⟨q0, q1⟩ := hW; go_simp; try rfl⟩) hS3 ?_
    try simp only [Act.put, List.setIfInBounds_toArray, List.set_cons_zero, List.set_cons_succ]
    refine wpAnyS_ran (i := 16) (d := some 7) (v := .int .i64 41) (w' := w3) (by kernel_rfl) rfl rfl (by rfl) (by go_simp; try rfl) (fun h => by cases h) ?_
    try simp only [Act.put, List.setIfInBounds_toArray, List.set_cons_zero, List.set_cons_succ]
    refine wpAnyS_done (by kernel_rfl) ?_ _
    clear hS3 hSW
    have HBAD : Hid (tkX1 ls.length c (ls, r) = none) := Lib.hid (by unfold tkX1; dsimp only; rw [hdec]; rfl)
    clear hdec
    go_wp2_with fail
    go_ret
    exact Or.inr ⟨HBAD.out, ⟨_, _, rfl⟩, HR3.out.kp⟩
def rowAt (Ls : Nat → List Int) (o : OpD) (c q : Nat) : List Int := if q < c then Ls q ++ [fld o q] else Ls q
structure RowsIn (R base : Nat) (Ls : Nat → List Int) (A : Nat → Prop) (W : World) : Prop where
  ex : ∃ cs : Array Value, cs.size = 21 ∧ W.heap[R]? = some (.cells cs 100 (0, 0)) ∧ (∀ q, q < 21 → Own intc 1 3 base W (cs.getD q undef) (Ls q)) ∧
    (∀ q r, q < 21 → r < 21 → q ≠ r → ∀ k, (cs.getD q undef).ownBlock = some k → ¬ (cs.getD r undef).ownBlock = some k) ∧ (∀ q, q < 21 → ∀ k, (cs.getD q undef).ownBlock = some k → ¬ A k)
theorem RowsIn.ext {R base : Nat} {Ls : Nat → List Int} {A A' : Nat → Prop} {W W' : World} {S : Nat → Prop} (h : RowsIn R base Ls A W) (hx : Ext S W W') (hR : ¬ S R) (hS : ∀ k, S k → A k ∨ W.heap.size ≤ k) (hA : ∀ k, A' k → A k ∨ W.heap.size ≤ k) : RowsIn R base Ls A' W' := by
  obtain ⟨cs, h1, h2, h3, h4, h5⟩ := h.ex
  have hlt := (Array.getElem?_eq_some_iff.1 h2).1
  refine ⟨cs, h1, (hx.block _ hlt hR).trans h2, fun q hq => (h3 q hq).ext hx (fun k hk e => ?_), h4, fun q hq k hk ha => ?_⟩
  · rcases hS k e with e | e
    · exact h5 q hq k hk e
    · have := ((h3 q hq).blk k hk).2; omega
  · rcases hA k ha with e | e
    · exact h5 q hq k hk e
    · have := ((h3 q hq).blk k hk).2; omega
def JE (R Br Bc base : Nat) (Ls : Nat → List Int) (o : OpD) (c : Nat) (A : Nat → Prop) (W : World) : Prop :=
  RowsIn R base (rowAt Ls o c) A W ∧ W.heap[Br]? = some (.cells #[.slice (some ⟨R, 0, none⟩) 21 21] 161 (0, 0)) ∧ W.heap[Bc]? = some (.cells #[.int .i64 c] 3 (0, 0)) ∧
  (¬ A R ∧ ¬ A Br ∧ ¬ A Bc) ∧ (R ≠ Br ∧ R ≠ Bc ∧ Br ≠ Bc ∧ R < base ∧ Br < base ∧ Bc < W.heap.size) ∧ base ≤ W.heap.size ∧ (∀ k, A k → k < W.heap.size) ∧ (∀ cs, W.heap[R]? = some (.cells cs 100 (0, 0)) → ∀ q, q < 21 → ¬ (cs.getD q undef).ownBlock = some Bc)
theorem JE.jok (R Br Bc base b : Nat) (Ls : Nat → List Int) (o : OpD) : JOK b (JE R Br Bc base Ls o) := by
  rintro c A A' W W' ⟨h1, h2, h3, ⟨h4, h5, h6⟩, h7, h8, h9, h10⟩ hx hA hb
  have l1 := (Array.getElem?_eq_some_iff.1 h2).1
  have l2 := (Array.getElem?_eq_some_iff.1 h3).1
  obtain ⟨cs0, _, hR0, _⟩ := h1.ex
  have l0 := (Array.getElem?_eq_some_iff.1 hR0).1
  have hs := hx.size
  have nb : ∀ {x : Nat}, ¬ A x → ¬ x = b := fun h e => h (by rw [e]; exact hb)
  have nA : ∀ {x : Nat}, ¬ A x → x < W.heap.size → ¬ A' x := fun h hl ha => (hA _ ha).elim h (fun e => by omega)
  refine ⟨h1.ext hx (nb h4) (fun k e => .inl (by rw [e]; exact hb)) (fun k ha => (hA k ha).imp id (fun e => e.1)), (hx.block _ l1 (nb h5)).trans h2, (hx.block _ l2 (nb h6)).trans h3, ⟨nA h4 l0, nA h5 l1, nA h6 l2⟩, ⟨h7.1, h7.2.1, h7.2.2.1, h7.2.2.2.1, h7.2.2.2.2.1, by omega⟩, by omega, fun k hk => (hA k hk).elim (fun e => by have := h9 k e; omega) (fun e => e.2), fun cs hcs => h10 cs ((hx.block _ l0 (nb h4)).symm.trans hcs)⟩
theorem getD_set (cs : Array Value) (c q : Nat) (v : Value) (hc : c < cs.size) : (cs.setIfInBounds c v).getD q undef = if q = c then v else cs.getD q undef := by
  simp only [Array.getD_eq_getD_getElem?]
  by_cases h : q = c
  · subst h; simp [hc]
  · rw [if_neg h, Array.getElem?_setIfInBounds_ne (Ne.symm h)]
set_option maxRecDepth 20000 in
set_option maxHeartbeats 1000000 in
theorem rows_use (R Br Bc base : Nat) (Ls : Nat → List Int) (o : OpD) (hln : ∀ q, (Ls q).length ≤ 1000000) : UseOK Tryz.prog 93 #[.pointer (some ⟨Br, 0, none⟩), .pointer (some ⟨Bc, 0, none⟩)] (fld o) (fld o) (JE R Br Bc base Ls o) := by
  rintro c A W pb po hc ⟨hr, hBr, hBc, ⟨nR, nBr, nBc⟩, ⟨d1, d2, d3, d4, d5, d6⟩, hbs, hAl, hnc⟩ hcell hfree hA
  show Calls Tryz.prog 93 #[.pointer (some ⟨pb, po, none⟩), .bool (dlt c), .pointer (some ⟨Br, 0, none⟩), .pointer (some ⟨Bc, 0, none⟩)] W _
  obtain ⟨cs, hcs, hR, hown, hdis, hnA⟩ := hr.ex
  obtain ⟨x, hx⟩ : ∃ x, fld o c = x := ⟨_, rfl⟩
  rw [hx] at hcell
  have hoc := hown c hc
  have hrc : rowAt Ls o c c = Ls c := by unfold rowAt; rw [if_neg (by omega)]
  rw [hrc] at hoc
  obtain ⟨⟨sa, sn, sc⟩, e⟩ := hoc.sl
  dsimp only at e
  rw [e] at hoc
  have hRc : W.cell? ⟨R, c, none⟩ = some (.slice sa sn sc) := by
    unfold World.cell?
    rw [hR]
    rw [← e, Array.getD_eq_getD_getElem?]
    simp [hcs, hc]
  have nO : ∀ k, (Value.slice sa sn sc).ownBlock = some k → ¬ A k ∧ base ≤ k ∧ k < W.heap.size ∧ k ≠ Bc := fun k hk => ⟨hnA c hc k (by rw [e]; exact hk), (hoc.blk k hk).1, (hoc.blk k hk).2, fun e2 => hnc cs hR c hc (by rw [e, ← e2]; exact hk)⟩
  have lR := (Array.getElem?_eq_some_iff.1 hR).1
  have lBr := (Array.getElem?_eq_some_iff.1 hBr).1
  have lpb := cell_lt hcell
  have hpR : pb ≠ R := fun e => nR (by rw [← e]; exact hA)
  have hpc : pb ≠ Bc := fun e => nBc (by rw [← e]; exact hA)
  have hpB : pb ≠ Br := fun e => nBr (by rw [← e]; exact hA)
  have hll := hln c
  have hW0 : Ext (fun _ => False) W W.drew := (Ext.refl _ _).drew
  have HOLD := Lib.hid (And.intro hR (And.intro hBr (And.intro hBc (And.intro hcell (And.intro hoc hown)))))
  have b0 := cell_of_one hBr
  have b1 := cell_of_one hBc
  have HFR := Lib.hid hfree
  have HDIS := Lib.hid hdis
  have HNA := Lib.hid hnA
  have HAL := Lib.hid hAl
  have HE := Lib.hid e
  have HNC := Lib.hid hnc
  have HX := Lib.hid hx
  clear hfree hdis hnA hAl e hnc hx hown hrc hln
  go_enter Tryz.func93, Tryz.ntmps93
  go_upto_region 0 with fail
  have hS0 : (fun W : World => W.cell? ⟨Br, 0, none⟩ = some (.slice (some ⟨R, 0, none⟩) 21 21) ∧ W.cell? ⟨Bc, 0, none⟩ = some (.int .i64 c) ∧ W.cell? ⟨R, c, none⟩ = some (.slice sa sn sc) ∧ W.cell? ⟨pb, po, none⟩ = some (.int .i64 x)) W.drew := ⟨b0, b1, hRc, hcell⟩
  have hoc1 : Own intc 1 3 base W.drew (.slice sa sn sc) (Ls c) := hoc
  have hsz1 : W.drew.heap.size = W.heap.size := rfl
  clear b0 b1 hRc hcell hoc hR hBr hBc hr
  refine wp_region_s (fun W : World => W.cell? ⟨Br, 0, none⟩ = some (.slice (some ⟨R, 0, none⟩) 21 21) ∧ W.cell? ⟨Bc, 0, none⟩ = some (.int .i64 c) ∧ W.cell? ⟨R, c, none⟩ = some (.slice sa sn sc) ∧ W.cell? ⟨pb, po, none⟩ = some (.int .i64 x)) (fun i => i == 12) (by kernel_rfl) ?_
  generalize W.drew = W1 at hS0 hW0 hoc1 hsz1 ⊢
  have hc21 : (c : Int) < 21 := by omega
  have hc0 : (0 : Int) ≤ (c : Int) := by omega
  refine wpAnyS_take (i := 0) (d := some 6) (v := .slice (some ⟨R, 0, none⟩) 21 21) rfl rfl rfl (by kernel_rfl) (by kernel_rfl) (by kernel_rfl) (by kernel_rfl) (fun _ _ _ h => h) (.inl ⟨by rfl, fun W hW => by obtain ⟨q0, q1, q2, q3⟩ := hW; go_simp; try rfl⟩) hS0 ?_
  try simp only [Act.put, List.setIfInBounds_toArray, List.set_cons_zero, List.set_cons_succ]
  refine wpAnyS_take (i := 1) (d := some 7) (v := .int .i64 c) rfl rfl rfl (by kernel_rfl) (by kernel_rfl) (by kernel_rfl) (by kernel_rfl) (fun _ _ _ h => h) (.inl ⟨by rfl, fun W hW => by obtain ⟨q0, q1, q2, q3⟩ := hW; go_simp; try rfl⟩) hS0 ?_
  try simp only [Act.put, List.setIfInBounds_toArray, List.set_cons_zero, List.set_cons_succ]
  refine wpAnyS_take (i := 2) (d := some 8) (v := .slice (some ⟨R, 0, none⟩) 21 21) rfl rfl rfl (by kernel_rfl) (by kernel_rfl) (by kernel_rfl) (by kernel_rfl) (fun _ _ _ h => h) (.inl ⟨by rfl, fun W hW => by obtain ⟨q0, q1, q2, q3⟩ := hW; go_simp; try rfl⟩) hS0 ?_
  try simp only [Act.put, List.setIfInBounds_toArray, List.set_cons_zero, List.set_cons_succ]
  refine wpAnyS_take (i := 3) (d := some 9) (v := .int .i64 c) rfl rfl rfl (by kernel_rfl) (by kernel_rfl) (by kernel_rfl) (by kernel_rfl) (fun _ _ _ h => h) (.inl ⟨by rfl, fun W hW => by obtain ⟨q0, q1, q2, q3⟩ := hW; go_simp; try rfl⟩) hS0 ?_
  try simp only [Act.put, List.setIfInBounds_toArray, List.set_cons_zero, List.set_cons_succ]
  refine wpAnyS_take (i := 4) (d := some 10) (v := .pointer (some ⟨R, c, none⟩)) rfl rfl rfl (by kernel_rfl) (by kernel_rfl) (by kernel_rfl) (by kernel_rfl) (fun _ _ _ h => h) (.inl ⟨by rfl, fun W hW => by obtain ⟨q0, q1, q2, q3⟩ := hW; go_simp; try rfl⟩) hS0 ?_
  try simp only [Act.put, List.setIfInBounds_toArray, List.set_cons_zero, List.set_cons_succ]
  refine wpAnyS_take (i := 5) (d := some 11) (v := .slice sa sn sc) rfl rfl rfl (by kernel_rfl) (by kernel_rfl) (by kernel_rfl) (by kernel_rfl) (fun _ _ _ h => h) (.inl ⟨by rfl, fun W hW => by obtain ⟨q0, q1, q2, q3⟩ := hW; go_simp; try rfl⟩) hS0 ?_
  try simp only [Act.put, List.setIfInBounds_toArray, List.set_cons_zero, List.set_cons_succ]
  refine wpAnyS_take (i := 6) (d := some 12) rfl rfl rfl (by kernel_rfl) (by kernel_rfl) (by kernel_rfl) (by kernel_rfl) (fun _ _ _ h => h) (.inl ⟨by rfl, fun W hW => by obtain ⟨q0, q1, q2, q3⟩ := hW; go_simp; try rfl⟩) hS0 ?_
  try simp only [Act.put, List.setIfInBounds_toArray, List.set_cons_zero, List.set_cons_succ]
  refine wpAnyS_take (i := 7) (d := some 13) (v := .pointer (some ⟨pb, po, none⟩)) rfl rfl rfl (by kernel_rfl) (by kernel_rfl) (by kernel_rfl) (by kernel_rfl) (fun _ _ _ h => h) (.inl ⟨by rfl, fun W hW => by obtain ⟨q0, q1, q2, q3⟩ := hW; go_simp; try rfl⟩) hS0 ?_
  try simp only [Act.put, List.setIfInBounds_toArray, List.set_cons_zero, List.set_cons_succ]
  refine wpAnyS_take (i := 8) (d := some 14) (v := .int .i64 x) rfl rfl rfl (by kernel_rfl) (by kernel_rfl) (by kernel_rfl) (by kernel_rfl) (fun _ _ _ h => h) (.inl ⟨by rfl, fun W hW => by obtain ⟨q0, q1, q2, q3⟩ := hW; go_simp; try rfl⟩) hS0 ?_
  try simp only [Act.put, List.setIfInBounds_toArray, List.set_cons_zero, List.set_cons_succ]
  obtain ⟨i0, hi, hy0, hy1, hy2⟩ := info_parts info_int
  have hS1 : (fun W : World => W.cell? ⟨Br, 0, none⟩ = some (.slice (some ⟨R, 0, none⟩) 21 21) ∧ W.cell? ⟨Bc, 0, none⟩ = some (.int .i64 c) ∧ W.cell? ⟨R, c, none⟩ = some (.slice sa sn sc) ∧ W.cell? ⟨pb, po, none⟩ = some (.int .i64 x)) (W1.alloc (.cells #[.int .i64 x] 3)) := ⟨cell_alloc hS0.1 _, cell_alloc hS0.2.1 _, cell_alloc hS0.2.2.1 _, cell_alloc hS0.2.2.2 _⟩
  refine wpAnyS_ran (i := 9) (d := some 15) (v := .slice (some ⟨W1.heap.size, 0, none⟩) 1 1) (w' := W1.alloc (.cells #[.int .i64 x] 3)) (by kernel_rfl) rfl rfl (by rfl) (by go_simp; try rfl) (fun _ => hS1) ?_
  try simp only [Act.put, List.setIfInBounds_toArray, List.set_cons_zero, List.set_cons_succ]
  obtain ⟨v', w3, hr3, hown3, hx3, hn3⟩ := append_struct_run (P := Tryz.prog) 100 100 i0 _ 8 Tryz.underlying100 hi hy0 hy1 hy2 rfl (by omega) intc_len intc_one (hoc1.alloc (.cells #[.int .i64 x] 3)) x W1.heap.size 1 (int_new W1 x) (by unfold maxLen; omega) (by omega) (by rw [World.size_alloc]; omega)
  obtain ⟨⟨ua, un, uc⟩, e3⟩ := hown3.sl
  dsimp only at e3
  subst e3
  have hxa : Ext (fun k => (Value.slice sa sn sc).ownBlock = some k) W w3 := ((hW0.mono (fun _ _ f => f.elim)).alloc _).andThen hx3 (fun i hi e => e)
  have nk : ∀ {k : Nat}, (A k ∨ k < base ∨ k = Bc) → ¬ (Value.slice sa sn sc).ownBlock = some k := fun h e => by
    obtain ⟨e1, e2, _, e4⟩ := nO _ e
    rcases h with h | h | h
    · exact e1 h
    · omega
    · exact e4 h
  have hS3 : (fun W : World => W.cell? ⟨Br, 0, none⟩ = some (.slice (some ⟨R, 0, none⟩) 21 21) ∧ W.cell? ⟨Bc, 0, none⟩ = some (.int .i64 c) ∧ W.cell? ⟨R, c, none⟩ = some (.slice sa sn sc) ∧ W.cell? ⟨pb, po, none⟩ = some (.int .i64 x)) w3 := ⟨hxa.keep (cell_of_one HOLD.out.2.1) (nk (.inr (.inl d5))), hxa.keep (cell_of_one HOLD.out.2.2.1) (nk (.inr (.inr rfl))), hx3.keep hS1.2.2.1 (nk (.inr (.inl d4))), hxa.keep HOLD.out.2.2.2.1 (nk (.inl hA))⟩
  refine wpAnyS_ran (i := 10) (d := some 16) (v := .slice ua un uc) (w' := w3) (by kernel_rfl) rfl rfl (by rfl) (exec_append rfl rfl rfl hr3) (fun _ => hS3) ?_
  try simp only [Act.put, List.setIfInBounds_toArray, List.set_cons_zero, List.set_cons_succ]
  refine wpAnyS_take (i := 11) (d := some 17) (v := .pointer (some ⟨R, c, none⟩)) rfl rfl rfl (by kernel_rfl) (by kernel_rfl) (by kernel_rfl) (by kernel_rfl) (fun _ _ _ h => h) (.inl ⟨by rfl, fun W hW => by obtain ⟨q0, q1, q2, q3⟩ := hW; go_simp; try rfl⟩) hS3 ?_
  try simp only [Act.put, List.setIfInBounds_toArray, List.set_cons_zero, List.set_cons_succ]
  have hR3 : w3.heap[R]? = some (.cells cs 100 (0, 0)) := (hxa.block _ lR (nk (.inr (.inl d4)))).trans HOLD.out.1
  have f3 : w3.frozen? ⟨R, c, none⟩ = false := by simp [World.frozen?, hR3]
  have c3 := hS3.2.2.1
  refine wpAnyS_mute (i := 12) (d := none) (w' := w3.setCell ⟨R, c, none⟩ (.slice ua un uc)) (by kernel_rfl) rfl rfl (by rfl) (by go_simp; try rfl) (fun h => by cases h) ?_
  try simp only [Act.put, List.setIfInBounds_toArray, List.set_cons_zero, List.set_cons_succ]
  refine wpAnyS_done (by kernel_rfl) ?_ _
  have hx4 : Ext (· = R) w3 (w3.setCell ⟨R, c, none⟩ (.slice ua un uc)) := (Ext.refl (· = R) w3).setCell (p := ⟨R, c, none⟩) (.inr rfl) _
  have hR4 : (w3.setCell ⟨R, c, none⟩ (.slice ua un uc)).heap[R]? = some (.cells (cs.setIfInBounds c (.slice ua un uc)) 100 (0, 0)) := heap_setCell_same w3 _ c cs _ (.slice ua un uc) hR3
  have l3 := hxa.size
  have l4 := hx4.size
  have hBc4 : (w3.setCell ⟨R, c, none⟩ (.slice ua un uc)).heap[Bc]? = some (.cells #[.int .i64 c] 3 (0, 0)) := (hx4.block _ (by omega) (fun e => d2 e.symm)).trans ((hxa.block _ d6 (nk (.inr (.inr rfl)))).trans HOLD.out.2.2.1)
  have hBr4 : (w3.setCell ⟨R, c, none⟩ (.slice ua un uc)).heap[Br]? = some (.cells #[.slice (some ⟨R, 0, none⟩) 21 21] 161 (0, 0)) := (hx4.block _ (by omega) (fun e => d1 e.symm)).trans ((hxa.block _ lBr (nk (.inr (.inl d5)))).trans HOLD.out.2.1)
  have ho4 : Own intc 1 3 base (w3.setCell ⟨R, c, none⟩ (.slice ua un uc)) (.slice ua un uc) (Ls c ++ [x]) := hown3.ext hx4 (fun k hk e => by have := (hown3.blk k hk).1; omega)
  have hoq : ∀ q, q < 21 → q ≠ c → Own intc 1 3 base (w3.setCell ⟨R, c, none⟩ (.slice ua un uc)) (cs.getD q undef) (rowAt Ls o c q) := fun q hq hqc => ((HOLD.out.2.2.2.2.2 q hq).ext hxa (fun k hk e => HDIS.out q c hq hc hqc k hk (by rw [HE.out]; exact e))).ext hx4 (fun k hk e => by have := ((HOLD.out.2.2.2.2.2 q hq).blk k hk).1; omega)
  have hu : ∀ k, (Value.slice ua un uc).ownBlock = some k → (Value.slice sa sn sc).ownBlock = some k ∨ W.heap.size ≤ k := fun k hk => (hn3 k hk).imp id (fun e => by rw [World.size_alloc] at e; omega)
  have hrows : ∀ W5, Ext (· = Bc) (w3.setCell ⟨R, c, none⟩ (.slice ua un uc)) W5 → RowsIn R base (rowAt Ls o (c + 1)) A W5 := fun W5 hx5 => by
    refine ⟨_, by rw [Array.size_setIfInBounds]; exact hcs, (hx5.block _ (by omega) d2).trans hR4, fun q hq => ?_, fun q r hq hrr hqr k hk => ?_, fun q hq k hk => ?_⟩
    · rw [getD_set cs c q _ (by omega)]
      by_cases e : q = c
      · subst e
        rw [if_pos rfl, show rowAt Ls o (q + 1) q = Ls q ++ [x] by unfold rowAt; rw [if_pos (by omega), HX.out]]
        exact ho4.ext hx5 (fun k hk e => (hu k hk).elim (fun e2 => (nO k e2).2.2.2 e) (fun e2 => by omega))
      · rw [if_neg e, show rowAt Ls o (c + 1) q = rowAt Ls o c q by unfold rowAt; by_cases h : q < c; rw [if_pos h, if_pos (by omega)]; rw [if_neg h, if_neg (by omega)]]
        exact (hoq q hq e).ext hx5 (fun k hk e2 => HNC.out cs HOLD.out.1 q hq (by rw [← e2]; exact hk))
    · rw [getD_set cs c _ _ (by omega)] at hk ⊢
      by_cases e : q = c
      · rw [if_pos e] at hk
        rw [if_neg (fun e2 => hqr (e.trans e2.symm))]
        intro hk2
        rcases hu k hk with e2 | e2
        · exact HDIS.out r c hrr hc (fun e3 => hqr (e.trans e3.symm)) k hk2 (by rw [HE.out]; exact e2)
        · have := ((HOLD.out.2.2.2.2.2 r hrr).blk k hk2).2; omega
      · rw [if_neg e] at hk
        by_cases e3 : r = c
        · rw [if_pos e3]
          intro hk2
          rcases hu k hk2 with e2 | e2
          · exact HDIS.out q c hq hc e k hk (by rw [HE.out]; exact e2)
          · have := ((HOLD.out.2.2.2.2.2 q hq).blk k hk).2; omega
        · rw [if_neg e3]
          exact HDIS.out q r hq hrr hqr k hk
    · rw [getD_set cs c _ _ (by omega)] at hk
      by_cases e : q = c
      · rw [if_pos e] at hk
        intro ha
        rcases hu k hk with e2 | e2
        · exact (nO k e2).1 ha
        · have := HAL.out k ha; omega
      · rw [if_neg e] at hk
        exact HNA.out q hq k hk
  have hX4 : Ext (fun k => ¬ A k) W (w3.setCell ⟨R, c, none⟩ (.slice ua un uc)) := (hxa.mono (fun k _ e => (nO k e).1)).andThen hx4 (fun i hi e => by rw [e]; exact nR)
  have HALL := Lib.hid (And.intro hrows (And.intro hX4 (And.intro hR4 (And.intro hBr4 (And.intro hBc4 hu)))))
  have b4 := cell_of_one hBc4
  have f4 := free_of_one hBc4
  have hs4 : W.heap.size ≤ (w3.setCell ⟨R, c, none⟩ (.slice ua un uc)).heap.size := by omega
  generalize w3.setCell ⟨R, c, none⟩ (.slice ua un uc) = W4 at HALL b4 f4 hs4 ⊢
  clear hrows hX4 hR4 hBr4 hBc4 hx4 hx3 hxa hown3 ho4 hoq hS0 hS1 hS3 hR3 f3 c3 hr3 hW0 hoc1 hn3 hu nk l3 l4
  have hx5 : Ext (· = Bc) W4 (W4.setCell ⟨Bc, 0, none⟩ (.int .i64 ((c + 1 : Nat) : Int))) := (Ext.refl (· = Bc) W4).setCell (p := ⟨Bc, 0, none⟩) (.inr rfl) _
  have hX5 : Ext (fun k => ¬ A k) W (W4.setCell ⟨Bc, 0, none⟩ (.int .i64 ((c + 1 : Nat) : Int))) := HALL.out.2.1.andThen hx5 (fun i hi e => by rw [e]; exact nBc)
  have hP : ∀ q, (W4.setCell ⟨Bc, 0, none⟩ (.int .i64 ((c + 1 : Nat) : Int))).cell? ⟨pb, q, none⟩ = W.cell? ⟨pb, q, none⟩ := fun q => hX5.cell (p := ⟨pb, q, none⟩) lpb (fun h => h hA)
  have hPf : ∀ q, (W4.setCell ⟨Bc, 0, none⟩ (.int .i64 ((c + 1 : Nat) : Int))).frozen? ⟨pb, q, none⟩ = W.frozen? ⟨pb, q, none⟩ := fun q => hX5.frozen (p := ⟨pb, q, none⟩) lpb (fun h => h hA)
  have hz5 : (W4.setCell ⟨Bc, 0, none⟩ (.int .i64 ((c + 1 : Nat) : Int))).heap.size = W4.heap.size := World.size_setCell _ _ _
  have hJ5 : JE R Br Bc base Ls o (c + 1) A (W4.setCell ⟨Bc, 0, none⟩ (.int .i64 ((c + 1 : Nat) : Int))) := ⟨HALL.out.1 _ hx5, (hx5.block _ (by omega) d3).trans HALL.out.2.2.2.1, one_setCell HALL.out.2.2.2.2.1, ⟨nR, nBr, nBc⟩, ⟨d1, d2, d3, d4, d5, by omega⟩, by omega, fun k hk => by have := HAL.out k hk; omega, fun cs5 hcs5 q hq hk => by
    have h5 := (hx5.block _ (by omega) d2).trans HALL.out.2.2.1
    rw [h5] at hcs5
    cases hcs5
    rw [getD_set cs c _ _ (by omega)] at hk
    by_cases e : q = c
    · rw [if_pos e] at hk
      exact (HALL.out.2.2.2.2.2 _ hk).elim (fun e2 => (nO _ e2).2.2.2 rfl) (fun e2 => by omega)
    · rw [if_neg e] at hk
      exact HNC.out cs HOLD.out.1 q hq hk⟩
  have hfc : (W4.setCell ⟨Bc, 0, none⟩ (.int .i64 ((c + 1 : Nat) : Int))).cell? ⟨pb, po, none⟩ = some (.int .i64 (fld o c)) := by rw [HX.out, hP]; exact HOLD.out.2.2.2.1
  have HFIN := Lib.hid (And.intro hJ5 (And.intro hfc (And.intro (fun q (_ : q ≠ po) => hP q) (And.intro hPf (And.intro (hX5.mono (T := fun k => ¬ A k ∨ k = pb) (fun k _ e => .inl e)) (Shp.same (W := W) (pb := pb) (hX5.block pb lpb (fun h => h hA))))))))
  clear hJ5 hP hPf hX5 hx5 hz5 hfc
  go_wp2_with fail
  go_end0
  exact ⟨⟨_, rfl⟩, HFIN.out⟩
set_option maxRecDepth 20000 in
set_option maxHeartbeats 1000000 in
theorem may_any (x : OpD) (n r : Int) (w : World) : Calls Tryz.prog 141 #[x.val, .agg #[.int .i64 n, .int .i64 r]] w fun e w' => e = .returned (.bool (x.may ⟨n, r⟩)) ∧ Below w.heap.size w w' := by
  obtain ⟨id, d0, d1, d2, d3, d4, d5, d6, d7, kind, ref, side, ch, under, key, name, value, fr, fa, tr, ta⟩ := x
  unfold OpD.val OpD.cells OpD.may OpD.deps
  dsimp only
  go_enter Tryz.func141, Tryz.ntmps141
  go_wp2_with fail
  refine (right_any n r _).mono ?_
  rintro e w1 ⟨rfl, b1⟩
  have hb0 : Below w.heap.size w w1 := (((Below.refl _ _).alloc (Nat.le_refl _) _).alloc (by simp) _).trans (b1.mono (by simp <;> omega))
  have k2 : w1.cell? ⟨w.heap.size, 2, none⟩ = some (.int .i64 d0) := keepB b1 (by go_simp)
  have k3 : w1.cell? ⟨w.heap.size, 3, none⟩ = some (.int .i64 d1) := keepB b1 (by go_simp)
  have k4 : w1.cell? ⟨w.heap.size, 4, none⟩ = some (.int .i64 d2) := keepB b1 (by go_simp)
  have k5 : w1.cell? ⟨w.heap.size, 5, none⟩ = some (.int .i64 d3) := keepB b1 (by go_simp)
  have k6 : w1.cell? ⟨w.heap.size, 6, none⟩ = some (.int .i64 d4) := keepB b1 (by go_simp)
  have k7 : w1.cell? ⟨w.heap.size, 7, none⟩ = some (.int .i64 d5) := keepB b1 (by go_simp)
  have k8 : w1.cell? ⟨w.heap.size, 8, none⟩ = some (.int .i64 d6) := keepB b1 (by go_simp)
  have k9 : w1.cell? ⟨w.heap.size, 9, none⟩ = some (.int .i64 d7) := keepB b1 (by go_simp)
  have s0 : w1.cell? ⟨w.heap.size + 1, 0, none⟩ = some (.int .i64 n) := keepB b1 (by go_simp)
  have s1 : w1.cell? ⟨w.heap.size + 1, 1, none⟩ = some (.int .i64 r) := keepB b1 (by go_simp)
  have HB := Lib.hid hb0
  clear hb0 b1
  cases hr : rightB ⟨n, r⟩ with
  | false =>
    have HR := Lib.hid hr
    clear hr
    go_wp2_with fail
    go_ret
    exact ⟨by rw [HR.out]; rfl, HB.out⟩
  | true =>
    have HR := Lib.hid hr
    clear hr
    go_wp2_with fail
    refine (has_any d0 d1 d2 d3 d4 d5 d6 d7 n r _).mono ?_
    rintro e w2 ⟨rfl, b2⟩
    go_wp2_with fail
    go_ret
    exact ⟨by rw [HR.out]; rfl, HB.out.trans (b2.mono HB.out.size)⟩
end Go.Proofs.YtgmdimbiipemhaaGreatDoor
namespace Go.Proofs.YtgmdimbiipemhaaGreatDoor
open Go.RowKit
theorem info_int8 : ∃ i, Tryz.prog.info? 3 = some i := by
  cases h : Tryz.prog.info? 3 with
  | none => exact absurd h (by decide +kernel)
  | some i => exact ⟨i, rfl⟩
theorem cells_int8 : Tryz.prog.cellsOf 3 = 1 := by kernel_rfl
set_option maxHeartbeats 2000000 in
theorem eq_vec (a0 a1 a2 a3 a4 a5 a6 a7 b0 b1 b2 b3 b4 b5 b6 b7 : Int) (w : World) : (Op.equalIn 9999 32 (.agg #[.int .i64 a0, .int .i64 a1, .int .i64 a2, .int .i64 a3, .int .i64 a4, .int .i64 a5, .int .i64 a6, .int .i64 a7]) (.agg #[.int .i64 b0, .int .i64 b1, .int .i64 b2, .int .i64 b3, .int .i64 b4, .int .i64 b5, .int .i64 b6, .int .i64 b7])).run Tryz.prog w = .ok (decide (([a0, a1, a2, a3, a4, a5, a6, a7] : List Int) = [b0, b1, b2, b3, b4, b5, b6, b7])) w := by
  obtain ⟨i, hi⟩ := info_int8
  rw [show (9999 : Nat) = 9998 + 1 from rfl, run_equalIn_array w 9998 _ _ Tryz.underlying32 hi, cells_int8, show List.range 8 = [0, 1, 2, 3, 4, 5, 6, 7] from rfl]
  simp only [Op.eqItems]
  go_simp
  by_cases h0 : a0 = b0
  case neg => simp [h0]
  subst h0
  by_cases h1 : a1 = b1
  case neg => simp [h1]
  subst h1
  by_cases h2 : a2 = b2
  case neg => simp [h2]
  subst h2
  by_cases h3 : a3 = b3
  case neg => simp [h3]
  subst h3
  by_cases h4 : a4 = b4
  case neg => simp [h4]
  subst h4
  by_cases h5 : a5 = b5
  case neg => simp [h5]
  subst h5
  by_cases h6 : a6 = b6
  case neg => simp [h6]
  subst h6
  by_cases h7 : a7 = b7
  case neg => simp [h7]
  subst h7
  simp
set_option maxRecDepth 100000 in
set_option maxHeartbeats 4000000 in
theorem eq_op (x y : OpD) (w : World) : (Op.equal 68 x.val y.val).run Tryz.prog w = .ok (decide (x = y)) w := by
  obtain ⟨⟨i1, i2⟩, p0, p1, p2, p3, p4, p5, p6, p7, kind, ⟨r1, r2⟩, side, ch, ⟨u1, u2⟩, key, name, value, ⟨f1, f2⟩, fa, ⟨t1, t2⟩, ta⟩ := x
  obtain ⟨⟨j1, j2⟩, q0, q1, q2, q3, q4, q5, q6, q7, kind', ⟨s1, s2⟩, side', ch', ⟨v1, v2⟩, key', name', value', ⟨g1, g2⟩, fa', ⟨z1, z2⟩, ta'⟩ := y
  have hv := eq_vec p0 p1 p2 p3 p4 p5 p6 p7 q0 q1 q2 q3 q4 q5 q6 q7
  unfold Op.equal Op.maxDepth OpD.val OpD.cells
  dsimp only
  go_simp
  simp only [eq_bytes]
  by_cases h : i1 = j1
  case neg => simp [h]
  subst h
  by_cases h : i2 = j2
  case neg => simp [h]
  subst h
  by_cases h : p0 = q0
  case neg => simp [h]
  subst h
  by_cases h : p1 = q1
  case neg => simp [h]
  subst h
  by_cases h : p2 = q2
  case neg => simp [h]
  subst h
  by_cases h : p3 = q3
  case neg => simp [h]
  subst h
  by_cases h : p4 = q4
  case neg => simp [h]
  subst h
  by_cases h : p5 = q5
  case neg => simp [h]
  subst h
  by_cases h : p6 = q6
  case neg => simp [h]
  subst h
  by_cases h : p7 = q7
  case neg => simp [h]
  subst h
  by_cases h : kind = kind'
  case neg => simp [h]
  subst h
  by_cases h : r1 = s1
  case neg => simp [h]
  subst h
  by_cases h : r2 = s2
  case neg => simp [h]
  subst h
  by_cases h : side = side'
  case neg => simp [h]
  subst h
  by_cases h : ch = ch'
  case neg => simp [h]
  subst h
  by_cases h : u1 = v1
  case neg => simp [h]
  subst h
  by_cases h : u2 = v2
  case neg => simp [h]
  subst h
  by_cases h : key = key'
  case neg => simp [h]
  subst h
  by_cases h : name = name'
  case neg => simp [h]
  subst h
  by_cases h : value = value'
  case neg => simp [h]
  subst h
  by_cases h : f1 = g1
  case neg => simp [h]
  subst h
  by_cases h : f2 = g2
  case neg => simp [h]
  subst h
  by_cases h : fa = fa'
  case neg => simp [h]
  subst h
  by_cases h : t1 = z1
  case neg => simp [h]
  subst h
  by_cases h : t2 = z2
  case neg => simp [h]
  subst h
  by_cases h : ta = ta'
  case neg => simp [h]
  subst h
  simp
theorem run_eql_op (x y : OpD) (w : World) : (binOp .eql 68 x.val y.val).run Tryz.prog w = .ok (.bool (decide (x = y))) w := by
  have h := eq_op x y w
  unfold OpD.val at h ⊢
  simp only [binOp, Sem.run_bind, h, Result.andThen_ok, Sem.run_pure]
section
variable {α : Type} {ea : α → List Value} {k : Nat} {T : TypeId} {sz : Nat} {w w' : World} {blk n : Nat} {f : Nat → α}
end
section
variable {P : Program} {α : Type} {ea : α → List Value} {k sz blk n : Nat} {T : TypeId} {w : World} {f : Nat → α}
theorem addr_add (b o j : Nat) : (⟨b, o, none⟩ : Addr).add j = ⟨b, o + j, none⟩ := by unfold Addr.add; split <;> simp_all
structure StructTy (P : Program) (T : TypeId) (k : Nat) : Prop where
  agg : ∀ w, (isAgg T).run P w = .ok true w
  size : ∀ w, (sizeOf T).run P w = .ok k w
theorem exec_load {o : Oper} {ρ : Operand → Value} {T : TypeId} {x : Operand} {q v : Value} {W : World} (ho : o.op = .load T x) (hx : ρ x = q) (h : (Instr.loadAt T q).run P W = .ok v W) : (execOp ρ o).run P W = .ok (.value v) W := by
  unfold execOp; simp [ho, hx, h, Result.andThen]
theorem exec_store {o : Oper} {ρ : Operand → Value} {T : TypeId} {p x : Operand} {q v : Value} {W W' : World} (ho : o.op = .store T p x) (hp : ρ p = q) (hx : ρ x = v) (h : (Instr.storeAt T q v).run P W = .ok () W') : (execOp ρ o).run P W = .ok .skip W' := by
  unfold execOp; simp [ho, hp, hx, h, Result.andThen]
end
section
variable {P : Program}
theorem load_of_cells {T : TypeId} {k b o : Nat} {w : World} {cs : List Value} (ht : StructTy P T k) (hk : cs.length = k) (hc : ∀ j u, cs[j]? = some u → w.cell? ⟨b, o + j, none⟩ = some u) :
    (Instr.loadAt T (.pointer (some ⟨b, o, none⟩))).run P w = .ok (.agg cs.toArray) w := by
  have hl := run_loadCells_list (P := P) w ⟨b, o, none⟩ cs (fun j v hj => by rw [addr_add]; exact hc j v hj)
  rw [hk] at hl
  simp [Instr.loadAt, Instr.sureAddr, loadVar, ht.agg, ht.size, hl]
theorem heap_new (w : World) (o : Obj) : (w.alloc o).heap[w.heap.size]? = some o := by
  show (w.heap.push o)[w.heap.size]? = _
  simp
theorem run_store_fresh {T : TypeId} {k : Nat} (ht : StructTy P T k) {W : World} {z : Array Value} {cs : List Value} (hz : z.size = cs.length) (hk : cs.length = k) (h1 : ∀ u ∈ cs, u.oneCell' = true) :
    (Instr.storeAt T (.pointer (some ⟨W.heap.size, 0, none⟩)) (.agg cs.toArray)).run P (W.alloc (.cells z T)) = .ok () (W.alloc (.cells cs.toArray T)) := by
  have hst := run_storeCells_at P W.heap.size 0 T cs 0 z (W.alloc (.cells z T)) (heap_new W _) (by omega) h1
  simp [Instr.storeAt, Instr.sureAddr, storeVar, ht.size, Value.cells, hk, hst]
  have e : z.toList.drop k = [] := List.drop_eq_nil_of_le (by simp; omega)
  rw [e, List.append_nil]
  have e2 : ((W.alloc (.cells z T)).setRow W.heap.size cs.toArray).heap = (W.alloc (.cells cs.toArray T)).heap := by
    refine Array.ext_getElem? fun i => ?_
    by_cases hi : W.heap.size = i
    · subst hi
      rw [setRow_heap _ _ z _ T (0, 0) (heap_new W _), heap_new]
    · simp only [World.setRow, Array.getElem?_modify, if_neg hi]
      show (W.heap.push _)[i]? = (W.heap.push _)[i]?
      rw [Array.getElem?_push, Array.getElem?_push, if_neg (fun e => hi (Eq.symm e)), if_neg (fun e => hi (Eq.symm e))]
  have e3 : ∀ A B : World, A.heap = B.heap → A.tape = B.tape → A.drawn = B.drawn → A.os = B.os → A.output = B.output → A = B := by
    rintro ⟨⟩ ⟨⟩ rfl rfl rfl rfl rfl
    rfl
  exact e3 _ _ e2 rfl rfl rfl rfl
end
section
variable {P : Program} {F : Fence} {m : Nat} {ops : Array Oper} {rest : List Oper} {o : Oper} {a : Act} {Q : Exit → Act → World → Prop} {W W' : World}
theorem wpList_build_run (hg : o.guard = none) {T : TypeId} {ps : Array (Nat × Operand)} {vs : Array (Nat × Value)} {v : Value} (ho : o.op = .build T ps) (hx : (ps.map fun p => (p.1, a.eval p.2)) = vs)
    (hr : (Instr.build T vs).run P W = .ok v W) (h : wpList P ops Q rest (a.put o.dst v) W) : wpList P ops Q (o :: rest) a W :=
  wpList_plain hg fun _ hK => by
    subst hx
    rw [Oper.wp, show (execOp a.eval o).run P W = .ok (.value v) W from by simp [execOp, ho, hr, Result.andThen]]
    exact hK _ _ h
theorem wpList_buildSlice_run (hg : o.guard = none) {T : TypeId} {n : Nat} {ps : Array (Nat × Operand)} {vs : Array (Nat × Value)} {v : Value} (ho : o.op = .buildSlice T n ps) (hx : (ps.map fun p => (p.1, a.eval p.2)) = vs)
    (hr : (Instr.buildSlice T n vs).run P W = .ok v W') (h : wpList P ops Q rest (a.put o.dst v) W') : wpList P ops Q (o :: rest) a W :=
  wpList_plain hg fun _ hK => by
    subst hx
    rw [Oper.wp, show (execOp a.eval o).run P W = .ok (.value v) W' from by simp [execOp, ho, hr, Result.andThen]]
    exact hK _ _ h
theorem wpList_store_run (hg : o.guard = none) {T : TypeId} {p x : Operand} {q v : Value} (ho : o.op = .store T p x) (hp : a.eval p = q) (hx : a.eval x = v)
    (hr : (Instr.storeAt T q v).run P W = .ok () W') (h : wpList P ops Q rest (a.put o.dst undef) W') : wpList P ops Q (o :: rest) a W :=
  wpList_plain hg fun _ hK => by
    rw [Oper.wp, exec_store ho hp hx hr]
    exact hK _ _ h
theorem wpList_slice1_run (hg : o.guard = none) {T : TypeId} {n : Nat} {x0 : Operand} {v0 v : Value} (ho : o.op = .buildSlice T n #[(0, x0)]) (h0 : a.eval x0 = v0)
    (hr : (Instr.buildSlice T n #[(0, v0)]).run P W = .ok v W') (h : wpList P ops Q rest (a.put o.dst v) W') : wpList P ops Q (o :: rest) a W :=
  wpList_buildSlice_run hg ho (by simp [h0]) hr h
end
end Go.Proofs.YtgmdimbiipemhaaGreatDoor
namespace Go.Proofs.YtgmdimbiipemhaaGreatDoor
open Go.RowKit Go.Deep
theorem op_ty : StructTy Tryz.prog 68 26 := ⟨fun w => by kernel_rfl, fun w => by kernel_rfl⟩
theorem stamp_ty : StructTy Tryz.prog 62 2 := ⟨fun w => by kernel_rfl, fun w => by kernel_rfl⟩
theorem vec_ty : StructTy Tryz.prog 32 8 := ⟨fun w => by kernel_rfl, fun w => by kernel_rfl⟩
theorem anch_ty : StructTy Tryz.prog 66 3 := ⟨fun w => by kernel_rfl, fun w => by kernel_rfl⟩
def OB (B : Nat) (o : OpD) (W : World) : Prop := W.heap[B]? = some (.cells o.cells.toArray 68 (0, 0))
section
variable {B : Nat} {o : OpD} {W : World}
theorem OB.new (w : World) (o : OpD) : OB w.heap.size o (w.alloc (.cells o.cells.toArray 68)) := heap_new8 w _
theorem OB.lt (h : OB B o W) : B < W.heap.size := (Array.getElem?_eq_some_iff.1 h).1
theorem OB.cell (h : OB B o W) {j : Nat} {u : Value} (hj : o.cells[j]? = some u) : W.cell? ⟨B, j, none⟩ = some u := by
  unfold World.cell?
  rw [h]
  simpa using hj
theorem OB.free (h : OB B o W) (j : Nat) : W.frozen? ⟨B, j, none⟩ = false := by
  unfold World.frozen?
  rw [h]
  simp
theorem OB.below {k : Nat} {W' : World} (h : OB B o W) (hb : Below k W W') (hk : B < k) : OB B o W' := (hb.block B hk).trans h
theorem OB.ext {S : Nat → Prop} {W' : World} (h : OB B o W) (hx : Ext S W W') (hn : ¬ S B) : OB B o W' := (hx.block B h.lt hn).trans h
theorem OB.alloc (h : OB B o W) (x : Obj) : OB B o (W.alloc x) := (Below.heap_alloc W x B h.lt).trans h
theorem OB.part (h : OB B o W) {T : TypeId} {k : Nat} (ht : StructTy Tryz.prog T k) (off : Nat) (vs : List Value) (hk : vs.length = k) (hv : (o.cells.drop off).take k = vs) : (Instr.loadAt T (.pointer (some ⟨B, off, none⟩))).run Tryz.prog W = .ok (.agg vs.toArray) W :=
  load_of_cells ht hk (fun j u hj => h.cell (by
    rw [← hv, List.getElem?_take] at hj
    split at hj
    · rw [List.getElem?_drop] at hj; exact hj
    · cases hj))
theorem OB.whole (h : OB B o W) : (Instr.loadAt 68 (.pointer (some ⟨B, 0, none⟩))).run Tryz.prog W = .ok (.agg o.cells.toArray) W :=
  h.part op_ty 0 _ rfl rfl
theorem OB.store (h : OB B o W) {T : TypeId} {k off : Nat} (hsz : ∀ w, (sizeOf T).run Tryz.prog w = .ok k w) {v : Value} {vs : List Value} (hc : v.cells = vs.toArray) (hk : vs.length = k) (h1 : ∀ u ∈ vs, u.oneCell' = true) (hf : off + k ≤ 26) (o' : OpD) (ho : o'.cells = o.cells.take off ++ vs ++ o.cells.drop (off + k)) :
    ∃ W', (Instr.storeAt T (.pointer (some ⟨B, off, none⟩)) v).run Tryz.prog W = .ok () W' ∧ OB B o' W' ∧ Ext (· = B) W W' := by
  have hst := run_storeCells_at Tryz.prog B off 68 vs 0 o.cells.toArray W h (by rw [hk, List.size_toArray, OpD.len]; omega) h1
  rw [hk, Nat.add_zero] at hst
  refine ⟨W.setRow B o'.cells.toArray, ?_, setRow_heap W B _ _ _ _ h, ⟨rfl, rfl, rfl, by simp [World.setRow], fun q hq hn => by simp [World.setRow, Array.getElem?_modify]; intro e; exact absurd e.symm hn⟩⟩
  rw [ho]
  simp [Instr.storeAt, Instr.sureAddr, storeVar, hsz, hc, hk, hst]
end
theorem size_t25 : ∀ w, (sizeOf 62).run Tryz.prog w = .ok 2 w := stamp_ty.size
theorem size_t31 : ∀ w, (sizeOf 66).run Tryz.prog w = .ok 3 w := anch_ty.size
theorem size_t3 : ∀ w, (sizeOf 3).run Tryz.prog w = .ok 1 w := fun w => by kernel_rfl
theorem size_t29 : ∀ w, (sizeOf 64).run Tryz.prog w = .ok 1 w := fun w => by kernel_rfl
theorem size_t9 : ∀ w, (sizeOf 9).run Tryz.prog w = .ok 1 w := fun w => by kernel_rfl
end Go.Proofs.YtgmdimbiipemhaaGreatDoor
