/- append of bytes to the call's own bytes; how long a column is. -/
import Derived.Test.YtgmdimbiipemhaaGreatDoorCnv08
import Derived.Test.YtgmdimbiipemhaaGreatDoorColP08
import Derived.Laws.AppendOwn
import Derived.Lib.AppendZeros
namespace Go.Proofs.YtgmdimbiipemhaaGreatDoor
open Go.RowKit Go.Deep
set_option linter.unusedSimpArgs false
set_option linter.unusedVariables false

section
variable {P : Program} {w : World} {α : Type} {ea : α → List Value} {k : Nat} {e : TypeId} {base : Nat} {v vx : Value} {l ys : List α}
theorem run_append_none (t ty : TypeId) (i : TypeInfo) (ht : P.underlying t = some (.slice e)) (hi : P.info? e = some i) (b : Option Addr) (n cap c : Nat) (hc : n ≤ cap) :
    (Builtin.append_ #[t, t] ty #[.slice b n cap, .slice none 0 c]).run P w = .ok (.slice b n cap) w := by
  cases b <;> simp [Builtin.append_, run_underlying ht, sizeOf, typeInfo, hi, Builtin.lenOf, Builtin.firstCells, loadCells, loadCellsFrom, storeCells, hc]

theorem append_structs (t ty : TypeId) (i : TypeInfo) (z : Value) (bytes : Nat) (ht : P.underlying t = some (.slice e)) (hi : P.info? e = some i) (hz : i.zero = some z)
    (hsize : i.size = k) (hby : i.bytes = bytes) (hzs : z.cells.size = k) (hk0 : 0 < k) (hk : ∀ x, (ea x).length = k) (h1 : ∀ x, ∀ u ∈ ea x, u.oneCell' = true)
    (hown : Own ea k e base w v l) (hx : SliceIs ea k w vx ys) (h63 : l.length + ys.length ≤ maxLen) (hbytes : (l.length + ys.length) * bytes ≤ 140737488355328) (hbase : base ≤ w.heap.size) :
    ∃ v' w', (Builtin.append_ #[t, t] ty #[v, vx]).run P w = .ok v' w' ∧ Own ea k e base w' v' (l ++ ys) ∧ Ext (fun b => v.ownBlock = some b) w w' := by
  obtain ⟨a, cap, rfl, hcap, hmax, hcs⟩ := hx
  cases a with
  | none =>
    have hys : ys = [] := Classical.byContradiction fun hn => by obtain ⟨b, o, e, _⟩ := hcs hn; cases e
    subst hys
    obtain ⟨sa, sc, rfl, hsc, _⟩ := hown.slice hk
    refine ⟨_, w, run_append_none t ty i ht hi sa l.length sc cap hsc, by rw [List.append_nil]; exact hown, Ext.refl _ _⟩
  | some ad =>
    have hnews : ∀ j u, (ys.flatMap ea)[j]? = some u → w.cell? (ad.add j) = some u := fun j u hj => by
      have hne : ys ≠ [] := fun e => by rw [e] at hj; simp at hj
      obtain ⟨b, o, e, h2⟩ := hcs hne
      cases e
      have hjl := (List.getElem?_eq_some_iff.1 hj).1
      rw [length_flatMap_k hk] at hjl
      have hdm : j / k * k + j % k = j := by rw [Nat.mul_comm]; exact Nat.div_add_mod j k
      have hq : j / k < ys.length := Nat.div_lt_of_lt_mul (by rw [Nat.mul_comm]; exact hjl)
      obtain ⟨x, hx⟩ : ∃ x, ys[j / k]? = some x := ⟨_, List.getElem?_eq_getElem hq⟩
      obtain ⟨u', hu'⟩ : ∃ u', (ea x)[j % k]? = some u' := ⟨_, List.getElem?_eq_getElem (by rw [hk]; exact Nat.mod_lt _ hk0)⟩
      have h3 := getElem?_flatMap_k hk ys (j / k) x hx (j % k) u' hu'
      rw [hdm, hj] at h3
      cases h3
      have h4 := h2 (j / k) x hx (j % k) u hu'
      rw [Nat.add_assoc, hdm] at h4
      rw [show (Addr.add ⟨b, o, none⟩ j) = ⟨b, o + j, none⟩ from by unfold Addr.add; split <;> simp_all]
      exact h4
    obtain ⟨v', w', h2, h3, h4, _⟩ := run_append_own (P := P) w base t ty e i z k bytes ht hi hz hsize hby hzs hk0 v l.length (l.flatMap ea) hown ad ys.length cap (ys.flatMap ea) (length_flatMap_k hk ys) hnews
      (fun u hu => by obtain ⟨x, _, hx⟩ := List.mem_flatMap.1 hu; exact h1 x u hx) h63 hbytes hbase
    refine ⟨v', w', h2, ?_, Ext.of_grown h4⟩
    unfold Own
    rw [List.length_append, List.flatMap_append]
    exact h3
end

theorem Own.below1 {α : Type} {ea : α → List Value} {k : Nat} {e : TypeId} {base : Nat} {w w' : World} {v : Value} {l : List α} (h : Own ea k e base w v l) (hb : Below w.heap.size w w') : Own ea k e base w' v l :=
  h.ext (Ext.of_below (S := fun _ => False) hb) (fun _ _ => id)
/-- append(out, b...). -/
theorem bytes_append {base : Nat} {w0 w : World} {v vx : Value} {out ys : List UInt8} (ho : Own u8c 1 5 base w v out) (hb : Below base w0 w) (hx : SliceIs u8c 1 w vx ys) (hbase : base ≤ w.heap.size) (hl : out.length + ys.length ≤ 140737488355328) :
    ∃ (s : Sl) (w' : World), (Builtin.append_ #[22, 22] 22 #[v, vx]).run Tryz.prog w = .ok (.slice s.a s.n s.cap) w' ∧ Own u8c 1 5 base w' (.slice s.a s.n s.cap) (out ++ ys) ∧ Below base w0 w' ∧ base ≤ w'.heap.size := by
  obtain ⟨i0, hi, hz0, hz1, hz2⟩ := info_parts info_u8
  obtain ⟨v', w', hr, ho2, hx2⟩ := append_structs (P := Tryz.prog) 22 22 i0 _ 1 Tryz.underlying22 hi hz0 hz1 hz2 rfl (by omega) u8c_len u8c_one ho hx (by unfold maxLen; omega) (by omega) hbase
  obtain ⟨s, rfl⟩ := ho2.sl
  exact ⟨s, w', hr, ho2, Ext.new hb hx2 (fun i hi _ e => by have := (ho.blk i e).1; omega) hbase, Nat.le_trans hbase hx2.size⟩

section
variable {α : Type} [DecidableEq α]
theorem leadN_in {x : α} : ∀ {l : List α} {m : Nat}, m < leadN x l → l[m]? = some x
  | [], m, h => by simp [leadN] at h
  | y :: l, m, h => by
    unfold leadN at h
    split at h
    · rename_i e
      cases m with
      | zero => simp [e]
      | succ m => rw [List.getElem?_cons_succ]; exact leadN_in (by omega)
    · omega
theorem leadN_stop (x : α) (l : List α) : l[leadN x l]? ≠ some x := by
  have := leadN_drop x l
  rwa [List.head?_drop] at this
/-- One step of counting. -/
theorem lead_go {x y : α} {l : List α} {i k : Nat} (hik : i ≤ k) (hc : k - i ≤ leadN x (l.drop i)) (hk : l[k]? = some y) : (y = x → k + 1 - i ≤ leadN x (l.drop i)) ∧ (y ≠ x → k - i = leadN x (l.drop i)) := by
  have hd : (l.drop i)[k - i]? = some y := by rw [List.getElem?_drop, show i + (k - i) = k by omega]; exact hk
  constructor
  · rintro rfl
    have : k - i ≠ leadN y (l.drop i) := fun e => leadN_stop y (l.drop i) (by rw [← e]; exact hd)
    omega
  · intro hne
    rcases Nat.lt_or_ge (k - i) (leadN x (l.drop i)) with h | h
    · have := leadN_in h
      rw [hd] at this
      exact absurd (Option.some.inj this) hne
    · omega
theorem lead_end {x : α} {l : List α} {i : Nat} (hi : i ≤ l.length) (hc : l.length - i ≤ leadN x (l.drop i)) : l.length - i = leadN x (l.drop i) := by
  have := leadN_le x (l.drop i)
  rw [List.length_drop] at this
  omega
end
theorem boolsF_len : ∀ (m : Nat) (v : Bool) (l : List Bool), 2 * l.length + (if l.head? = some v then 0 else 1) = m → l.length < 18446744073709551616 → (boolsF v l).length ≤ 10 * l.length + (if l.head? = some v then 0 else 10) := by
  intro m
  induction m using Nat.strongRecOn with
  | ind m ih =>
    intro v l hm hl
    by_cases h : l = []
    · subst h; rw [boolsF_nil]; simp
    · rw [boolsF_cons h, List.length_append]
      have h1 := bools_meas v h
      have hle := leadN_le v l
      have h2 := ih _ (by rw [← hm]; exact h1) (!v) (l.drop (leadN v l)) rfl (by rw [List.length_drop]; omega)
      have h3 : (putB (leadN v l)).length ≤ 10 := (putB_len _ 10 (by omega)).2 (by omega)
      rw [List.length_drop] at h2
      rw [List.length_drop] at h1
      rcases head_not (leadN_drop v l) with h4 | h4
      · rw [h4, boolsF_nil]
        simp only [List.length_nil]
        have : 0 < l.length := List.length_pos_iff.2 h
        omega
      · rw [if_pos h4] at h2
        by_cases h5 : l.head? = some v
        · have h6 : 0 < leadN v l := by
            cases l with
            | nil => exact absurd rfl h
            | cons x l =>
              rw [List.head?_cons] at h5
              rw [leadN, if_pos (Option.some.inj h5)]
              omega
          omega
        · rw [if_neg h5]; omega
theorem boolsB_len {l : List Bool} (hl : l.length < 18446744073709551616) : (boolsB l).length ≤ 10 * l.length + 10 := by
  have := boolsF_len _ false l rfl hl
  unfold boolsB
  split at this <;> omega
theorem runsB_len : ∀ (n : Nat) (l : List Int), l.length = n → n < 18446744073709551616 → (∀ x ∈ l, zigN x < 18446744073709551616) → (runsB l).length ≤ 20 * l.length := by
  intro n
  induction n using Nat.strongRecOn with
  | ind n ih =>
    intro l hn hl hz
    cases l with
    | nil => simp [runsB]
    | cons x l =>
      have hle := leadN_le x l
      rw [List.length_cons] at hn
      rw [runsB, List.length_append, List.length_append, List.length_cons]
      have h1 : (putB (leadN x l + 1)).length ≤ 10 := (putB_len _ 10 (by omega)).2 (by omega)
      have h2 : (putB (zigN x)).length ≤ 10 := (putB_len _ 10 (by omega)).2 (by have := hz x (by simp); omega)
      have h3 := ih (l.drop (leadN x l)).length (by rw [List.length_drop]; omega) _ rfl (by rw [List.length_drop]; omega) (fun y hy => hz y (List.mem_cons_of_mem _ (List.mem_of_mem_drop hy)))
      rw [List.length_drop] at h3
      omega

end Go.Proofs.YtgmdimbiipemhaaGreatDoor
