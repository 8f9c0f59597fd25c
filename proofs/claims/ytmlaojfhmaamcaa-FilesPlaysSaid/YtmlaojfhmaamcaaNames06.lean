/- Contract of Disk.Names. -/
import Derived.Test.YtmlaojfhmaamcaaRead06
import Derived.Test.YtmlaojfhmaamcaaLaid
namespace Go.Proofs.Ytmlaojfhmaamcaa
open Go.RowKit Go.Deep Go.Maps Go.Sort Go.Shelf
set_option linter.unusedSimpArgs false
set_option linter.unusedVariables false

/-- A name, as a slice's element. -/
def strc (x : ByteArray) : List Value := [.string x]
theorem strc_len (x : ByteArray) : (strc x).length = 1 := rfl
theorem strc_one (x : ByteArray) : ∀ u ∈ strc x, u.oneCell' = true := by
  intro u hu
  simp only [strc, List.mem_cons, List.not_mem_nil, or_false] at hu
  subst hu
  rfl

/-- A map in the kit's words. -/
theorem MapIs.owns {V : Type} {ev : V → Value} {w : World} {b : Nat} {l : List (ByteArray × V)} (h : MapIs Value.string ev w b l) (hs : ∀ p ∈ l, p.1.size ≤ maxLen) (hl : l.length ≤ maxLen) :
    ∃ D : DataW Unit, w.ownsMap Try.prog 9 (fun _ => some (.nil, [])) b l.length D ∧ (strKeys D).Perm (l.map fun p => p.1.data.toList) ∧ Maps.size D = l.length := by
  obtain ⟨hn, es, clock, h1, h2, h3, h4, h5⟩ := h
  have hsz : es.size = l.length := by
    have := congrArg List.length h2
    simpa using this
  have hrg : ∀ x ∈ es.toList, ∃ p ∈ l, x.key = .string p.1 ∧ WideElems.rd (H := Unit) Try.prog 9 (fun _ => some (.nil, [])) x = some (.string p.1.data.toList, .nil) := fun x hx => by
    obtain ⟨i, hi⟩ := List.getElem?_of_mem hx
    have hk := congrArg (fun l : List Value => l[i]?) h2
    simp only [List.getElem?_map, hi, Option.map_some] at hk
    cases hp : l[i]? with
    | none => rw [hp] at hk; cases hk
    | some p =>
      rw [hp] at hk
      simp only [Option.map_some, Option.some.injEq] at hk
      refine ⟨p, List.mem_of_getElem? hp, hk, ?_⟩
      unfold WideElems.rd
      rw [hk, WideMaps.keyOf_string_mk und_string (hs p (List.mem_of_getElem? hp))]
      rfl
  refine ⟨_, ⟨es, clock, h1, ⟨by omega, ⟨h5, ?_, ?_⟩, fun x hx => ?_⟩, by omega, rfl⟩, ?_, ?_⟩
  · rw [List.nodup_iff_pairwise_ne, List.pairwise_map]
    exact h4.imp (fun hlt e => by omega)
  · rw [h2]
    refine List.Pairwise.map _ (fun a b hab e => ?_) (List.pairwise_map.1 hn)
    exact hab (by injection e)
  · obtain ⟨p, _, _, h⟩ := hrg x hx
    exact ⟨_, h⟩
  · have e1 : ∀ (xs : List MapEntry) (ps : List (ByteArray × V)), xs.map (·.key) = ps.map (fun p => Value.string p.1) → (∀ x ∈ xs, ∃ p : ByteArray × V, x.key = .string p.1 ∧ WideElems.rd (H := Unit) Try.prog 9 (fun _ => some (.nil, [])) x = some (.string p.1.data.toList, .nil)) → xs.map (WideElems.rg (H := Unit) Try.prog 9 (fun _ => some (.nil, []))) = ps.map (fun p => (Lit.string p.1.data.toList, .nil)) := by
      intro xs
      induction xs with
      | nil => intro ps hps _; cases ps with
        | nil => rfl
        | cons p ps => simp at hps
      | cons x xs ih =>
        intro ps hps hx
        cases ps with
        | nil => simp at hps
        | cons p ps =>
          simp only [List.map_cons, List.cons.injEq] at hps ⊢
          obtain ⟨p', hk, hr⟩ := hx x List.mem_cons_self
          refine ⟨?_, ih ps hps.2 (fun y hy => hx y (List.mem_cons_of_mem _ hy))⟩
          have hpp : p'.1 = p.1 := by
            have := hk.symm.trans hps.1
            injection this
          unfold WideElems.rg
          rw [hr, hpp]
          rfl
    have e2 := e1 es.toList l h2 (fun x hx => by obtain ⟨p, _, h, h'⟩ := hrg x hx; exact ⟨p, h, h'⟩)
    rw [e2]
    have hp := WideShapes.sorted_perm (l.map fun p => (Lit.string p.1.data.toList, (DataW.nil : DataW Unit)))
    have hq := hp.map (fun q : Lit × DataW Unit => strOf q.1)
    refine List.Perm.trans hq ?_
    rw [List.map_map]
    exact List.Perm.refl _
  · simp only [Maps.size]
    rw [(WideShapes.sorted_perm _).length_eq]
    simp [hsz]

theorem sorts_any (m : Nat) : AnyZ.SortsIn Try.prog Try.sortedF_ren Fence.wide m :=
  ⟨fun blk off cap ss W hH hblk hsz => callsIn_wide.2 (AnyM.slices_Sort_string Try.sortF blk off cap ss W hH hblk hsz),
   fun p cap W => callsIn_wide.2 (AnyM.slices_Sort_string_none Try.sortF p cap W)⟩

theorem keys_any (mb : Option Nat) (W : World) : Calls Try.prog 32 #[.map mb] W fun e w' => e = .returned (.func (.func 54) #[] #[.pointer (some ⟨W.heap.size, 0, none⟩)]) ∧ w' = W.alloc (.cells #[.map mb] 58) :=
  callsIn_wide.1 (AnyZ.keys_in Try.keysF Fence.wide 5 trivial rfl mb W)

set_option maxHeartbeats 1000000 in
theorem sorted_any {H : Type} (b nn : Nat) (D0 : DataW H) (R : Value → Option (DataW H × List MemPlace)) (w : World) (hown : w.ownsMap Try.prog 9 R b nn D0) (hmax : Maps.size D0 ≤ maxLen) (hbytes : Maps.size D0 * 16 ≤ 140737488355328) :
    Calls Try.prog 31 #[.func (.func 54) #[] #[.pointer (some ⟨w.heap.size, 0, none⟩)]] (w.alloc (.cells #[.map (some b)] 58)) fun e w' => ∃ (v : Value) (ss : List (List UInt8)), e = .returned v ∧ ss.Perm (strKeys D0) ∧
      w'.ownsRow (w.alloc (.cells #[.map (some b)] 58)).heap.size 9 1 v ss.length ((ss.mergeSort (fun x y => decide (x ≤ y))).map encStr) ∧ (v = .slice none 0 0 ↔ ss = []) ∧ Below (w.alloc (.cells #[.map (some b)] 58)).heap.size (w.alloc (.cells #[.map (some b)] 58)) w' := by
  have hbl := hown.lt
  have hseq : SeqGives Fence.wide 2 Try.prog 54 #[.pointer (some ⟨w.heap.size, 0, none⟩)] encStr (fun ss => ss.Perm (strKeys D0)) (Maps.size D0) (w.alloc (.cells #[.map (some b)] 58)) :=
    AnyZ.keys_gives (ρ := Try.keysF_ren) { Try.keysF with } Fence.wide _ trivial rfl (by omega) w.heap.size b nn D0 _ (by simp) (by simp) (by
      obtain ⟨es, clock, hb, Ft, hs, hD⟩ := hown
      exact ⟨es, clock, (Below.heap_alloc _ _ b hbl).trans hb, Ft, hs, hD⟩)
  exact callsIn_wide.1 (AnyZ.sorted_in Try.sortedF Fence.wide 5 trivial trivial trivial trivial rfl (by omega) (sorts_any _) (enters_of Try.func53 (by kernel_rfl) rfl) 54 #[.pointer (some ⟨w.heap.size, 0, none⟩)] trivial (enters_of Try.func54 (by kernel_rfl) rfl) _ _ hmax hbytes _ hseq)

/-- Names, in order. -/
def sortN (l : List ByteArray) : List ByteArray := ((l.map fun n => n.data.toList).mergeSort (fun x y => decide (x ≤ y))).map fun b => ⟨b.toArray⟩
/-- What Names tells. -/
def namesA (A : DiskA) : List ByteArray := sortN (A.files.map (·.1))
theorem namesA_perm (A : DiskA) : (namesA A).Perm (A.files.map (·.1)) := by
  unfold namesA sortN
  refine ((List.mergeSort_perm _ _).map _).trans ?_
  rw [List.map_map]
  rw [show ((fun b : List UInt8 => (⟨b.toArray⟩ : ByteArray)) ∘ fun n : ByteArray => n.data.toList) = id from by funext n; cases n; simp]
  simp
theorem namesA_len (A : DiskA) : (namesA A).length = A.files.length := by rw [(namesA_perm A).length_eq, List.length_map]
theorem leB_trans (a b c : List UInt8) (h : decide (a ≤ b) = true) (k : decide (b ≤ c) = true) : decide (a ≤ c) = true := by
  rw [decide_eq_true_eq] at *
  exact List.le_trans h k
theorem leB_total (a b : List UInt8) : (decide (a ≤ b) || decide (b ≤ a)) = true := by
  rw [Bool.or_eq_true, decide_eq_true_eq, decide_eq_true_eq]
  exact List.le_total a b
theorem merge_eq {l l' : List (List UInt8)} (h : l.Perm l') : l.mergeSort (fun x y => decide (x ≤ y)) = l'.mergeSort (fun x y => decide (x ≤ y)) := by
  have hp := ((List.mergeSort_perm l (fun x y => decide (x ≤ y))).trans h).trans (List.mergeSort_perm l' (fun x y => decide (x ≤ y))).symm
  refine List.Perm.eq_of_pairwise (fun a b _ _ hab hba => ?_) (List.pairwise_mergeSort leB_trans leB_total l) (List.pairwise_mergeSort leB_trans leB_total l') hp
  rw [decide_eq_true_eq] at hab hba
  exact List.le_antisymm hab hba

set_option maxRecDepth 20000 in
set_option maxHeartbeats 1000000 in
theorem names_any {base : Nat} {w : World} {D : DSh} {A : DiskA} (h : DiskIs base w D A) (hl : A.files.length ≤ 1000000) :
    Calls Try.prog 11 #[.pointer (some ⟨D.pb, 0, none⟩)] w fun e w' => ∃ v, e = .returned v ∧ Own strc 1 9 w.heap.size w' v (namesA A) ∧ Below w.heap.size w w' := by
  have c0 := Joins.cell_of_block h.blk 0
  simp only [List.getElem?_toArray, List.getElem?_cons_zero] at c0
  obtain ⟨D0, hown, hperm, hsize⟩ := h.mfiles.owns (fun p hp => by have := (h.ok.inf p.1 p.2 hp).2; unfold maxLen; omega) (by unfold maxLen; omega)
  have HS := Lib.hid (sorted_any D.mf _ D0 _ w hown (by rw [hsize]; unfold maxLen; omega) (by rw [hsize]; omega))
  have HP := Lib.hid hperm
  clear h hown hperm hsize
  go_enter Try.func11, Try.ntmps11
  go_wp2_with fail
  refine (keys_any _ _).mono ?_
  rintro e w1 ⟨rfl, rfl⟩
  go_wp2_with fail
  refine HS.out.mono ?_
  rintro e w2 ⟨v, ss, rfl, hss, hrow, _, hb⟩
  have hB : Below w.heap.size w w2 := ((Below.refl _ _).alloc (Nat.le_refl _) _).trans (hb.mono (by simp))
  have hO : Own strc 1 9 w.heap.size w2 v (namesA A) := by
    have e1 : namesA A = (ss.mergeSort (fun x y => decide (x ≤ y))).map fun b => ⟨b.toArray⟩ := by
      unfold namesA sortN
      rw [merge_eq (hss.trans HP.out), List.map_map]
      rfl
    have e2 : (namesA A).flatMap strc = (ss.mergeSort (fun x y => decide (x ≤ y))).map encStr := by
      rw [e1, List.flatMap_map]
      induction (ss.mergeSort (fun x y => decide (x ≤ y))) with
      | nil => rfl
      | cons x xs ih => rw [List.flatMap_cons, ih]; rfl
    have e3 : (namesA A).length = ss.length := by rw [e1, List.length_map, (List.mergeSort_perm _ _).length_eq]
    refine Own.mono (base := (w.alloc (.cells #[.map (some D.mf)] 58)).heap.size) ?_ (by simp)
    unfold Own
    rw [e2, e3]
    exact hrow
  have HN := Lib.hid (And.intro hO hB)
  obtain ⟨s, e9⟩ := hO.sl
  change v = .slice s.a s.n s.cap at e9
  subst e9
  clear hss hrow hb hB hO
  go_wp2
  go_ret
  exact ⟨_, rfl, HN.out.1, HN.out.2⟩

end Go.Proofs.Ytmlaojfhmaamcaa
