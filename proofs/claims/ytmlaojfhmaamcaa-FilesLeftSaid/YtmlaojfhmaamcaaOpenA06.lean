/- Layer 6: the reading of acts. -/
import Derived.Test.YtmlaojfhmaamcaaAct06
import Derived.OpenShut
namespace Go.Proofs.Ytmlaojfhmaamcaa
open Go.ChangeShapes Go.WideShapes Go.RowKit Go.Deep
set_option linter.unusedSimpArgs false
set_option linter.unusedVariables false

section
variable {H : Type} {enc : TypeId × Value → H} {P : Program} {w : World} {base : Nat} {spare : Nat → Bool} {held : Bool}

/-- Out of the reading of a slice: the cells, element by element, with what is known of each. -/
theorem open_slice_p {α : Type} {ea : α → List Value} {k : Nat} {t e : TypeId} {fuel : Nat} {cs : List Value} {x : DataW H × List MemPlace} {p : α → Prop} (ht : P.underlying t = some (.slice e)) (hk : P.cellsOf e = k) (hk0 : 0 < k) (hlen : ∀ x, (ea x).length = k)
    (hel : ∀ fuel cs x, DataW.trod enc P w base spare held fuel e cs = some x → ∃ y, cs = ea y ∧ p y) (h : DataW.trod enc P w base spare held fuel t cs = some x) : ∃ v l, cs = [v] ∧ SliceIs ea k w v l ∧ ∀ y ∈ l, p y := by
  rcases open_slice ht h with ⟨hcs, _⟩ | ⟨a, len0, cap0, m, n, D, Pl, hcs, hb, hl, hm, hmm, hx, hi⟩
  · exact ⟨_, [], hcs, ⟨none, 0, rfl, Nat.le_refl _, Nat.zero_le _, fun hn => absurd rfl hn⟩, fun y hy => by cases hy⟩
  · have hlm : len0 ≤ m := by rw [hmm]; split <;> omega
    obtain ⟨l, h1, h2⟩ := list_of_all (p := fun i (x : α) => (∀ j u, (ea x)[j]? = some u → w.cell? (a.add (i * k + j)) = some u) ∧ p x) len0 (fun i hi' => by
      obtain ⟨cs', hc, ht'⟩ := hi i (by omega)
      obtain ⟨y, rfl, hp⟩ := hel _ _ _ ht'
      refine ⟨y, fun j u hj => ?_, hp⟩
      obtain ⟨_, hcl, hat⟩ := World.cells?_some hc
      have hjl := (List.getElem?_eq_some_iff.1 hj).1
      rw [hlen] at hjl
      have := hat j (by rw [hk]; exact hjl)
      rw [hk, Go.Deep.add_add, hj] at this
      exact this)
    subst h1
    refine ⟨_, l, hcs, ⟨some a, cap0, rfl, hl, hm, fun hne => ?_⟩, fun y hy => ?_⟩
    · obtain ⟨x0, hx0⟩ : ∃ x0, l[0]? = some x0 := by
        cases l with
        | nil => exact absurd rfl hne
        | cons x r => exact ⟨x, rfl⟩
      obtain ⟨u0, hu0⟩ : ∃ u0, (ea x0)[0]? = some u0 := by
        have := hlen x0
        cases hq : ea x0 with
        | nil => rw [hq] at this; simp at this; omega
        | cons x r => exact ⟨x, rfl⟩
      have hz := (h2 0 x0 hx0).1 0 u0 hu0
      obtain ⟨b, off, spot⟩ := a
      have hspot : spot = none := by
        simp [Addr.add, World.cell?] at hz
        cases spot with
        | none => rfl
        | some s => simp at hz; split at hz <;> simp at hz
      subst hspot
      refine ⟨b, off, rfl, fun i x hi' j u hj => ?_⟩
      have := (h2 i x hi').1 j u hj
      have e : (Addr.add ⟨b, off, none⟩ (i * k + j)) = ⟨b, off + i * k + j, none⟩ := by
        unfold Addr.add
        split
        · rename_i h0; have : i * k = 0 ∧ j = 0 := by omega
          simp [this.1, this.2]
        · simp [Nat.add_assoc]
      rw [e] at this
      exact this
    · obtain ⟨i, hi'⟩ := List.getElem?_of_mem hy
      exact (h2 i y hi').2
end

section
variable {H : Type} {enc : TypeId × Value → H} {w : World} {base : Nat} {spare : Nat → Bool} {held : Bool}
theorem trod_u8 {fuel : Nat} {cs : List Value} {x : DataW H × List MemPlace} (h : DataW.trod enc Try.prog w base spare held fuel 5 cs = some x) : ∃ y : UInt8, cs = u8c y ∧ True := by
  obtain ⟨p, hp, _, hw⟩ := DataW.trod_int (k := .u8) (by kernel_rfl : Try.prog.underlying 5 = some (.int .u8)) h
  have hb : 0 ≤ p ∧ p < 256 := by
    have e1 : IntKind.u8.min = 0 := by decide
    have e2 : IntKind.u8.max = 255 := by decide
    simp [Lit.wf, e1, e2] at hw
    omega
  refine ⟨UInt8.ofNat p.toNat, ?_, trivial⟩
  rw [hp, u8c]
  congr 2
  simp
  omega
theorem trod_bo {fuel : Nat} {cs : List Value} {x : DataW H × List MemPlace} (h : DataW.trod enc Try.prog w base spare held fuel 4 cs = some x) : ∃ y : Bool, cs = boolc y ∧ True := by
  obtain ⟨p, hp, _⟩ := DataW.trod_bool Try.underlying4 h
  exact ⟨p, hp, trivial⟩

set_option maxRecDepth 100000 in
set_option maxHeartbeats 2000000 in
theorem trod_opA {fuel : Nat} {cs : List Value} {x : DataW H × List MemPlace} (h : DataW.trod enc Try.prog w base spare held fuel 28 cs = some x) : ∃ y : OpA, cs = y.cells ∧ y.In w := by
  obtain ⟨xs, n, _, _, hlen, hxl, hf⟩ := DataW.trod_struct Try.underlying28 h
  have hc : Try.prog.cellsOf 28 = 8 := by kernel_rfl
  have c1 : Try.prog.cellsOf 3 = 1 := by kernel_rfl
  have c2 : Try.prog.cellsOf 9 = 1 := by kernel_rfl
  have c3 : Try.prog.cellsOf 23 = 1 := by kernel_rfl
  have c4 : Try.prog.cellsOf 24 = 1 := by kernel_rfl
  have c5 : Try.prog.cellsOf 26 = 4 := by kernel_rfl
  rw [hc] at hlen
  match cs, hlen with
  | [a0, a1, a2, a3, a4, a5, a6, a7], _ =>
    have f0 : DataW.trod enc Try.prog w base spare held n 3 [a0] = xs[0]? := by simpa [c1] using hf 0 _ rfl
    have f1 : DataW.trod enc Try.prog w base spare held n 9 [a1] = xs[1]? := by simpa [c2] using hf 1 _ rfl
    have f2 : DataW.trod enc Try.prog w base spare held n 9 [a2] = xs[2]? := by simpa [c2] using hf 2 _ rfl
    have f3 : DataW.trod enc Try.prog w base spare held n 23 [a3] = xs[3]? := by simpa [c3] using hf 3 _ rfl
    have f4 : DataW.trod enc Try.prog w base spare held n 26 [a4, a5, a6, a7] = xs[4]? := by simpa [c5] using hf 4 _ rfl
    simp at hxl
    obtain ⟨k, h0, _⟩ := DataW.trod_int Try.underlying3 (f0.trans (List.getElem?_eq_getElem (by omega)))
    obtain ⟨nm, h1, _, s1⟩ := DataW.trod_string Try.underlying9 (f1.trans (List.getElem?_eq_getElem (by omega)))
    obtain ⟨s, h2, _, s2⟩ := DataW.trod_string Try.underlying9 (f2.trans (List.getElem?_eq_getElem (by omega)))
    obtain ⟨vb, bs, h3, hb, _⟩ := open_slice_p (ea := u8c) (k := 1) (p := fun _ => True) Try.underlying23 (by kernel_rfl) (by omega) (fun _ => rfl) (fun _ _ _ h => trod_u8 h) (f3.trans (List.getElem?_eq_getElem (by omega)))
    obtain ⟨ys, m, _, _, hlen2, hyl, hg⟩ := DataW.trod_struct Try.underlying26 (f4.trans (List.getElem?_eq_getElem (by omega)))
    have g0 : DataW.trod enc Try.prog w base spare held m 3 [a4] = ys[0]? := by simpa [c1] using hg 0 _ rfl
    have g1 : DataW.trod enc Try.prog w base spare held m 3 [a5] = ys[1]? := by simpa [c1] using hg 1 _ rfl
    have g2 : DataW.trod enc Try.prog w base spare held m 24 [a6] = ys[2]? := by simpa [c4] using hg 2 _ rfl
    have g3 : DataW.trod enc Try.prog w base spare held m 3 [a7] = ys[3]? := by simpa [c1] using hg 3 _ rfl
    simp at hyl
    obtain ⟨at_, h4, _⟩ := DataW.trod_int Try.underlying3 (g0.trans (List.getElem?_eq_getElem (by omega)))
    obtain ⟨ns, h5, _⟩ := DataW.trod_int Try.underlying3 (g1.trans (List.getElem?_eq_getElem (by omega)))
    obtain ⟨vk, ks, h6, hk, _⟩ := open_slice_p (ea := boolc) (k := 1) (p := fun _ => True) Try.underlying24 (by kernel_rfl) (by omega) (fun _ => rfl) (fun _ _ _ h => trod_bo h) (g2.trans (List.getElem?_eq_getElem (by omega)))
    obtain ⟨tn, h7, _⟩ := DataW.trod_int Try.underlying3 (g3.trans (List.getElem?_eq_getElem (by omega)))
    obtain ⟨ba, bc, eb, _⟩ := id hb
    obtain ⟨ka, kc, ek, _⟩ := id hk
    simp only [List.cons.injEq, and_true] at h0 h1 h2 h3 h4 h5 h6 h7
    refine ⟨⟨k, nm, s, ⟨ba, bs.length, bc⟩, at_, ns, ⟨ka, ks.length, kc⟩, tn, bs, ks⟩, ?_, ?_, ?_, s1, s2⟩
    · simp only [OpA.cells, h0, h1, h2, h3, h4, h5, h6, h7, eb, ek]
    · show SliceIs u8c 1 w (.slice ba bs.length bc) bs
      rw [← eb]; exact hb
    · show SliceIs boolc 1 w (.slice ka ks.length kc) ks
      rw [← ek]; exact hk

set_option maxRecDepth 100000 in
theorem open_script {r : Reach} {b0 : Nat} {v : Value} {d : DataW H} {p : List MemPlace} (hv : Value.okWide Try.prog w r b0 22 v) (h : DataW.Trod enc Try.prog w base spare held 22 v d p) : ∃ l : List OpA, SliceIs OpA.cells 8 w v l ∧ ∀ x ∈ l, x.In w := by
  obtain ⟨a0, len0, cap0, rfl⟩ := okWide_slice Try.underlying22 hv
  obtain ⟨fuel, hf⟩ := h
  obtain ⟨v', l, hcs, hl, hp⟩ := open_slice_p (ea := OpA.cells) (k := 8) (p := fun x => OpA.In x w) Try.underlying22 (by kernel_rfl) (by omega) OpA.len (fun _ _ _ h => trod_opA h) hf
  simp [Value.cells] at hcs
  subst hcs
  exact ⟨l, hl, hp⟩
set_option maxRecDepth 100000 in
theorem open_opA {r : Reach} {b0 : Nat} {v : Value} {d : DataW H} {p : List MemPlace} (hv : Value.okWide Try.prog w r b0 28 v) (h : DataW.Trod enc Try.prog w base spare held 28 v d p) : ∃ x : OpA, v = .agg x.cells.toArray ∧ x.In w := by
  obtain ⟨cs, rfl, _⟩ := okWide_struct Try.underlying28 hv
  obtain ⟨fuel, hf⟩ := h
  obtain ⟨x, hx, hin⟩ := trod_opA hf
  refine ⟨x, ?_, hin⟩
  have hcs : (Value.agg cs).cells.toList = cs.toList := rfl
  rw [hcs] at hx
  rw [← hx]
end

end Go.Proofs.Ytmlaojfhmaamcaa
