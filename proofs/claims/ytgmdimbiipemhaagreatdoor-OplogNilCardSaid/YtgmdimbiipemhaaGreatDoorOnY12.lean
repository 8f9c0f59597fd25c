/- OplogNil, part 12 of what the proof leans on (made short by a program). -/
import Derived.Test.YtgmdimbiipemhaaGreatDoorOnY1
import Derived.Test.YtgmdimbiipemhaaGreatDoorOnY2
import Derived.OpenShut
import Derived.Test.YtgmdimbiipemhaaGreatDoorOnY11
import Derived.Test.YtgmdimbiipemhaaGreatDoorTie
import Derived.Test.YtgmdimbiipemhaaGreatDoorCards
import Derived.SevenTiedAt
set_option linter.unusedSimpArgs false
set_option linter.unusedVariables false
set_option linter.unusedSectionVars false
namespace Go.Proofs.YtgmdimbiipemhaaGreatDoor
open Go.ChangeShapes Go.WideShapes Go.RowKit Go.Deep
theorem drop_take_one {α : Type} {l : List α} {i : Nat} {a : α} (h : l[i]? = some a) : (l.drop i).take 1 = [a] := by
  obtain ⟨hi, rfl⟩ := List.getElem?_eq_some_iff.1 h
  rw [List.drop_eq_getElem_cons hi]
  rfl
def inR (x : Int) : Prop := -9223372036854775808 ≤ x ∧ x ≤ 9223372036854775807
section
variable {H : Type} {enc : TypeId × Value → H} {P : Program} {w : World} {base : Nat} {spare : Nat → Bool} {held : Bool}
theorem open_slice_p {α : Type} {ea : α → List Value} {k : Nat} {t e : TypeId} {fuel : Nat} {cs : List Value} {x : DataW H × List MemPlace} {p : α → Prop} (ht : P.underlying t = some (.slice e)) (hk : P.cellsOf e = k) (hk0 : 0 < k) (hlen : ∀ x, (ea x).length = k)
    (hel : ∀ fuel cs x, DataW.trod enc P w base spare held fuel e cs = some x → ∃ y, cs = ea y ∧ p y) (h : DataW.trod enc P w base spare held fuel t cs = some x) : ∃ v l, cs = [v] ∧ SliceIs ea k w v l ∧ ∀ y ∈ l, p y := by
  rcases open_slice ht h with ⟨hcs, _⟩ | ⟨a, len0, cap0, m, n, D, Pl, hcs, hb, hl, hm, hmm, hx, hi⟩
  · exact ⟨_, [], hcs, ⟨none, 0, rfl, Nat.le_refl _, Nat.zero_le _, fun hn => absurd rfl hn⟩, fun y hy => by cases hy⟩
  · have hlm : len0 ≤ m := by rw [hmm]; split <;> omega
    obtain ⟨l, h1, h2⟩ := list_of_all (p := fun i (x : α) => (∀ j u, (ea x)[j]? = some u → w.cell? (a.add (i * k + j)) = some u) ∧ p x) len0 (fun i hi' => by
      obtain ⟨cs', hc, ht'⟩ := hi i (by omega)
      obtain ⟨y, rfl, hp⟩ := hel _ _ _ ht'
      refine ⟨y, fun j u hj => ?_, hp⟩
      obtain ⟨_, hcl, hat⟩ := World.cells?_some hc
      have hjl := (List.getElem?_eq_some_iff.1 hj).1
      rw [hlen] at hjl
      have := hat j (by rw [hk]; exact hjl)
      rw [hk, Go.Deep.add_add, hj] at this
      exact this)
    subst h1
    refine ⟨_, l, hcs, ⟨some a, cap0, rfl, hl, hm, fun hne => ?_⟩, fun y hy => ?_⟩
    · obtain ⟨x0, hx0⟩ : ∃ x0, l[0]? = some x0 := by
        cases l with
        | nil => exact absurd rfl hne
        | cons x r => exact ⟨x, rfl⟩
      obtain ⟨u0, hu0⟩ : ∃ u0, (ea x0)[0]? = some u0 := by
        have := hlen x0
        cases hq : ea x0 with
        | nil => rw [hq] at this; simp at this; omega
        | cons x r => exact ⟨x, rfl⟩
      have hz := (h2 0 x0 hx0).1 0 u0 hu0
      obtain ⟨b, off, spot⟩ := a
      have hspot : spot = none := by
        simp [Addr.add, World.cell?] at hz
        cases spot with
        | none => rfl
        | some s => simp at hz; split at hz <;> simp at hz
      subst hspot
      refine ⟨b, off, rfl, fun i x hi' j u hj => ?_⟩
      have := (h2 i x hi').1 j u hj
      have e : (Addr.add ⟨b, off, none⟩ (i * k + j)) = ⟨b, off + i * k + j, none⟩ := by
        unfold Addr.add
        split
        · rename_i h0; have : i * k = 0 ∧ j = 0 := by omega
          simp [this.1, this.2]
        · simp [Nat.add_assoc]
      rw [e] at this
      exact this
    · obtain ⟨i, hi'⟩ := List.getElem?_of_mem hy
      exact (h2 i y hi').2
end
section
variable {H : Type} {enc : TypeId × Value → H} {w : World} {base : Nat} {spare : Nat → Bool} {held : Bool}
theorem trod_one {fuel : Nat} {a : Value} {T : TypeId} {x : DataW H × List MemPlace} (hu : Tryz.prog.underlying T = some (.int .i64)) (h : DataW.trod enc Tryz.prog w base spare held fuel T [a] = some x) : ∃ z : Int, a = .int .i64 z ∧ inR z := by
  obtain ⟨z, hz, _, hw⟩ := DataW.trod_int (k := .i64) hu h
  have e1 : IntKind.i64.min = -9223372036854775808 := by decide
  have e2 : IntKind.i64.max = 9223372036854775807 := by decide
  simp [Lit.wf, e1, e2] at hw
  simp at hz
  exact ⟨z, hz, hw⟩
theorem trod_stampR {fuel : Nat} {a b : Value} {x : DataW H × List MemPlace} (h : DataW.trod enc Tryz.prog w base spare held fuel 62 [a, b] = some x) : ∃ s : St, a = .int .i64 s.n ∧ b = .int .i64 s.r ∧ inR s.n ∧ inR s.r := by
  obtain ⟨xs, n, _, _, hlen, hxl, hf⟩ := DataW.trod_struct Tryz.underlying62 h
  have hc3 : Tryz.prog.cellsOf 3 = 1 := by kernel_rfl
  have f0 : DataW.trod enc Tryz.prog w base spare held n 3 [a] = xs[0]? := by simpa [hc3] using hf 0 _ rfl
  have f1 : DataW.trod enc Tryz.prog w base spare held n 3 [b] = xs[1]? := by simpa [hc3] using hf 1 _ rfl
  simp at hxl
  obtain ⟨p, hp, hp2⟩ := trod_one Tryz.underlying3 (f0.trans (List.getElem?_eq_getElem (by omega)))
  obtain ⟨q, hq, hq2⟩ := trod_one Tryz.underlying3 (f1.trans (List.getElem?_eq_getElem (by omega)))
  exact ⟨⟨p, q⟩, hp, hq, hp2, hq2⟩
theorem trod_anch {fuel : Nat} {a b c : Value} {x : DataW H × List MemPlace} (h : DataW.trod enc Tryz.prog w base spare held fuel 66 [a, b, c] = some x) : ∃ (s : St) (q : Bool), a = .int .i64 s.n ∧ b = .int .i64 s.r ∧ c = .bool q ∧ inR s.n ∧ inR s.r := by
  obtain ⟨xs, n, _, _, hlen, hxl, hf⟩ := DataW.trod_struct Tryz.underlying66 h
  have hc1 : Tryz.prog.cellsOf 62 = 2 := by kernel_rfl
  have hc3 : Tryz.prog.cellsOf 4 = 1 := by kernel_rfl
  have f0 : DataW.trod enc Tryz.prog w base spare held n 62 [a, b] = xs[0]? := by simpa [hc1] using hf 0 _ rfl
  have f1 : DataW.trod enc Tryz.prog w base spare held n 4 [c] = xs[1]? := by simpa [hc3] using hf 1 _ rfl
  simp at hxl
  obtain ⟨s, h1, h2, h3, h4⟩ := trod_stampR (f0.trans (List.getElem?_eq_getElem (by omega)))
  obtain ⟨q, hq, _⟩ := DataW.trod_bool Tryz.underlying4 (f1.trans (List.getElem?_eq_getElem (by omega)))
  simp at hq
  exact ⟨s, q, h1, h2, hq, h3, h4⟩
theorem trod_vec {fuel : Nat} {a0 a1 a2 a3 a4 a5 a6 a7 : Value} {x : DataW H × List MemPlace} (h : DataW.trod enc Tryz.prog w base spare held fuel 32 [a0, a1, a2, a3, a4, a5, a6, a7] = some x) :
    ∃ z0 z1 z2 z3 z4 z5 z6 z7 : Int, [a0, a1, a2, a3, a4, a5, a6, a7] = [.int .i64 z0, .int .i64 z1, .int .i64 z2, .int .i64 z3, .int .i64 z4, .int .i64 z5, .int .i64 z6, .int .i64 z7] ∧ inR z0 ∧ inR z1 ∧ inR z2 ∧ inR z3 ∧ inR z4 ∧ inR z5 ∧ inR z6 ∧ inR z7 := by
  obtain ⟨xs, m, _, _, hlen, hxl, hf⟩ := DataW.trod_array (n := 8) (e := 3) Tryz.underlying32 h
  have hc2 : Tryz.prog.cellsOf 3 = 1 := by kernel_rfl
  have hq : ∀ i (hi : i < 8) (a : Value), [a0, a1, a2, a3, a4, a5, a6, a7][i]? = some a → ∃ z : Int, a = .int .i64 z ∧ inR z := fun i hi a ha => by
    have := hf i hi
    rw [hc2, Nat.mul_one, drop_take_one ha] at this
    exact trod_one Tryz.underlying3 (this.trans (List.getElem?_eq_getElem (by omega)))
  obtain ⟨z0, rfl, r0⟩ := hq 0 (by omega) a0 rfl
  obtain ⟨z1, rfl, r1⟩ := hq 1 (by omega) a1 rfl
  obtain ⟨z2, rfl, r2⟩ := hq 2 (by omega) a2 rfl
  obtain ⟨z3, rfl, r3⟩ := hq 3 (by omega) a3 rfl
  obtain ⟨z4, rfl, r4⟩ := hq 4 (by omega) a4 rfl
  obtain ⟨z5, rfl, r5⟩ := hq 5 (by omega) a5 rfl
  obtain ⟨z6, rfl, r6⟩ := hq 6 (by omega) a6 rfl
  obtain ⟨z7, rfl, r7⟩ := hq 7 (by omega) a7 rfl
  exact ⟨z0, z1, z2, z3, z4, z5, z6, z7, rfl, r0, r1, r2, r3, r4, r5, r6, r7⟩
set_option maxRecDepth 100000 in
set_option maxHeartbeats 2000000 in
theorem trod_opR {fuel : Nat} {cs : List Value} {x : DataW H × List MemPlace} (h : DataW.trod enc Tryz.prog w base spare held fuel 68 cs = some x) : ∃ y : OpD, cs = y.cells ∧ y.wf := by
  obtain ⟨xs, n, _, _, hlen, hxl, hf⟩ := DataW.trod_struct Tryz.underlying68 h
  have hc : Tryz.prog.cellsOf 68 = 26 := by kernel_rfl
  have c1 : Tryz.prog.cellsOf 62 = 2 := by kernel_rfl
  have c2 : Tryz.prog.cellsOf 3 = 1 := by kernel_rfl
  have c3 : Tryz.prog.cellsOf 32 = 8 := by kernel_rfl
  have c4 : Tryz.prog.cellsOf 63 = 1 := by kernel_rfl
  have c5 : Tryz.prog.cellsOf 64 = 1 := by kernel_rfl
  have c6 : Tryz.prog.cellsOf 9 = 1 := by kernel_rfl
  have c7 : Tryz.prog.cellsOf 66 = 3 := by kernel_rfl
  rw [hc] at hlen
  match cs, hlen with
  | [a0, a1, a2, a3, a4, a5, a6, a7, a8, a9, a10, a11, a12, a13, a14, a15, a16, a17, a18, a19, a20, a21, a22, a23, a24, a25], _ =>
    have f0 : DataW.trod enc Tryz.prog w base spare held n 62 [a0, a1] = xs[0]? := by simpa [c1] using hf 0 _ rfl
    have f1 : DataW.trod enc Tryz.prog w base spare held n 32 [a2, a3, a4, a5, a6, a7, a8, a9] = xs[1]? := by simpa [c3] using hf 1 _ rfl
    have f2 : DataW.trod enc Tryz.prog w base spare held n 63 [a10] = xs[2]? := by simpa [c4] using hf 2 _ rfl
    have f3 : DataW.trod enc Tryz.prog w base spare held n 62 [a11, a12] = xs[3]? := by simpa [c1] using hf 3 _ rfl
    have f4 : DataW.trod enc Tryz.prog w base spare held n 64 [a13] = xs[4]? := by simpa [c5] using hf 4 _ rfl
    have f5 : DataW.trod enc Tryz.prog w base spare held n 3 [a14] = xs[5]? := by simpa [c2] using hf 5 _ rfl
    have f6 : DataW.trod enc Tryz.prog w base spare held n 62 [a15, a16] = xs[6]? := by simpa [c1] using hf 6 _ rfl
    have f7 : DataW.trod enc Tryz.prog w base spare held n 9 [a17] = xs[7]? := by simpa [c6] using hf 7 _ rfl
    have f8 : DataW.trod enc Tryz.prog w base spare held n 9 [a18] = xs[8]? := by simpa [c6] using hf 8 _ rfl
    have f9 : DataW.trod enc Tryz.prog w base spare held n 9 [a19] = xs[9]? := by simpa [c6] using hf 9 _ rfl
    have f10 : DataW.trod enc Tryz.prog w base spare held n 66 [a20, a21, a22] = xs[10]? := by simpa [c7] using hf 10 _ rfl
    have f11 : DataW.trod enc Tryz.prog w base spare held n 66 [a23, a24, a25] = xs[11]? := by simpa [c7] using hf 11 _ rfl
    simp at hxl
    obtain ⟨s0, h0, h0b, r0, r0b⟩ := trod_stampR (f0.trans (List.getElem?_eq_getElem (by omega)))
    obtain ⟨z0, z1, z2, z3, z4, z5, z6, z7, h1, q0, q1, q2, q3, q4, q5, q6, q7⟩ := trod_vec (f1.trans (List.getElem?_eq_getElem (by omega)))
    obtain ⟨k, h2, r2⟩ := trod_one Tryz.underlying63 (f2.trans (List.getElem?_eq_getElem (by omega)))
    obtain ⟨s3, h3, h3b, r3, r3b⟩ := trod_stampR (f3.trans (List.getElem?_eq_getElem (by omega)))
    obtain ⟨sd, h4, r4⟩ := trod_one Tryz.underlying64 (f4.trans (List.getElem?_eq_getElem (by omega)))
    obtain ⟨ch, h5, r5⟩ := trod_one Tryz.underlying3 (f5.trans (List.getElem?_eq_getElem (by omega)))
    obtain ⟨s6, h6, h6b, r6, r6b⟩ := trod_stampR (f6.trans (List.getElem?_eq_getElem (by omega)))
    obtain ⟨ky, h7, _, l7⟩ := DataW.trod_string Tryz.underlying9 (f7.trans (List.getElem?_eq_getElem (by omega)))
    obtain ⟨nm, h8, _, l8⟩ := DataW.trod_string Tryz.underlying9 (f8.trans (List.getElem?_eq_getElem (by omega)))
    obtain ⟨vl, h9, _, l9⟩ := DataW.trod_string Tryz.underlying9 (f9.trans (List.getElem?_eq_getElem (by omega)))
    obtain ⟨s10, q10, i0, i1, i2, r10, r10b⟩ := trod_anch (f10.trans (List.getElem?_eq_getElem (by omega)))
    obtain ⟨s11, q11, j0, j1, j2, r11, r11b⟩ := trod_anch (f11.trans (List.getElem?_eq_getElem (by omega)))
    simp only [List.cons.injEq, and_true] at h1 h7 h8 h9
    unfold maxLen at l7 l8 l9
    refine ⟨⟨s0, z0, z1, z2, z3, z4, z5, z6, z7, k, s3, sd, ch, s6, ky, nm, vl, s10, q10, s11, q11⟩, by simp only [OpD.cells, h0, h0b, h1, h2, h3, h3b, h4, h5, h6, h6b, h7, h8, h9, i0, i1, i2, j0, j1, j2], ⟨⟨by omega, by omega, by omega⟩, fun c hc => ?_⟩⟩
    match c, hc with
    | 0, _ => exact r0
    | 1, _ => exact r0b
    | 2, _ => exact q0
    | 3, _ => exact q1
    | 4, _ => exact q2
    | 5, _ => exact q3
    | 6, _ => exact q4
    | 7, _ => exact q5
    | 8, _ => exact q6
    | 9, _ => exact q7
    | 10, _ => exact r2
    | 11, _ => exact r3
    | 12, _ => exact r3b
    | 13, _ => exact r4
    | 14, _ => exact r5
    | 15, _ => exact r6
    | 16, _ => exact r6b
    | 17, _ => exact r10
    | 18, _ => exact r10b
    | 19, _ => exact r11
    | 20, _ => exact r11b
    | n + 21, h => exact absurd h (by omega)
set_option maxRecDepth 100000 in
theorem open_opsR {r : Reach} {b0 : Nat} {v : Value} {d : DataW H} {p : List MemPlace} (hv : Value.okWide Tryz.prog w r b0 24 v) (h : DataW.Trod enc Tryz.prog w base spare held 24 v d p) : ∃ l, SliceIs OpD.cells 26 w v l ∧ ∀ x ∈ l, x.wf := by
  obtain ⟨a0, len0, cap0, rfl⟩ := okWide_slice Tryz.underlying24 hv
  obtain ⟨fuel, hf⟩ := h
  obtain ⟨v', l, hcs, hl, hp⟩ := open_slice_p (ea := OpD.cells) (k := 26) (p := OpD.wf) Tryz.underlying24 (by kernel_rfl) (by omega) OpD.len (fun _ _ _ h => trod_opR h) hf
  simp [Value.cells] at hcs
  subst hcs
  exact ⟨l, hl, hp⟩
end
end Go.Proofs.YtgmdimbiipemhaaGreatDoor
namespace Go.Proofs.YtgmdimbiipemhaaGreatDoor
open Go Go.ChangeShapes Go.WideShapes Go.ChangeAt Go.RowKit
set_option maxRecDepth 100000 in
theorem oplogNil_lifted (os : Os) (started : os.Started) (H : Type) (enc : TypeId × Value → H) :
    ReturnsInHanded {} Tryz.checked os 9 .any (fun w args => (Rows.oplogNilSpec.pre enc Tryz.prog Tryz.f9 [] false w args ∧ laidMetH Tryz.prog laidL4 w) ∧ sizedMet enc Tryz.prog Tryz.f9 (OpenSpec.ofChange Rows.oplogNilSpec) false w args)
      (Rows.oplogNilSpec.post enc Tryz.prog Tryz.f9 false true false false) := by
  refine returnsInHanded_of_change_and (C := Tryz.checked) (X := fun w _ => laidMetH Tryz.prog laidL4 w) (fun _ _ _ hh h => h.of_heap hh) Tryz.own started (by kernel_rfl) Tryz.func9
    (ChangeSpec.witness_shaped (enc := enc) (C := Tryz.checked) (os := os) (X := fun w _ => laidMetH Tryz.prog laidL4 w) false (worldL4 os) #[.slice none 0 0] 8 (worldL4_os os) (World.shaped_of_ZipB (by kernel_rfl) (by kernel_rfl)) (by kernel_rfl) (by kernel_rfl) (by kernel_rfl) (worldL4_met os _)) ?_
  intro W base args ds gs before hval0 hW _ _ hL _
  have hval : ∀ (j : Nat) t v, Tryz.f9.params[j]? = some t → args[j]? = some v → Value.okWide Tryz.prog W .any base t v := hval0
  have hW' := hW
  obtain ⟨p, q, hA0, hV, rfl, hfz, hnd⟩ := hW
  have hA : DataW.TrodAll enc Tryz.prog W 0 (fun _ => true) true Tryz.f9.params.toList args.toList ds p := hA0
  rw [Tryz.params9] at hA hval
  obtain ⟨v0, vs0, d0, ds0, p0, q0, hargs, rfl, rfl, h0, r0⟩ := trodAll_cons hA
  obtain ⟨rfl, rfl, rfl⟩ := trodAll_nil r0
  obtain rfl : args = #[v0] := by cases args; simp_all
  obtain ⟨rfl, rfl⟩ := trodVars_none hV
  have k0 := h0
  have lt0 : ∀ x ∈ p0, x.block < W.heap.size := by obtain ⟨m, hm⟩ := k0; exact DataW.trod_lt m _ _ _ hm
  obtain ⟨l, hv0, -⟩ := open_opsR (hval 0 24 v0 rfl rfl) h0
  clear hA0 hval0
  refine (onil_any v0 l W hv0 (errTy_of_laid4 hL)).mono fun e W' ⟨he, bel⟩ => ?_
  subst he
  exact ⟨_, rfl, _, _, _, [], _, [], hW', trodAll_mk1 (shut_bool Tryz.underlying4 _), (trodAll_cons_mk (Below.trod Tryz.laidOut (by kernel_rfl) (of_decide_eq_true (by kernel_rfl)) k0 bel lt0) trodAll_mk0), rfl, bel.frame _, fun h => by cases h⟩
theorem oplogNil_holds : Rows.OplogNilSaid :=
  OpenClaim.holds_of_wide 9 Tryz.f9 rfl rfl rfl rfl rfl rfl rfl ⟨rfl, rfl, rfl, rfl, rfl⟩ rfl rfl rfl rfl rfl (by kernel_rfl) Tryz.func9 (by kernel_rfl)
    (of_decide_eq_true (by kernel_rfl)) (by unfold Func.isWrapper; first | (rw [if_pos (by decide +kernel)]; kernel_rfl) | (rw [if_neg (by decide +kernel)]; exact ⟨rfl, rfl⟩))
    (fun os started H enc _ => oplogNil_lifted os started H enc)
theorem oplogNil_card : Rows.OplogNilCardSaid :=
  Claim7.holds_tied_plain_at .later [] [.data, .handle, .sentinel, .pinned] true Rows.oplogNilCard.stood.harness true
    oplogNil_holds (fun _ h => by cases h) (by kernel_rfl) (fun _ h => by cases h) oplogNil_row_tie rfl ⟨rfl, rfl⟩ (by kernel_rfl) rfl
    (fun f fn hf hfn => by
      obtain rfl : f = 9 := Option.some.inj ((show Tryz.prog.funcNamed "stemma/stemmalaw09.OplogNil" = some 9 by kernel_rfl).symm.trans hf) |>.symm
      obtain rfl : fn = Tryz.f9 := (Option.some.inj (Tryz.func9.symm.trans hfn)).symm
      exact ⟨by kernel_rfl, fun j t ht => by
        rw [Tryz.params9] at ht
        have hm : t ∈ [24] := by simpa using Array.mem_of_getElem? ht
        have hall : ([24].all fun u => !Tryz.prog.wantsStandIn u) = true := by kernel_rfl
        exact (show Tryz.prog.wantsStandIn t = false by simpa using List.all_eq_true.1 hall t hm)⟩)
    (by kernel_rfl)
#print axioms oplogNil_card
end Go.Proofs.YtgmdimbiipemhaaGreatDoor
