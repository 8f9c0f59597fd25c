/- Layer 17: the reference's Style; what both sides tell of each element. -/
import Derived.Test.YtlfmkoapddihcaaRHas17
namespace Go.Proofs.Ytlfmkoapddihcaa
open Go.RowKit Go.Sort Go.Shelf
set_option linter.unusedSimpArgs false
set_option linter.unusedVariables false

/-- A list of what each element has. -/
def Styled (l : List El) (ms : List OpD) (base : Nat) (W : World) (n : Nat) (u : Value) : Prop :=
  ∃ vs : List Sl, Own Sl.cells 1 29 base W u vs ∧ vs.length = n ∧ ∀ (i : Nat) s, vs[i]? = some s → ∃ al, Own Atr.cells 2 51 base W s.val al ∧ HasL l ms i al

theorem hasM_nodup (F : List Mark) (i : Int) : ((hasM F i).map (·.1)).Nodup := by
  unfold hasM
  have : ∀ (F : List Mark) (h : List (ByteArray × Atr)), (h.map (·.1)).Nodup → ((F.foldl (fun h x => if x.lo ≤ i ∧ i < x.hi then aset h x.op.name (⟨x.op.name, x.op.value⟩ : Atr) else h) h).map (·.1)).Nodup := by
    intro F
    induction F with
    | nil => intro h hh; exact hh
    | cons x F ih =>
      intro h hh
      rw [List.foldl_cons]
      refine ih _ ?_
      split
      · exact aset_nodup h _ _ hh
      · exact hh
  exact this F [] List.nodup_nil
theorem Styled.ext {l : List El} {ms : List OpD} {base n : Nat} {W W' : World} {u : Value} (h : Styled l ms base W n u) (hb : Below W.heap.size W W') : Styled l ms base W' n u := by
  obtain ⟨vs, h1, h2, h3⟩ := h
  have hx : Ext (fun _ => False) W W' := Ext.of_below hb
  refine ⟨vs, h1.ext hx (fun _ _ f => f), h2, fun i s hs => ?_⟩
  obtain ⟨al, h4, h5⟩ := h3 i s hs
  exact ⟨al, h4.ext hx (fun _ _ f => f), h5⟩

theorem pstyle_any (va vb : Option Addr) (ca cb : Nat) (l : List El) (ms : List OpD) (w : World) (hl : SliceIs El.cells 4 w (.slice va l.length ca) l) (hm : SliceIs OpD.cells 26 w (.slice vb ms.length cb) ms) (hln : l.length ≤ 1000) (hmn : ms.length ≤ 1000) :
    Calls Try.prog 13 #[.slice va l.length ca, .slice vb ms.length cb] w fun e w' => ∃ u, e = .returned u ∧ Hid (Styled l ms w.heap.size w' l.length u) ∧ Below w.heap.size w w' := by
  refine (style_any va vb ca cb l ms w hl hm hln hmn).mono ?_
  rintro e w' ⟨u, vs, F, rfl, hF, hO, hn, hE, hb⟩
  refine ⟨u, rfl, Lib.hid ⟨vs, hO, hn, fun i s hs => ?_⟩, hb⟩
  obtain ⟨al, h1, h2⟩ := hE i s hs
  exact ⟨al, h1, attrs_hasL hF h2 (hasM_nodup F i)⟩

set_option maxRecDepth 100000 in
set_option maxHeartbeats 1000000 in
theorem rstyle_any (va vb : Option Addr) (ca cb : Nat) (l : List El) (ms : List OpD) (w : World) (hl : SliceIs El.cells 4 w (.slice va l.length ca) l) (hm : SliceIs OpD.cells 26 w (.slice vb ms.length cb) ms) (hln : l.length ≤ 1000) (hmn : ms.length ≤ 1000) :
    Calls Try.prog 14 #[.slice va l.length ca, .slice vb ms.length cb] w fun e w' => ∃ u, e = .returned u ∧ Hid (Styled l ms w.heap.size w' l.length u) ∧ Below w.heap.size w w' := by
  obtain ⟨i0, hi, hz0, hz1', hz2⟩ := info_parts info_attrs
  have HL := Lib.hid hl
  have HM := Lib.hid hm
  clear hl hm
  go_enter Try.func14, Try.ntmps14
  go_wp2_with fail
  go_loopg [5, 6] l.length (fun g out iv wr => ∃ k : Nat, g = l.length - k ∧ k ≤ l.length ∧ iv = .int .i64 k ∧ Hid (Styled l ms w.heap.size wr k out) ∧ Below w.heap.size w wr)
  case atStart => exact ⟨0, by omega, by omega, rfl, Lib.hid ⟨[], Own.nil, rfl, by simp⟩, Below.refl _ _⟩
  case round =>
    obtain ⟨k, hg, hk, rfl, hS, hB⟩ := hrel
    by_cases hkl : k < l.length
    · have hkk : (k : Int) < (l.length : Int) := by omega
      have hkp : ∀ b o u, w.cell? ⟨b, o, none⟩ = some u → wr.cell? ⟨b, o, none⟩ = some u := fun b o u h => (World.cell?_of_block (w := w) (hB.block _ (cell_lt h))).trans h
      have hlr := HL.out.of hkp
      have hmr := HM.out.of hkp
      clear hkp
      go_wp2_with fail
      refine (rhas_any va vb ca cb l ms k wr hlr hmr hln hmn (by omega) (by omega)).mono ?_
      rintro e w2 ⟨u, al, rfl, hA, hHL, hb2⟩
      obtain ⟨sl, rfl⟩ := hA.sl
      have hB2 : Below w.heap.size w w2 := hB.trans (hb2.mono hB.size)
      obtain ⟨vs, hO, hvl, hE⟩ := hS.out.ext hb2
      have hE2 : ∀ (i : Nat) s, (vs ++ [sl])[i]? = some s → ∃ al, Own Atr.cells 2 51 w.heap.size w2 s.val al ∧ HasL l ms i al := fun i s hs => by
        by_cases hi : i < vs.length
        · rw [List.getElem?_append_left hi] at hs
          exact hE i s hs
        · have hi2 : i = vs.length := by
            have := (List.getElem?_eq_some_iff.1 hs).1
            simp at this
            omega
          subst hi2
          simp at hs
          subst hs
          exact ⟨al, hA.mono hB.size, by rw [hvl]; exact hHL.out⟩
      have hsz := hB2.size
      have hvs : vs.length ≤ 1000 := by omega
      have HE2 := Lib.hid hE2
      have HB2 := Lib.hid hB2
      have HG := Lib.hid hg
      have HV := Lib.hid hvl
      clear hE hE2 hB hB2 hS hA hHL hb2 hg hvl hlr hmr
      go_wp2_with (at_builtin; refine wpList_append_struct rfl _ _ _ rfl i0 (.slice none 0 0) 24 Try.underlying26 hi hz0 hz1' hz2 rfl (by omega) Sl.len Sl.one rfl (hO.alloc _) sl w2.heap.size 1 rfl ?_ (by unfold maxLen; omega) (by omega) (by simp; omega) ?_)
      · intro j u hj
        match j, hj with
        | 0, hj => simp [Sl.cells] at hj; subst hj; go_simp
        | n + 1, hj => simp [Sl.cells] at hj
      · intro v' w3 hO3 hx3
        go_wp2_with fail
        go_roundg (l.length - (k + 1))
        case measure => rw [HG.out]; omega
        case rel =>
          refine ⟨k + 1, rfl, by omega, by simp, Lib.hid ⟨vs ++ [sl], hO3, by simp [HV.out], ?_⟩, ?_⟩
          · intro i s hs
            obtain ⟨al, h1, h2⟩ := HE2.out i s hs
            exact ⟨al, (h1.alloc _).ext hx3 (h1.apart hO (by decide)), h2⟩
          · exact Ext.new (HB2.out.alloc (by omega) _) hx3 (fun i hi _ e => by have := (hO.blk _ e).1; omega) (by simp; omega)
    · obtain rfl : k = l.length := by omega
      go_wp2_with fail
      go_ret
      exact ⟨_, rfl, hS, hB⟩

theorem few_any (va vb : Option Addr) (ca cb n m : Nat) (w : World) : Calls Try.prog 11 #[.slice va n ca, .slice vb m cb] w fun e w' => e = .returned (.bool (decide (n ≤ 60 ∧ m ≤ 30))) ∧ w' = w := by
  by_cases h1 : n ≤ 60
  · have h1' : (n : Int) ≤ 60 := by omega
    by_cases h2 : m ≤ 30
    · have h2' : (m : Int) ≤ 30 := by omega
      go_enter Try.func11, Try.ntmps11
      go_wp2_with fail
      go_ret
      exact ⟨by simp [h1, h2], rfl⟩
    · have h2' : ¬ (m : Int) ≤ 30 := by omega
      go_enter Try.func11, Try.ntmps11
      go_wp2_with fail
      go_ret
      exact ⟨by simp [h1, h2], rfl⟩
  · have h1' : ¬ (n : Int) ≤ 60 := by omega
    go_enter Try.func11, Try.ntmps11
    go_wp2_with fail
    go_ret
    exact ⟨by simp [h1], rfl⟩

end Go.Proofs.Ytlfmkoapddihcaa
