/- Layer 17: Style: what each element has. -/
import Derived.Test.YtlfmkoapddihcaaFound17
import Derived.Test.YtlfmkoapddihcaaHas17
namespace Go.Proofs.Ytlfmkoapddihcaa
open Go.RowKit Go.Sort Go.Shelf
set_option linter.unusedSimpArgs false
set_option linter.unusedVariables false

/-- A slice, as an element of a slice. -/
structure Sl where
  a : Option Addr
  n : Nat
  cap : Nat
def Sl.val (s : Sl) : Value := .slice s.a s.n s.cap
def Sl.cells (s : Sl) : List Value := [.slice s.a s.n s.cap]
theorem Sl.len (x : Sl) : x.cells.length = 1 := rfl
theorem Sl.one (x : Sl) : ∀ u ∈ x.cells, u.oneCell' = true := by
  intro u hu
  simp only [Sl.cells, List.mem_cons, List.not_mem_nil, or_false] at hu
  subst hu
  rfl
theorem Own.sl {α : Type} {ea : α → List Value} {k : Nat} {e : TypeId} {base : Nat} {w : World} {v : Value} {l : List α} (h : Own ea k e base w v l) : ∃ s : Sl, v = .slice s.a s.n s.cap := by
  rcases h.eq_slice with ⟨rfl, _⟩ | ⟨g, c, rfl, _, _⟩
  · exact ⟨⟨none, 0, 0⟩, rfl⟩
  · exact ⟨⟨_, _, _⟩, rfl⟩
/-- Slices of unlike elements lie apart. -/
theorem Own.apart {α β : Type} {ea : α → List Value} {eb : β → List Value} {k k' : Nat} {e e' : TypeId} {base base' : Nat} {w : World} {v u : Value} {l : List α} {l' : List β} (h : Own ea k e base w v l) (h' : Own eb k' e' base' w u l') (hne : e ≠ e') : ∀ b, v.ownBlock = some b → ¬ u.ownBlock = some b := by
  intro b hb hb'
  obtain ⟨c1, h1⟩ := h.tag hb
  obtain ⟨c2, h2⟩ := h'.tag hb'
  rw [h1] at h2
  simp only [Option.some.injEq, Obj.cells.injEq] at h2
  exact hne h2.2.1

/-- These are what the i-th element has, by rising names. -/
def AttrsAt (F : List Mark) (i : Int) (al : List Atr) : Prop := al.Perm (attrsH (hasM F i)) ∧ al.Pairwise (fun a b => ltOf (fun x y : Atr => cmpB x.name y.name) b a = false)

theorem info_attrs : (Try.prog.info? 29).map (fun i => (i.zero, i.size, i.bytes)) = some (some (.slice none 0 0), 1, 24) := by kernel_rfl

/-- Style's list so far. -/
def StyleRel (w : World) (F : List Mark) (v : Value) (out : Value) (k : Nat) (wr : World) : Prop :=
  ∃ vs : List Sl, Own Sl.cells 1 29 w.heap.size wr out vs ∧ vs.length = k ∧ (∀ (i : Nat) s, vs[i]? = some s → ∃ al, Own Atr.cells 2 51 w.heap.size wr s.val al ∧ AttrsAt F i al) ∧
    Own Mark.cells 28 78 w.heap.size wr v F ∧ Below w.heap.size w wr

set_option maxRecDepth 100000 in
set_option maxHeartbeats 1000000 in
theorem style_any (va vb : Option Addr) (ca cb : Nat) (l : List El) (ms : List OpD) (w : World) (hl : SliceIs El.cells 4 w (.slice va l.length ca) l) (hm : SliceIs OpD.cells 26 w (.slice vb ms.length cb) ms) (hln : l.length ≤ 1000) (hmn : ms.length ≤ 1000) :
    Calls Try.prog 13 #[.slice va l.length ca, .slice vb ms.length cb] w
      fun e w' => ∃ u vs F, e = .returned u ∧ StableOf stLt keyM (rawMarks (notedP (backXs l)) (backXs ms)) F ∧ Own Sl.cells 1 29 w.heap.size w' u vs ∧ vs.length = l.length ∧
        (∀ (i : Nat) s, vs[i]? = some s → ∃ al, Own Atr.cells 2 51 w.heap.size w' s.val al ∧ AttrsAt F i al) ∧ Below w.heap.size w w' := by
  obtain ⟨i0, hi, hz0, hz1', hz2⟩ := info_parts info_attrs
  go_enter Try.func13, Try.ntmps13
  go_wp2_with fail
  refine (found_any va vb ca cb l ms w hl hm hln hmn).mono ?_
  rintro e w1 ⟨v, F, rfl, hFo, hF, hb1⟩
  have hFn : F.length ≤ 1000 := by
    have h1 := rawMarks_le (notedP (backXs l)) (backXs ms)
    rw [backXs_length] at h1
    have := hF.perm.length_eq
    omega
  go_wp2_with fail
  go_loopg [6, 13] l.length (fun g out iv wr => ∃ k : Nat, g = l.length - k ∧ k ≤ l.length ∧ iv = .int .i64 k ∧ StyleRel w F v out k wr)
  case atStart => exact ⟨0, by omega, by omega, rfl, [], Own.nil, rfl, by simp, hFo, hb1⟩
  case round =>
    clear hb1 hFo hl hm
    obtain ⟨k, hg, hk, rfl, vs, hO, hvl, hE, hFo, hB⟩ := hrel
    by_cases hkl : k < l.length
    · have hkk : (k : Int) < (l.length : Int) := by omega
      go_wp2_with fail
      refine (has_any v F k wr (hFo.slice Mark.len) hFn).mono ?_
      rintro e w2 ⟨u, al, rfl, hA1, hA2, hA3, hb2⟩
      obtain ⟨sl, rfl⟩ := hA1.sl
      have hx2 : Ext (fun _ => False) wr w2 := Ext.of_below hb2
      have hO2 := hO.ext hx2 (fun _ _ f => f)
      have hFo2 := hFo.ext hx2 (fun _ _ f => f)
      have hA4 : Own Atr.cells 2 51 w.heap.size w2 sl.val al := hA1.mono hB.size
      have hE2 : ∀ (i : Nat) s, (vs ++ [sl])[i]? = some s → ∃ al, Own Atr.cells 2 51 w.heap.size w2 s.val al ∧ AttrsAt F i al := fun i s hs => by
        by_cases hi : i < vs.length
        · rw [List.getElem?_append_left hi] at hs
          obtain ⟨al, h1, h2⟩ := hE i s hs
          exact ⟨al, h1.ext hx2 (fun _ _ f => f), h2⟩
        · have hi2 : i = vs.length := by
            have := (List.getElem?_eq_some_iff.1 hs).1
            simp at this
            omega
          subst hi2
          simp at hs
          subst hs
          exact ⟨al, hA4, by rw [hvl]; exact ⟨hA2, hA3⟩⟩
      have hB2 : Below w.heap.size w w2 := hB.trans (hb2.mono hB.size)
      have hsz := hB2.size
      have hvs : vs.length ≤ 1000 := by omega
      have HE2 := Lib.hid hE2
      have HB2 := Lib.hid hB2
      have HF2 := Lib.hid hFo2
      have HG := Lib.hid hg
      have HV := Lib.hid hvl
      clear hE hE2 hB hB2 hO hFo hFo2 hA1 hA2 hA3 hA4 hb2 hx2 hg hvl
      go_wp2_with (at_builtin; refine wpList_append_struct rfl _ _ _ rfl i0 (.slice none 0 0) 24 Try.underlying26 hi hz0 hz1' hz2 rfl (by omega) Sl.len Sl.one rfl (hO2.alloc _) sl w2.heap.size 1 rfl ?_ (by unfold maxLen; omega) (by omega) (by simp; omega) ?_)
      · intro j u hj
        match j, hj with
        | 0, hj => simp [Sl.cells] at hj; subst hj; go_simp
        | n + 1, hj => simp [Sl.cells] at hj
      · intro v' w3 hO3 hx3
        go_wp2_with fail
        go_roundg (l.length - (k + 1))
        case measure => rw [HG.out]; omega
        case rel =>
          refine ⟨k + 1, rfl, by omega, by simp, vs ++ [sl], hO3, by simp [HV.out], ?_, ?_, ?_⟩
          · intro i s hs
            obtain ⟨al, h1, h2⟩ := HE2.out i s hs
            exact ⟨al, (h1.alloc _).ext hx3 (h1.apart hO2 (by decide)), h2⟩
          · exact (HF2.out.alloc _).ext hx3 (HF2.out.apart hO2 (by decide))
          · exact Ext.new (HB2.out.alloc (by omega) _) hx3 (fun i hi _ e => by have := (hO2.blk _ e).1; omega) (by simp; omega)
    · obtain rfl : k = l.length := by omega
      go_wp2_with fail
      go_ret
      exact ⟨_, vs, F, rfl, hF, hO, hvl, hE, hB⟩

end Go.Proofs.Ytlfmkoapddihcaa
