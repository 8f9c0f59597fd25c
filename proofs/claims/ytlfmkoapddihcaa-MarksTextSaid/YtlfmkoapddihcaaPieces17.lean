/- Layer 17: Pieces: a span's characters with their marks. -/
import Derived.Test.YtlfmkoapddihcaaPieceP17
import Derived.Test.YtlfmkoapddihcaaEqual17
import Derived.Deep.CutBlock
import Derived.Deep.DeepCutAuto
import Derived.BigRegion
namespace Go.Proofs.Ytlfmkoapddihcaa
open Go.RowKit Go.Sort Go.Shelf
set_option linter.unusedSimpArgs false
set_option linter.unusedVariables false

/-- What the loop of Pieces has at its head. -/
def PRel (l : List El) (ms : List OpD) (F : List Mark) (f : Nat) (t : Int) (v : Value) (w : World) (n : Nat) (out : Value) (wr : World) : Prop :=
  Hid (PcsIs (w.heap.size + 1) wr out (pcsN l ms f n)) ∧ Hid (Own Mark.cells 28 78 (w.heap.size + 1) wr v F) ∧ wr.cell? ⟨w.heap.size, 3, none⟩ = some (.int .i64 t) ∧ Below w.heap.size w wr ∧ w.heap.size + 1 ≤ wr.heap.size

/-- A span's pieces. -/
noncomputable def piecesP (l : List El) (ms : List OpD) (fi ti : Int) : Pcs := if fi < 0 ∨ ti < fi ∨ (l.length : Int) < ti then [] else pcsN l ms fi.toNat (ti.toNat - fi.toNat)

theorem own_text {base : Nat} {w : World} {g n cap : Nat} {Q : List Pc} {x : Pc} (h : Own Pc.cells 2 60 base w (.slice (some ⟨g, 0, none⟩) n cap) (Q ++ [x])) (t : ByteArray) :
    Own Pc.cells 2 60 base (w.setCell ⟨g, Q.length * 2, none⟩ (.string t)) (.slice (some ⟨g, 0, none⟩) n cap) (Q ++ [⟨t, x.s⟩]) := by
  have hn : n = (Q ++ [x]).length := by
    obtain ⟨va, vc, hv, _⟩ := h.slice Pc.len
    cases hv
    rfl
  subst hn
  have h1 := (World.ownsRow.stored h (Q.length * 2) (.string t)).1
  unfold Own
  have e : ((Q ++ [x]).flatMap Pc.cells).set (Q.length * 2) (.string t) = (Q ++ [(⟨t, x.s⟩ : Pc)]).flatMap Pc.cells := by
    have hl := length_flatMap_k Pc.len Q
    rw [List.flatMap_append, List.flatMap_append, List.set_append_right _ _ (by omega), hl, Nat.sub_self]
    rfl
  have hl2 : (Q ++ [(⟨t, x.s⟩ : Pc)]).length = (Q ++ [x]).length := by simp
  rw [← e, hl2]
  exact h1
theorem own_piece {base : Nat} {w : World} {g n cap : Nat} {Q : List Pc} {x : Pc} (h : Own Pc.cells 2 60 base w (.slice (some ⟨g, 0, none⟩) n cap) (Q ++ [x])) :
    n = Q.length + 1 ∧ n ≤ cap ∧ cap ≤ maxLen ∧ g < w.heap.size ∧ base ≤ g ∧ w.cell? ⟨g, Q.length * 2, none⟩ = some (.string x.t) ∧ w.cell? ⟨g, Q.length * 2 + 1, none⟩ = some (.slice x.s.a x.s.n x.s.cap) ∧ w.frozen? ⟨g, Q.length * 2, none⟩ = false := by
  have hb := h.blk g rfl
  obtain ⟨va, vc, hv, h2, h3, h4⟩ := h.slice Pc.len
  cases hv
  obtain ⟨b, o, he, hc⟩ := h4 (by simp)
  cases he
  have c1 := hc Q.length x (by simp) 0 _ rfl
  have c2 := hc Q.length x (by simp) 1 _ rfl
  rw [Nat.zero_add] at c1 c2
  refine ⟨by simp, h2, h3, hb.2, hb.1, c1, c2, World.ownsRow.frozenAt h _⟩

theorem snoc_cases {α : Type} (l : List α) : l = [] ∨ ∃ q x, l = q ++ [x] := by
  rcases List.eq_nil_or_concat l with h | ⟨q, x, h⟩
  · exact .inl h
  · exact .inr ⟨q, x, by rw [h, List.concat_eq_append]⟩

theorem pcs_close {base g cap nn : Nat} {w3 : World} {q1 : List Pc} {s : Sl} {u1 t' : ByteArray} {q2 : Pcs} {al : List Atr} (hown : Own Pc.cells 2 60 base w3 (.slice (some ⟨g, 0, none⟩) nn cap) (q1 ++ [⟨u1, s⟩])) (hl : q1.length = q2.length)
    (hE : ∀ (j : Nat) (y : Pc), (q1 ++ [(⟨u1, s⟩ : Pc)])[j]? = some y → ∃ al', (q2 ++ [(u1, al)])[j]? = some (y.t, al') ∧ Own Atr.cells 2 51 base w3 y.s.val al') (o : Obj) :
    PcsIs base (((w3.setCell ⟨g, q1.length * 2, none⟩ (.string t')).alloc o).drew) (.slice (some ⟨g, 0, none⟩) nn cap) (q2 ++ [(t', al)]) := by
  have hx4 : Ext (· = g) w3 (w3.setCell ⟨g, q1.length * 2, none⟩ (.string t')) := (Ext.refl (· = g) w3).setCell (p := ⟨g, q1.length * 2, none⟩) (.inr rfl) _
  have hk : ∀ {v : Value} {q : List Atr}, Own Atr.cells 2 51 base w3 v q → Own Atr.cells 2 51 base (((w3.setCell ⟨g, q1.length * 2, none⟩ (.string t')).alloc o).drew) v q := fun h => ((h.ext hx4 (fun b hb e => h.apart hown (by decide) b hb (by rw [e]; rfl))).alloc o).drew
  refine ⟨q1 ++ [⟨t', s⟩], ((own_text hown t').alloc o).drew, by simp [hl], fun j y hj => ?_⟩
  by_cases hjv : j < q1.length
  · rw [List.getElem?_append_left hjv] at hj
    obtain ⟨al', h1, h2⟩ := hE j y (by rw [List.getElem?_append_left hjv]; exact hj)
    rw [List.getElem?_append_left (by omega)] at h1
    exact ⟨al', by rw [List.getElem?_append_left (by omega)]; exact h1, hk h2⟩
  · have hj2 : j = q1.length := by
      have := (List.getElem?_eq_some_iff.1 hj).1
      simp at this
      omega
    subst hj2
    simp at hj
    subst hj
    obtain ⟨al', h1, h2⟩ := hE q1.length ⟨u1, s⟩ (by simp)
    rw [hl] at h1
    simp at h1
    subst h1
    exact ⟨al, by rw [hl]; simp, hk h2⟩

set_option maxRecDepth 100000 in
set_option maxHeartbeats 4000000 in
theorem pieces_any (va vb : Option Addr) (ca cb : Nat) (l : List El) (ms : List OpD) (sn sr fi ti : Int) (w : World) (hl : SliceIs El.cells 4 w (.slice va l.length ca) l) (hm : SliceIs OpD.cells 26 w (.slice vb ms.length cb) ms) (hln : l.length ≤ 1000) (hmn : ms.length ≤ 1000) :
    Calls Try.prog 21 #[.slice va l.length ca, .agg #[.int .i64 sn, .int .i64 sr, .int .i64 fi, .int .i64 ti], .slice vb ms.length cb] w fun e w' => ∃ u, e = .returned u ∧ Hid (PcsIs w.heap.size w' u (piecesP l ms fi ti)) ∧ Below w.heap.size w w' := by
  obtain ⟨i0, hi, hz0, hz1', hz2⟩ := info_parts info_piece
  obtain ⟨_, _, e0, hcap, hmax, hcs⟩ := id hl
  cases e0
  have HC := Lib.hid hcs
  have hB0 : Below w.heap.size w (w.alloc (.cells #[.int .i64 sn, .int .i64 sr, .int .i64 fi, .int .i64 ti] 54)) := (Below.refl _ _).alloc (Nat.le_refl _) _
  have hl0 := hl.below hB0
  have hm0 := hm.below hB0
  have d2 : (w.alloc (.cells #[.int .i64 sn, .int .i64 sr, .int .i64 fi, .int .i64 ti] 54)).cell? ⟨w.heap.size, 2, none⟩ = some (.int .i64 fi) := by go_simp
  have d3 : (w.alloc (.cells #[.int .i64 sn, .int .i64 sr, .int .i64 fi, .int .i64 ti] 54)).cell? ⟨w.heap.size, 3, none⟩ = some (.int .i64 ti) := by go_simp
  have hz : (w.alloc (.cells #[.int .i64 sn, .int .i64 sr, .int .i64 fi, .int .i64 ti] 54)).heap.size = w.heap.size + 1 := by simp
  clear hcs hl hm
  by_cases hbad : fi < 0 ∨ ti < fi ∨ (l.length : Int) < ti
  · have HR : Hid (∀ W, PcsIs w.heap.size W (.slice none 0 0) (piecesP l ms fi ti)) := Lib.hid (fun W => by
      rw [piecesP, if_pos hbad]
      exact ⟨[], Own.nil, rfl, by simp⟩)
    by_cases h1 : fi < 0
    · clear hbad
      go_enter Try.func21, Try.ntmps21
      go_wp2_with fail
      go_ret
      exact ⟨_, rfl, Lib.hid (HR.out _), hB0⟩
    · by_cases h2 : ti < fi
      · clear hbad
        go_enter Try.func21, Try.ntmps21
        go_wp2_with fail
        go_ret
        exact ⟨_, rfl, Lib.hid (HR.out _), hB0⟩
      · have h3 : (l.length : Int) < ti := by omega
        clear hbad
        go_enter Try.func21, Try.ntmps21
        go_wp2_with fail
        go_ret
        exact ⟨_, rfl, Lib.hid (HR.out _), hB0⟩
  · obtain ⟨f, rfl⟩ : ∃ f : Nat, fi = (f : Int) := ⟨fi.toNat, by omega⟩
    obtain ⟨N, rfl⟩ : ∃ N : Nat, ti = (f : Int) + (N : Int) := ⟨(ti - f).toNat, by omega⟩
    have HR : Hid (piecesP l ms f ((f : Int) + (N : Int)) = pcsN l ms f N) := Lib.hid (by
      rw [piecesP, if_neg hbad]
      have e1 : ((f : Int) + (N : Int)).toNat - (f : Int).toNat = N := by omega
      rw [e1, Int.toNat_natCast])
    have hfN : f + N ≤ l.length := by omega
    have i1 : ¬ (f : Int) < 0 := by omega
    have i2 : ¬ (f : Int) + (N : Int) < (f : Int) := by omega
    have i3 : ¬ (l.length : Int) < (f : Int) + (N : Int) := by omega
    have i4 : ¬ (N : Int) < 0 := by omega
    clear hbad
    obtain ⟨W0, hW0⟩ : ∃ W0, w.alloc (.cells #[.int .i64 sn, .int .i64 sr, .int .i64 f, .int .i64 ((f : Int) + (N : Int))] 54) = W0 := ⟨_, rfl⟩
    rw [hW0] at hB0 hl0 hm0 d2 d3 hz
    have HW0 := Lib.hid hW0
    clear hW0
    go_enter Try.func21, Try.ntmps21
    go_upto_region 1 with fail
    rw [HW0.out]
    go_wp2_with fail
    refine (found_any va vb ca cb l ms W0 hl0 hm0 hln hmn).mono ?_
    rintro e w1 ⟨v, F, rfl, hFo, hF, hb1⟩
    have hFn : F.length ≤ 1000 := by
      have h1 := rawMarks_le (notedP (backXs l)) (backXs ms)
      rw [backXs_length] at h1
      have := hF.perm.length_eq
      omega
    have HF := Lib.hid hF
    have hB1 := hB0.trans (hb1.mono hB0.size)
    have e2 := keepB hb1 d2
    have e3 := keepB hb1 d3
    have hs1 := hb1.size
    rw [hz] at hs1
    rw [hz] at hFo
    clear hF hb1 hB0 hl0 hm0 d2 d3
    go_wp2_with fail
    go_loopg [8, 9] N (fun g out iv wr => ∃ n : Nat, g = N - n ∧ n ≤ N ∧ iv = .int .i64 ((f : Int) + (n : Int)) ∧ PRel l ms F f ((f : Int) + (N : Int)) v w n out wr)
    case atStart => exact ⟨0, by omega, by omega, by simp, Lib.hid ⟨[], Own.nil, rfl, by simp⟩, Lib.hid hFo, e3, hB1, hs1⟩
    case round =>
      clear e2 e3 hB1 hs1 hFo
      obtain ⟨n, hg, hn, rfl, hP, hFo, e3, hB, hs⟩ := hrel
      have HG := Lib.hid hg
      have HB := Lib.hid hB
      by_cases hnN : n < N
      · obtain ⟨x, hx⟩ : ∃ x, l[f + n]? = some x := ⟨_, List.getElem?_eq_getElem (by omega)⟩
        obtain ⟨b, o, rfl, hcc⟩ := HC.out (by intro e; rw [e] at hx; simp at hx)
        have hkp : ∀ {b o u}, w.cell? ⟨b, o, none⟩ = some u → wr.cell? ⟨b, o, none⟩ = some u := fun h => (World.cell?_of_block (w := w) (hB.block _ (cell_lt h))).trans h
        have x2 : wr.cell? ⟨b, o + (f + n) * 4 + 2, none⟩ = some (.int .i64 x.ch) := hkp (hcc (f + n) x hx 2 _ rfl)
        have x3 : wr.cell? ⟨b, o + (f + n) * 4 + 3, none⟩ = some (.bool x.gone) := hkp (hcc (f + n) x hx 3 _ rfl)
        have hbw : b < w.heap.size := cell_lt (hcc (f + n) x hx 2 _ rfl)
        have j1 : (f : Int) + (n : Int) < (f : Int) + (N : Int) := by omega
        have j2 : (f : Int) + (n : Int) < (l.length : Int) := by omega
        have j3 : (0 : Int) ≤ (f : Int) + (n : Int) := by omega
        have j4 : ((f : Int) + (n : Int)).toNat = f + n := by omega
        have HS := Lib.hid (pcsN_succ (ms := ms) hx)
        clear hcc hkp hg hB hx
        by_cases hsk : x.ch = 0 ∨ x.gone = true
        · have HSK := Lib.hid (stepPc_skip (al := hasOf l ms (f + n)) (P := pcsN l ms f n) hsk)
          by_cases hc0 : x.ch = 0
          · rw [hc0] at x2
            clear hsk
            go_wp2_with fail
            go_roundg (N - (n + 1))
            case measure => rw [HG.out]; omega
            case rel => exact ⟨n + 1, rfl, by omega, by simp; omega, Lib.hid (by rw [HS.out, HSK.out]; exact hP.out), hFo, e3, HB.out, hs⟩
          · have hgn : x.gone = true := hsk.resolve_left hc0
            rw [hgn] at x3
            clear hsk
            go_wp2_with fail
            go_roundg (N - (n + 1))
            case measure => rw [HG.out]; omega
            case rel => exact ⟨n + 1, rfl, by omega, by simp; omega, Lib.hid (by rw [HS.out, HSK.out]; exact hP.out), hFo, e3, HB.out, hs⟩
        · have hc0 : ¬ x.ch = 0 := fun e => hsk (.inl e)
          have hgn : x.gone = false := by
            cases h : x.gone with
            | false => rfl
            | true => exact absurd (.inr h) hsk
          rw [hgn] at x3
          have HK := Lib.hid hsk
          clear hsk
          go_wp2_with fail
          have hhas := has_any v F ((f + n : Nat) : Int) wr (hFo.out.slice Mark.len) hFn
          rw [Int.natCast_add] at hhas
          refine hhas.mono ?_
          rintro e w2 ⟨u2, al, rfl, hA1, hA2, hA3, hb2⟩
          have hal : hasOf l ms (f + n) = al := hasOf_eq (attrs_hasL HF.out ⟨by rw [Int.natCast_add]; exact hA2, hA3⟩ (hasM_nodup F _))
          have HAL := Lib.hid hal
          have hB2 := HB.out.trans (hb2.mono HB.out.size)
          have hA4 := hA1.mono hs
          have y2 := keepB hb2 x2
          have e4 := keepB hb2 e3
          have hFo2 := hFo.out.ext (Ext.of_below (S := fun _ => False) hb2) (fun _ _ h => h)
          have hs2 : w.heap.size + 1 ≤ w2.heap.size := Nat.le_trans hs hb2.size
          obtain ⟨vs, hO, hvl, hE⟩ := hP.out.ext hb2
          have hple := pcsN_le l ms f n
          have HSZ := Lib.hid (pcsN_size l ms f n)
          obtain ⟨sl, rfl⟩ := hA1.sl
          have HE := Lib.hid hE
          have HFo2 := Lib.hid hFo2
          have HB2 := Lib.hid hB2
          have HA4 := Lib.hid hA4
          clear hal hA1 hA2 hA3 hA4 hb2 hhas x2 x3 hP hFo e3 hs HB hE hFo2 hB2
          generalize pcsN l ms f n = P at *
          rcases snoc_cases P with rfl | ⟨Q, ⟨t0, bl⟩, rfl⟩
          · obtain rfl : vs = [] := List.eq_nil_of_length_eq_zero (by simpa using hvl)
            obtain ⟨a8, c8, rfl, hc8, hm8, _⟩ := hO.slice Pc.len
            simp only [List.length_nil] at hO hc8 ⊢
            go_upto_region 13 with (at_builtin; refine wpList_append_struct rfl _ _ _ rfl i0 (.agg #[.string ⟨#[]⟩, .slice none 0 0]) 40 Try.underlying56 hi hz0 hz1' hz2 rfl (by omega) Pc.len Pc.one rfl (hO.alloc _) ⟨⟨#[]⟩, sl⟩ w2.heap.size 1 rfl ?_ (by unfold maxLen; omega) (by omega) (by simp; omega) ?_)
            · intro j u hj
              match j, hj with
              | 0, hj => simp [Pc.cells] at hj; subst hj; go_simp
              | 1, hj => simp [Pc.cells] at hj; subst hj; go_simp
              | n + 2, hj => simp [Pc.cells] at hj
            · intro v' w3 hown hx3
              have hdis : ∀ {k : Nat} {α : Type} {ea : α → List Value} {e : TypeId} {v : Value} {q : List α}, Own ea k e (w.heap.size + 1) w2 v q → e ≠ 60 → Own ea k e (w.heap.size + 1) w3 v q := fun h he => (h.alloc _).ext hx3 (h.apart hO he)
              have hne : ∀ b, Value.ownBlock (Value.slice a8 0 c8) = some b → w.heap.size + 1 ≤ b := fun b hb => (hO.blk b hb).1
              have HB3 := Lib.hid (Ext.new (HB2.out.alloc (by omega) _) hx3 (fun i hi _ e => by have := hne _ e; omega) (by simp; omega))
              have e5 := hx3.keep (cell_alloc e4 _) (fun e => by have := hne _ e; omega)
              have y3 := hx3.keep (cell_alloc y2 _) (fun e => by have := hne _ e; omega)
              have hs3 : w.heap.size + 1 ≤ w3.heap.size := by have := hx3.size; simp at this; omega
              have HFo3 := Lib.hid (hdis HFo2.out (by decide))
              obtain ⟨g, cap, nn, rfl⟩ : ∃ g c nn, v' = .slice (some ⟨g, 0, none⟩) nn c := by
                rcases hown.eq_slice with ⟨_, h⟩ | ⟨g, c, h, _⟩
                · simp at h
                · exact ⟨g, c, _, h⟩
              replace hown : Own Pc.cells 2 60 (w.heap.size + 1) w3 (.slice (some ⟨g, 0, none⟩) nn cap) (([] : List Pc) ++ [⟨⟨#[]⟩, sl⟩]) := by first | exact hown | (rw [List.append_assoc]; exact hown) | simpa using hown
              have HE3 : Hid (∀ (j : Nat) (y : Pc), (([] : List Pc) ++ [(⟨⟨#[]⟩, sl⟩ : Pc)])[j]? = some y → ∃ al', (([] : Pcs) ++ [((⟨#[]⟩ : ByteArray), al)])[j]? = some (y.t, al') ∧ Own Atr.cells 2 51 (w.heap.size + 1) w3 y.s.val al') := Lib.hid (fun j y hj => by
                by_cases hjv : j < List.length ([] : List Pc)
                · rw [List.getElem?_append_left hjv] at hj
                  rw [List.getElem?_append_left (by rw [← hvl]; exact hjv)]
                  obtain ⟨al', h1, h2⟩ := HE.out j y hj
                  exact ⟨al', h1, hdis h2 (by decide)⟩
                · have hj2 : j = List.length ([] : List Pc) := by
                    have := (List.getElem?_eq_some_iff.1 hj).1
                    rw [List.length_append] at this
                    have e1 : List.length [(⟨⟨#[]⟩, sl⟩ : Pc)] = 1 := rfl
                    rw [e1] at this
                    omega
                  subst hj2
                  simp at hj
                  subst hj
                  rw [hvl]
                  exact ⟨al, by simp, hdis HA4.out (by decide)⟩)
              clear hx3 hdis hne hO e4 y2 hs2 HB2 HA4 HFo2 HE
              have HT0 : Hid (ByteArray.size (⟨#[]⟩ : ByteArray) ≤ 1000) := Lib.hid (by decide)
              have HLQ : Hid (List.length (α := Pc) [] = List.length (α := ByteArray × List Atr) []) := Lib.hid rfl
              obtain ⟨k1, k2, k3, k4, k5, k6, k7, k8⟩ := own_piece (Q := []) (x := ⟨⟨#[]⟩, sl⟩) hown
              obtain ⟨m, hmq⟩ : ∃ m, List.length (α := Pc) [] = m := ⟨_, rfl⟩
              have hmb : List.length (α := Pc) [] ≤ 1000 := by first | omega | (simp at hvl; simp; omega) | simp
              rw [hmq] at k1 k6 k7 k8 hmb
              first | subst k1 | (obtain rfl : m = m0 := by omega)
              simp only at k6
              have HMQ := Lib.hid hmq
              clear hmq
              have hbw3 : b < w3.heap.size := by have := HB3.out.size; omega
              have HST : Hid (stepPc x al ([]) = ([] : Pcs) ++ [((⟨#[]⟩ : ByteArray) ++ chB x.ch, al)]) := Lib.hid (by rw [stepPc_first HK.out, emptyB]; rfl)
              have hsum : ∀ W, (Op.stringOp .add ((⟨#[]⟩ : ByteArray)) (chB x.ch)).run Try.prog W = .ok (.string (((⟨#[]⟩ : ByteArray)) ++ chB x.ch)) W := fun W => run_string_add_sum W _ _ (by have e1 : (chB x.ch).size = 1 := rfl; have e2 := HT0.out; omega)
              have hcv : ∀ W, W.cell? ⟨w3.heap.size, 0, none⟩ = some (.int .u8 (x.ch % 256)) → (convert 67 9 (.slice (some ⟨w3.heap.size, 0, none⟩) 1 1)).run Try.prog W = .ok (.string (chB x.ch)) W := fun W h => conv_ch W _ _ h
              go_upto_region 13 with fail
              go_region
              have hcl := pcs_close (t' := ((⟨#[]⟩ : ByteArray)) ++ chB x.ch) (q1 := []) (q2 := ([] : Pcs)) hown HLQ.out HE3.out (.cells #[.int .u8 (x.ch % 256)] 5)
              rw [HMQ.out] at hcl
              have HCL := Lib.hid hcl
              have hx4 : Ext (· = g) w3 ((w3.setCell ⟨g, m * 2, none⟩ (.string (((⟨#[]⟩ : ByteArray)) ++ chB x.ch))).alloc (.cells #[.int .u8 (x.ch % 256)] 5)).drew := (((Ext.refl (· = g) w3).setCell (p := ⟨g, m * 2, none⟩) (.inr rfl) _).alloc _).drew
              have hz4 := hx4.size
              have hFo4 := Lib.hid (HFo3.out.ext hx4 (fun b hb e => HFo3.out.apart hown (by decide) b hb (by rw [e]; rfl)))
              clear hcl hown k6 k7 k8 hsum hcv y3 HE3
              go_wp2_with fail
              go_roundg (N - (n + 1))
              case measure => rw [HG.out]; omega
              case rel => exact ⟨n + 1, rfl, by omega, by simp; omega, Lib.hid (by rw [HS.out, HAL.out, HST.out]; exact HCL.out), hFo4, hx4.keep e5 (by omega), Ext.new HB3.out hx4 (fun i hi _ e => by omega) (by omega), by omega⟩
          · obtain ⟨vq, ⟨pt, ps⟩, rfl⟩ : ∃ vq pc, vs = vq ++ [pc] := by
              rcases snoc_cases vs with rfl | h
              · simp at hvl
              · exact h
            have hvq : vq.length = Q.length := by simpa using hvl
            obtain ⟨bl', hb1, hb2⟩ := HE.out vq.length ⟨pt, ps⟩ (by simp)
            rw [hvq] at hb1
            simp at hb1
            obtain ⟨rfl, rfl⟩ := hb1
            have HT1 : Hid (ByteArray.size t0 ≤ 1000) := Lib.hid (by have := HSZ.out (t0, bl) (by simp); simp only at this; omega)
            obtain ⟨g0, c0, n0, rfl⟩ : ∃ g c nn, u8 = .slice (some ⟨g, 0, none⟩) nn c := by
              rcases hO.eq_slice with ⟨_, h⟩ | ⟨g, c, h, _⟩
              · simp at h
              · exact ⟨g, c, _, h⟩
            obtain ⟨p1, p2, p3, p4, p5, p6, p7, p8⟩ := own_piece hO
            obtain ⟨m0, hm0⟩ : ∃ m, vq.length = m := ⟨_, rfl⟩
            have hmb0 : m0 ≤ 1000 := by simp at hple; omega
            rw [hm0] at p1 p6 p7 p8
            subst p1
            simp only at p6 p7
            have HM0 := Lib.hid hm0
            clear hm0
            have hbs := hb2.slice (fun _ => rfl)
            have hAs := HA4.out.slice (fun _ => rfl)
            simp only [Sl.val] at hbs hAs
            by_cases hbe : bl = al
            · subst hbe
              go_wp2_with fail
              refine (equal_any _ _ bl _ w2 hbs hAs).mono ?_
              rintro e w3 ⟨rfl, hb5⟩
              rw [decide_eq_true rfl]
              have hx5 : Ext (fun _ => False) w2 w3 := Ext.of_below hb5
              have hown := hO.ext hx5 (fun _ _ f => f)
              have HE3 : Hid (∀ (j : Nat) (y : Pc), (vq ++ [(⟨t0, ps⟩ : Pc)])[j]? = some y → ∃ al', (Q ++ [(t0, bl)])[j]? = some (y.t, al') ∧ Own Atr.cells 2 51 (w.heap.size + 1) w3 y.s.val al') := Lib.hid (fun j y hj => by
                obtain ⟨al', h1, h2⟩ := HE.out j y hj
                exact ⟨al', h1, h2.ext hx5 (fun _ _ f => f)⟩)
              have HFo3 := Lib.hid (HFo2.out.ext hx5 (fun _ _ f => f))
              have e5 := keepB hb5 e4
              have y3 := keepB hb5 y2
              have HB3 := Lib.hid (HB2.out.trans (hb5.mono HB2.out.size))
              have hs3 : w.heap.size + 1 ≤ w3.heap.size := Nat.le_trans hs2 hb5.size
              have HT0 := HT1
              have HLQ := Lib.hid hvq
              clear hx5 hb5 hO HE e4 y2 hs2 HB2 hbs hAs hb2 HA4 p6 p7 p8 p4
              obtain ⟨k1, k2, k3, k4, k5, k6, k7, k8⟩ := own_piece (Q := vq) (x := ⟨t0, ps⟩) hown
              obtain ⟨m, hmq⟩ : ∃ m, List.length (α := Pc) vq = m := ⟨_, rfl⟩
              have hmb : List.length (α := Pc) vq ≤ 1000 := by first | omega | (simp at hvl; simp; omega) | simp
              rw [hmq] at k1 k6 k7 k8 hmb
              first | subst k1 | (obtain rfl : m = m0 := by omega)
              simp only at k6
              have HMQ := Lib.hid hmq
              clear hmq
              have hbw3 : b < w3.heap.size := by have := HB3.out.size; omega
              have HST : Hid (stepPc x bl (Q ++ [(t0, bl)]) = Q ++ [(t0 ++ chB x.ch, bl)]) := Lib.hid (stepPc_more HK.out)
              have hsum : ∀ W, (Op.stringOp .add (t0) (chB x.ch)).run Try.prog W = .ok (.string ((t0) ++ chB x.ch)) W := fun W => run_string_add_sum W _ _ (by have e1 : (chB x.ch).size = 1 := rfl; have e2 := HT0.out; omega)
              have hcv : ∀ W, W.cell? ⟨w3.heap.size, 0, none⟩ = some (.int .u8 (x.ch % 256)) → (convert 67 9 (.slice (some ⟨w3.heap.size, 0, none⟩) 1 1)).run Try.prog W = .ok (.string (chB x.ch)) W := fun W h => conv_ch W _ _ h
              go_upto_region 13 with fail
              go_region
              have hcl := pcs_close (t' := (t0) ++ chB x.ch) (q1 := vq) (q2 := Q) hown HLQ.out HE3.out (.cells #[.int .u8 (x.ch % 256)] 5)
              rw [HMQ.out] at hcl
              have HCL := Lib.hid hcl
              have hx4 : Ext (· = g0) w3 ((w3.setCell ⟨g0, m * 2, none⟩ (.string ((t0) ++ chB x.ch))).alloc (.cells #[.int .u8 (x.ch % 256)] 5)).drew := (((Ext.refl (· = g0) w3).setCell (p := ⟨g0, m * 2, none⟩) (.inr rfl) _).alloc _).drew
              have hz4 := hx4.size
              have hFo4 := Lib.hid (HFo3.out.ext hx4 (fun b hb e => HFo3.out.apart hown (by decide) b hb (by rw [e]; rfl)))
              clear hcl hown k6 k7 k8 hsum hcv y3 HE3
              go_wp2_with fail
              go_roundg (N - (n + 1))
              case measure => rw [HG.out]; omega
              case rel => exact ⟨n + 1, rfl, by omega, by simp; omega, Lib.hid (by rw [HS.out, HAL.out, HST.out]; exact HCL.out), hFo4, hx4.keep e5 (by omega), Ext.new HB3.out hx4 (fun i hi _ e => by omega) (by omega), by omega⟩
            · go_wp2_with fail
              refine (equal_any _ _ bl _ w2 hbs hAs).mono ?_
              rintro e w5 ⟨rfl, hb5⟩
              rw [decide_eq_false hbe]
              have hx5 : Ext (fun _ => False) w2 w5 := Ext.of_below hb5
              replace hO := hO.ext hx5 (fun _ _ f => f)
              have HE' : Hid (∀ (j : Nat) (y : Pc), (vq ++ [(⟨t0, ps⟩ : Pc)])[j]? = some y → ∃ al', (Q ++ [(t0, bl)])[j]? = some (y.t, al') ∧ Own Atr.cells 2 51 (w.heap.size + 1) w5 y.s.val al') := Lib.hid (fun j y hj => by
                obtain ⟨al', h1, h2⟩ := HE.out j y hj
                exact ⟨al', h1, h2.ext hx5 (fun _ _ f => f)⟩)
              replace HE := HE'
              replace HA4 := Lib.hid (HA4.out.ext hx5 (fun _ _ f => f))
              replace HFo2 := Lib.hid (HFo2.out.ext hx5 (fun _ _ f => f))
              replace e4 := keepB hb5 e4
              replace y2 := keepB hb5 y2
              replace HB2 := Lib.hid (HB2.out.trans (hb5.mono HB2.out.size))
              replace hs2 : w.heap.size + 1 ≤ w5.heap.size := Nat.le_trans hs2 hb5.size
              have hvs8 : (vq ++ [(⟨t0, ps⟩ : Pc)]).length ≤ 1000 := by rw [hvl]; omega
              clear hx5 hb5 HE' hbs hAs hb2 p6 p7 p8 p4
              go_upto_region 13 with (at_builtin; refine wpList_append_struct rfl _ _ _ rfl i0 (.agg #[.string ⟨#[]⟩, .slice none 0 0]) 40 Try.underlying56 hi hz0 hz1' hz2 rfl (by omega) Pc.len Pc.one rfl (hO.alloc _) ⟨⟨#[]⟩, sl⟩ w5.heap.size 1 rfl ?_ (by unfold maxLen; omega) (by omega) (by simp; omega) ?_)
              · intro j u hj
                match j, hj with
                | 0, hj => simp [Pc.cells] at hj; subst hj; go_simp
                | 1, hj => simp [Pc.cells] at hj; subst hj; go_simp
                | n + 2, hj => simp [Pc.cells] at hj
              · intro v' w3 hown hx3
                have hdis : ∀ {k : Nat} {α : Type} {ea : α → List Value} {e : TypeId} {v : Value} {q : List α}, Own ea k e (w.heap.size + 1) w5 v q → e ≠ 60 → Own ea k e (w.heap.size + 1) w3 v q := fun h he => (h.alloc _).ext hx3 (h.apart hO he)
                have hne : ∀ b, Value.ownBlock (Value.slice (some ⟨g0, 0, none⟩) (m0 + 1) c0) = some b → w.heap.size + 1 ≤ b := fun b hb => (hO.blk b hb).1
                have HB3 := Lib.hid (Ext.new (HB2.out.alloc (by omega) _) hx3 (fun i hi _ e => by have := hne _ e; omega) (by simp; omega))
                have e5 := hx3.keep (cell_alloc e4 _) (fun e => by have := hne _ e; omega)
                have y3 := hx3.keep (cell_alloc y2 _) (fun e => by have := hne _ e; omega)
                have hs3 : w.heap.size + 1 ≤ w3.heap.size := by have := hx3.size; simp at this; omega
                have HFo3 := Lib.hid (hdis HFo2.out (by decide))
                obtain ⟨g, cap, nn, rfl⟩ : ∃ g c nn, v' = .slice (some ⟨g, 0, none⟩) nn c := by
                  rcases hown.eq_slice with ⟨_, h⟩ | ⟨g, c, h, _⟩
                  · simp at h
                  · exact ⟨g, c, _, h⟩
                replace hown : Own Pc.cells 2 60 (w.heap.size + 1) w3 (.slice (some ⟨g, 0, none⟩) nn cap) ((vq ++ [(⟨t0, ps⟩ : Pc)]) ++ [⟨⟨#[]⟩, sl⟩]) := by first | exact hown | (rw [List.append_assoc]; exact hown) | simpa using hown
                have HE3 : Hid (∀ (j : Nat) (y : Pc), ((vq ++ [(⟨t0, ps⟩ : Pc)]) ++ [(⟨⟨#[]⟩, sl⟩ : Pc)])[j]? = some y → ∃ al', ((Q ++ [(t0, bl)]) ++ [((⟨#[]⟩ : ByteArray), al)])[j]? = some (y.t, al') ∧ Own Atr.cells 2 51 (w.heap.size + 1) w3 y.s.val al') := Lib.hid (fun j y hj => by
                  by_cases hjv : j < List.length (vq ++ [(⟨t0, ps⟩ : Pc)])
                  · rw [List.getElem?_append_left hjv] at hj
                    rw [List.getElem?_append_left (by rw [← hvl]; exact hjv)]
                    obtain ⟨al', h1, h2⟩ := HE.out j y hj
                    exact ⟨al', h1, hdis h2 (by decide)⟩
                  · have hj2 : j = List.length (vq ++ [(⟨t0, ps⟩ : Pc)]) := by
                      have := (List.getElem?_eq_some_iff.1 hj).1
                      rw [List.length_append] at this
                      have e1 : List.length [(⟨⟨#[]⟩, sl⟩ : Pc)] = 1 := rfl
                      rw [e1] at this
                      omega
                    subst hj2
                    simp at hj
                    subst hj
                    rw [hvl]
                    exact ⟨al, by simp, hdis HA4.out (by decide)⟩)
                clear hx3 hdis hne hO e4 y2 hs2 HB2 HA4 HFo2 HE
                have HT0 : Hid (ByteArray.size (⟨#[]⟩ : ByteArray) ≤ 1000) := Lib.hid (by decide)
                have HLQ := Lib.hid hvl
                obtain ⟨k1, k2, k3, k4, k5, k6, k7, k8⟩ := own_piece (Q := (vq ++ [(⟨t0, ps⟩ : Pc)])) (x := ⟨⟨#[]⟩, sl⟩) hown
                obtain ⟨m, hmq⟩ : ∃ m, List.length (α := Pc) (vq ++ [(⟨t0, ps⟩ : Pc)]) = m := ⟨_, rfl⟩
                have hmb : List.length (α := Pc) (vq ++ [(⟨t0, ps⟩ : Pc)]) ≤ 1000 := by first | omega | (simp at hvl; simp; omega) | simp
                rw [hmq] at k1 k6 k7 k8 hmb
                first | subst k1 | (obtain rfl : m = m0 := by omega)
                simp only at k6
                have HMQ := Lib.hid hmq
                clear hmq
                have hbw3 : b < w3.heap.size := by have := HB3.out.size; omega
                have HST : Hid (stepPc x al (Q ++ [(t0, bl)]) = (Q ++ [(t0, bl)]) ++ [((⟨#[]⟩ : ByteArray) ++ chB x.ch, al)]) := Lib.hid (by rw [stepPc_new HK.out hbe, emptyB])
                have hsum : ∀ W, (Op.stringOp .add ((⟨#[]⟩ : ByteArray)) (chB x.ch)).run Try.prog W = .ok (.string (((⟨#[]⟩ : ByteArray)) ++ chB x.ch)) W := fun W => run_string_add_sum W _ _ (by have e1 : (chB x.ch).size = 1 := rfl; have e2 := HT0.out; omega)
                have hcv : ∀ W, W.cell? ⟨w3.heap.size, 0, none⟩ = some (.int .u8 (x.ch % 256)) → (convert 67 9 (.slice (some ⟨w3.heap.size, 0, none⟩) 1 1)).run Try.prog W = .ok (.string (chB x.ch)) W := fun W h => conv_ch W _ _ h
                go_upto_region 13 with fail
                go_region
                have hcl := pcs_close (t' := ((⟨#[]⟩ : ByteArray)) ++ chB x.ch) (q1 := (vq ++ [(⟨t0, ps⟩ : Pc)])) (q2 := (Q ++ [(t0, bl)])) hown HLQ.out HE3.out (.cells #[.int .u8 (x.ch % 256)] 5)
                rw [HMQ.out] at hcl
                have HCL := Lib.hid hcl
                have hx4 : Ext (· = g) w3 ((w3.setCell ⟨g, m * 2, none⟩ (.string (((⟨#[]⟩ : ByteArray)) ++ chB x.ch))).alloc (.cells #[.int .u8 (x.ch % 256)] 5)).drew := (((Ext.refl (· = g) w3).setCell (p := ⟨g, m * 2, none⟩) (.inr rfl) _).alloc _).drew
                have hz4 := hx4.size
                have hFo4 := Lib.hid (HFo3.out.ext hx4 (fun b hb e => HFo3.out.apart hown (by decide) b hb (by rw [e]; rfl)))
                clear hcl hown k6 k7 k8 hsum hcv y3 HE3
                go_wp2_with fail
                go_roundg (N - (n + 1))
                case measure => rw [HG.out]; omega
                case rel => exact ⟨n + 1, rfl, by omega, by simp; omega, Lib.hid (by rw [HS.out, HAL.out, HST.out]; exact HCL.out), hFo4, hx4.keep e5 (by omega), Ext.new HB3.out hx4 (fun i hi _ e => by omega) (by omega), by omega⟩
      · obtain rfl : n = N := by omega
        clear hg hB
        go_wp2_with fail
        go_ret
        refine ⟨_, rfl, Lib.hid ?_, HB.out⟩
        rw [HR.out]
        obtain ⟨vs, hO, hvl, hE⟩ := hP.out
        refine ⟨vs, hO.mono (by omega), hvl, fun j x hj => ?_⟩
        obtain ⟨al, h1, h2⟩ := hE j x hj
        exact ⟨al, h1, h2.mono (by omega)⟩

end Go.Proofs.Ytlfmkoapddihcaa
