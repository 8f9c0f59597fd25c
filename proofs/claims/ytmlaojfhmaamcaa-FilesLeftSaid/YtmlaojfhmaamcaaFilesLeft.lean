/- The law FilesLeft: what a loss of power leaves is as the document says. -/
import Derived.Test.YtmlaojfhmaamcaaLiveC06
import Derived.Test.YtmlaojfhmaamcaaOpenC06
import Derived.SizedLaws
namespace Go.Proofs.Ytmlaojfhmaamcaa
open Go.ChangeShapes Go.WideShapes Go.ChangeAt Go.RowKit Go.Deep
set_option linter.unusedSimpArgs false
set_option linter.unusedVariables false

set_option maxRecDepth 100000 in
set_option maxHeartbeats 10000000 in
theorem filesLeft_walk (v0 : Value) (l : List OpA) (x : CutC) (w : World) (hl : SliceIs OpA.cells 8 w v0 l) (hp : ∀ y ∈ l, y.In w) (hx : x.In w) :
    Calls Try.prog 6 #[v0, .agg #[.int .i64 x.at_, .int .i64 x.names, .slice x.keep.a x.keep.n x.keep.cap, .int .i64 x.torn]] w fun e w' => e = .returned (.bool true) ∧ Below w.heap.size w w' := by
  obtain ⟨a, cap, rfl, hcap, hmax, _⟩ := id hl
  unfold maxLen at hmax
  obtain ⟨ob, hob⟩ : ∃ ob : Obj, .cells #[.int .i64 x.at_, .int .i64 x.names, .slice x.keep.a x.keep.n x.keep.cap, .int .i64 x.torn] 26 = ob := ⟨_, rfl⟩
  have hb1 : Below w.heap.size w (w.alloc ob) := (Below.refl _ _).alloc (Nat.le_refl _) _
  have q0 : (w.alloc ob).heap[w.heap.size]? = some (.cells #[.int .i64 x.at_, .int .i64 x.names, .slice x.keep.a x.keep.n x.keep.cap, .int .i64 x.torn] 26 (0, 0)) := by rw [← hob]; exact (MapKept.heap_alloc w _).1
  obtain ⟨w1, hw1⟩ : ∃ w1, w.alloc ob = w1 := ⟨_, rfl⟩
  rw [hw1] at hb1 q0
  have hs1 : w1.heap.size = w.heap.size + 1 := by rw [← hw1]; simp
  rw [← hob] at hw1
  clear hob
  have HL := Lib.hid hl
  have HP := Lib.hid hp
  have HX := Lib.hid hx
  have HB1 := Lib.hid hb1
  have HQ0 := Lib.hid q0
  have HS1 := Lib.hid hs1
  clear hl hp hx hb1 q0 hs1
  go_enter Try.func6, Try.ntmps6
  go_wp2_with fail
  refine (new_any (base := w1.heap.size) w1 (Nat.le_refl _)).mono ?_
  rintro e w2 ⟨D0, rfl, hD2, b2, _⟩
  clear hw1
  have hR3 : RefIs w1.heap.size (w2.alloc (.cells #[.slice none 0 0, .int .i64 0, .int .i64 0] 35)) w2.heap.size (.slice none 0 0) ⟨[], 0, 0⟩ := ⟨(MapKept.heap_alloc w2 _).1, b2.size, [], Own.nil, rfl, fun i q p hq => by simp at hq⟩
  have hL3 : Live w1.heap.size w1 (w2.alloc (.cells #[.slice none 0 0, .int .i64 0, .int .i64 0] 35)) 25 D0 disk0 w2.heap.size (.slice none 0 0) ⟨[], 0, 0⟩ :=
    ⟨hD2.alloc _, hR3, b2.alloc b2.size _, small0.mono (by omega), ⟨by decide, by decide, by decide⟩, fun f => by simp [heldR], inj0, ⟨_, _, _, sim0⟩⟩
  have HL3 := Lib.hid hL3
  clear hR3 hL3 hD2 b2
  go_wp2_with fail
  refine (alive_any _).mono ?_
  rintro e w4 ⟨rfl, b4⟩
  have hL4 := HL3.out.below HL3.out.frame.size b4
  have HL4 := Lib.hid hL4
  clear hL4 b4 HL3
  generalize w2.heap.size = rb at *
  go_upto_block 0 with fail
  go_cut [7] (fun iv wx => ∃ D A v R, Hid (Live w1.heap.size w1 wx 85 D A rb v R ∧ D.pb = D0.pb))
  case first =>
    go_wp2_with fail
    go_loopg [7] 60 (fun g iv wr => ∃ k : Nat, g = 60 - k ∧ k ≤ 60 ∧ k ≤ l.length ∧ iv = .int .i64 k ∧ Hid (∃ D A v R, Live w1.heap.size w1 wr (25 + k) D A rb v R ∧ D.pb = D0.pb))
    case atStart => exact ⟨0, by omega, by omega, by omega, rfl, Lib.hid ⟨_, _, _, _, HL4.out, rfl⟩⟩
    case round =>
      obtain ⟨k, hg, hk, hkl0, rfl, hU⟩ := hrel
      have HG := Lib.hid hg
      clear hg
      by_cases hkl : k < l.length
      · by_cases hk60 : k < 60
        · obtain ⟨y, hy⟩ : ∃ y, l[k]? = some y := ⟨_, List.getElem?_eq_getElem hkl⟩
          obtain ⟨D, A, v, R, hR, hpb⟩ := hU.out
          have hfr : Below w.heap.size w wr := HB1.out.trans (hR.frame.mono HB1.out.size)
          obtain ⟨_, _, e1, _, _, hh⟩ := HL.out.below hfr
          cases e1
          obtain ⟨b, o, e2, hcc⟩ := hh (by intro e; rw [e] at hy; simp at hy)
          subst e2
          have q0 := hcc k y hy 0 _ rfl
          have q1 := hcc k y hy 1 _ rfl
          have q2 := hcc k y hy 2 _ rfl
          have q3 := hcc k y hy 3 _ rfl
          have q4 := hcc k y hy 4 _ rfl
          have q5 := hcc k y hy 5 _ rfl
          have q6 := hcc k y hy 6 _ rfl
          have q7 := hcc k y hy 7 _ rfl
          simp only [Nat.add_zero] at q0
          have hyin := HP.out y (List.mem_of_getElem? hy)
          have hbn : y.b.n = y.bs.length := by
            obtain ⟨_, _, e, _⟩ := hyin.1
            simp only [Sl.val, Value.slice.injEq] at e
            exact e.2.1
          have hkk : (k : Int) < (l.length : Int) := by omega
          have hkk2 : (k : Int) < 60 := by omega
          have HRR := Lib.hid hR
          have HPB := Lib.hid hpb
          have HYI := Lib.hid hyin
          have HBN := Lib.hid hbn
          have HFR := Lib.hid hfr
          clear hh hcc hfr hR hyin hbn hU hy hpb
          have HM : Hid (∃ D A v R, Live w1.heap.size w1 wr (25 + (k + 1)) D A rb v R ∧ D.pb = D0.pb) := Lib.hid ⟨_, _, _, _, HRR.out.more (by omega), HPB.out⟩
          by_cases hle : y.b.n ≤ 1000
          · have hle2 : (y.b.n : Int) ≤ 1000 := by omega
            by_cases h7 : y.kind = 7
            · have h71 : (y.kind == 7) = true := by simpa using h7
              have h72 : (y.kind != 7) = false := by simpa using h7
              have H7 := Lib.hid h7
              clear hle h7
              go_wp2_with fail
              go_roundg (60 - (k + 1))
              case measure => rw [HG.out]; omega
              case rel => exact ⟨k + 1, rfl, by omega, by omega, by simp, HM⟩
            · have h71 : (y.kind == 7) = false := by simpa using h7
              have h72 : (y.kind != 7) = true := by simpa using h7
              have hact := act_any HRR.out.disk HRR.out.ref HRR.out.frame.size y HYI.out HFR.out HB1.out.size (by rw [← HBN.out]; exact hle) HRR.out.sA HRR.out.sR (by omega) HRR.out.held
              rw [HPB.out] at hact
              have HACT := Lib.hid hact
              clear hact hle h7
              go_wp2_with fail
              refine HACT.out.mono ?_
              rintro e w5 ⟨c, A', D', v', rfl, hA, hB⟩
              have HN : Hid (∃ D A v R, Live w1.heap.size w1 w5 (25 + (k + 1)) D A rb v R ∧ D.pb = D0.pb) := Lib.hid ⟨_, _, _, _, (HRR.out.act HRR.out.frame.size hA hB).2, hB.pb.trans HPB.out⟩
              clear hA hB
              go_wp2_with fail
              go_roundg (60 - (k + 1))
              case measure => rw [HG.out]; omega
              case rel => exact ⟨k + 1, rfl, by omega, by omega, by simp, HN⟩
          · have hle2 : ¬ (y.b.n : Int) ≤ 1000 := by omega
            clear hle
            go_wp2_with fail
            go_roundg (60 - (k + 1))
            case measure => rw [HG.out]; omega
            case rel => exact ⟨k + 1, rfl, by omega, by omega, by simp, HM⟩
        · have hkk : (k : Int) < (l.length : Int) := by omega
          have hkk2 : ¬ (k : Int) < 60 := by omega
          have HN : Hid (∃ D A v R, Live w1.heap.size w1 wr 85 D A rb v R ∧ D.pb = D0.pb) := Lib.hid (by obtain ⟨D, A, v, R, h, hp⟩ := hU.out; exact ⟨D, A, v, R, h.more (by omega), hp⟩)
          clear hU
          go_wp2_with fail
          go_meet
          case rel => obtain ⟨D, A, v, R, h⟩ := HN.out; exact ⟨D, A, v, R, Lib.hid h⟩
      · have hkk : ¬ (k : Int) < (l.length : Int) := by omega
        have HN : Hid (∃ D A v R, Live w1.heap.size w1 wr 85 D A rb v R ∧ D.pb = D0.pb) := Lib.hid (by obtain ⟨D, A, v, R, h, hp⟩ := hU.out; exact ⟨D, A, v, R, h.more (by omega), hp⟩)
        clear hU
        go_wp2_with fail
        go_meet
        case rel => obtain ⟨D, A, v, R, h⟩ := HN.out; exact ⟨D, A, v, R, Lib.hid h⟩
  case rest =>
    obtain ⟨D, A, v, R, HRR⟩ := hcut
    have hfr := HRR.out.1.frame
    have hsz := hfr.size
    have qb := (hfr.block w.heap.size (by have := HS1.out; omega)).trans HQ0.out
    have z0 := Joins.cell_of_block qb 0
    have z1 := Joins.cell_of_block qb 1
    have z2 := Joins.cell_of_block qb 2
    have z3 := Joins.cell_of_block qb 3
    simp only [List.getElem?_toArray, List.getElem?_cons_succ, List.getElem?_cons_zero] at z0 z1 z2 z3
    have hw8 : Below w.heap.size w wc := HB1.out.trans (hfr.mono HB1.out.size)
    have hct := HRR.out.1.dcut hsz (by omega) (HX.out.sl.below hw8) HX.out.a1 HX.out.a2 HX.out.n1 HX.out.n2 HX.out.t1 HX.out.t2
    rw [HRR.out.2] at hct
    have HCT := Lib.hid hct
    have HW8 := Lib.hid hw8
    clear hfr hsz qb hct hw8
    go_wp2_with fail
    refine HCT.out.mono ?_
    rintro e w9 ⟨D', A', rfl, hD9, hfb, hcut, hb9⟩
    have HB9 := Lib.hid hb9
    have HD9 := Lib.hid hD9
    have HFB := Lib.hid hfb
    have HCUT := Lib.hid hcut
    clear hb9 hD9 hfb hcut
    have y0 := keepB HB9.out z0
    have y1 := keepB HB9.out z1
    have y2 := keepB HB9.out z2
    have y3 := keepB HB9.out z3
    clear z0 z1 z2 z3
    have hsz := HRR.out.1.frame.size
    have hw9 : Below w.heap.size w w9 := HW8.out.trans (HB9.out.mono HW8.out.size)
    have hL9 := HRR.out.1.below hsz HB9.out
    have hrc := hL9.rcut (by omega) (HX.out.sl.below hw9) HX.out.a1 HX.out.a2 HX.out.n1 HX.out.n2 HX.out.t1 HX.out.t2
    have HL9 := Lib.hid hL9
    have HRC := Lib.hid hrc
    have HW9 := Lib.hid hw9
    clear hsz hw9 hL9 hrc
    go_wp2_with fail
    refine HRC.out.mono ?_
    rintro e w10 ⟨rb', v', rfl, hr10, hb10⟩
    have hal := (HRR.out.1.cut HRR.out.1.frame.size HD9.out HFB.out HCUT.out HB9.out hr10 hb10).like (by omega)
    have HB10 := Lib.hid hb10
    have HAL := Lib.hid hal
    clear hb10 hr10 hal y0 y1 y2 y3
    go_wp2_with fail
    refine HAL.out.mono ?_
    rintro e w11 ⟨rfl, hb11⟩
    have hb := HB10.out.trans (hb11.mono HB10.out.size)
    have hst := (HL9.out.below HL9.out.frame.size hb).like (by omega)
    rw [HRR.out.2] at hst
    have HST := Lib.hid hst
    have HW11 := Lib.hid (HW9.out.trans (hb.mono HW9.out.size))
    clear hb hst hb11
    go_wp2_with fail
    refine HST.out.mono ?_
    rintro e w12 ⟨rfl, hb12⟩
    have HEND := Lib.hid (HW11.out.trans (hb12.mono HW11.out.size))
    clear hb12
    go_wp2_with fail
    go_ret
    exact ⟨rfl, HEND.out⟩

end Go.Proofs.Ytmlaojfhmaamcaa
