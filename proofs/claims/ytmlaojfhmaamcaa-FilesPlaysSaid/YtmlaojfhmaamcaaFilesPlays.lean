/- The law FilesPlays: any script is answered as the document says. -/
import Derived.Test.YtmlaojfhmaamcaaLiveC06
import Derived.Test.YtmlaojfhmaamcaaOpenB06
import Derived.SizedLaws
namespace Go.Proofs.Ytmlaojfhmaamcaa
open Go.ChangeShapes Go.WideShapes Go.ChangeAt Go.RowKit Go.Deep
set_option linter.unusedSimpArgs false
set_option linter.unusedVariables false

set_option maxRecDepth 100000 in
set_option maxHeartbeats 10000000 in
theorem filesPlays_walk (v0 : Value) (l : List OpA) (w : World) (hl : SliceIs OpA.cells 8 w v0 l) (hp : ∀ y ∈ l, y.In w ∧ y.Ranged) :
    Calls Try.prog 5 #[v0] w fun e w' => e = .returned (.bool true) ∧ Below w.heap.size w w' := by
  obtain ⟨a, cap, rfl, hcap, hmax, _⟩ := id hl
  unfold maxLen at hmax
  have HL := Lib.hid hl
  have HP := Lib.hid hp
  clear hl hp
  go_enter Try.func5, Try.ntmps5
  go_wp2_with fail
  refine (new_any (base := w.heap.size) w (Nat.le_refl _)).mono ?_
  rintro e w2 ⟨D0, rfl, hD2, b2, _⟩
  have hR3 : RefIs w.heap.size (w2.alloc (.cells #[.slice none 0 0, .int .i64 0, .int .i64 0] 35)) w2.heap.size (.slice none 0 0) ⟨[], 0, 0⟩ := ⟨(MapKept.heap_alloc w2 _).1, b2.size, [], Own.nil, rfl, fun i q p hq => by simp at hq⟩
  have hL3 : Live w.heap.size w (w2.alloc (.cells #[.slice none 0 0, .int .i64 0, .int .i64 0] 35)) 25 D0 disk0 w2.heap.size (.slice none 0 0) ⟨[], 0, 0⟩ :=
    ⟨hD2.alloc _, hR3, b2.alloc b2.size _, small0.mono (by omega), ⟨by decide, by decide, by decide⟩, fun f => by simp [heldR], inj0, ⟨_, _, _, sim0⟩⟩
  have HL3 := Lib.hid hL3
  clear hR3 hL3 hD2 b2
  go_wp2_with fail
  refine (alive_any _).mono ?_
  rintro e w4 ⟨rfl, b4⟩
  have hL4 := HL3.out.below HL3.out.frame.size b4
  have HL4 := Lib.hid hL4
  clear hL4 b4 HL3
  generalize w2.heap.size = rb at *
  go_upto_block 0 with fail
  go_cut [] (fun wx => Hid (Below w.heap.size w wx))
  case first =>
    go_wp2_with fail
    go_loopg [3, 4, 5] 60 (fun g dv mv iv wr => ∃ (k : Nat) (D : DSh) (A : DiskA) (rb : Nat) (v : Value) (R : RefA), g = 60 - k ∧ k ≤ 60 ∧ k ≤ l.length ∧ dv = .pointer (some ⟨D.pb, 0, none⟩) ∧ mv = .pointer (some ⟨rb, 0, none⟩) ∧ iv = .int .i64 k ∧ Hid (Live w.heap.size w wr (25 + k) D A rb v R))
    case atStart => exact ⟨0, D0, _, rb, _, _, by omega, by omega, by omega, rfl, rfl, rfl, HL4⟩
    case round =>
      obtain ⟨k, D, A, rb, v, R, hg, hk, hkl0, rfl, rfl, rfl, HRR⟩ := hrel
      have HG := Lib.hid hg
      clear hg HL4
      by_cases hkl : k < l.length
      · by_cases hk60 : k < 60
        · obtain ⟨y, hy⟩ : ∃ y, l[k]? = some y := ⟨_, List.getElem?_eq_getElem hkl⟩
          have hfr := HRR.out.frame
          obtain ⟨_, _, e1, _, _, hh⟩ := HL.out.below hfr
          cases e1
          obtain ⟨b, o, e2, hcc⟩ := hh (by intro e; rw [e] at hy; simp at hy)
          subst e2
          have q0 := hcc k y hy 0 _ rfl
          have q1 := hcc k y hy 1 _ rfl
          have q2 := hcc k y hy 2 _ rfl
          have q3 := hcc k y hy 3 _ rfl
          have q4 := hcc k y hy 4 _ rfl
          have q5 := hcc k y hy 5 _ rfl
          have q6 := hcc k y hy 6 _ rfl
          have q7 := hcc k y hy 7 _ rfl
          simp only [Nat.add_zero] at q0
          obtain ⟨hyin, hyr⟩ := HP.out y (List.mem_of_getElem? hy)
          have hbn : y.b.n = y.bs.length := by
            obtain ⟨_, _, e, _⟩ := hyin.1
            simp only [Sl.val, Value.slice.injEq] at e
            exact e.2.1
          have hkk : (k : Int) < (l.length : Int) := by omega
          have hkk2 : (k : Int) < 60 := by omega
          have HYI := Lib.hid hyin
          have HYR := Lib.hid hyr
          have HBN := Lib.hid hbn
          have HFR := Lib.hid hfr
          clear hh hcc hfr hyin hyr hbn hy
          obtain ⟨ob, hob⟩ : ∃ ob : Obj, .cells #[.int .i64 y.kind, .string y.name, .string y.s, .slice y.b.a y.b.n y.b.cap, .int .i64 y.at_, .int .i64 y.names, .slice y.keep.a y.keep.n y.keep.cap, .int .i64 y.torn] 28 = ob := ⟨_, rfl⟩
          have hb5 : Below wr.heap.size wr (wr.alloc ob) := (Below.refl _ _).alloc (Nat.le_refl _) _
          have qb : (wr.alloc ob).heap[wr.heap.size]? = some (.cells #[.int .i64 y.kind, .string y.name, .string y.s, .slice y.b.a y.b.n y.b.cap, .int .i64 y.at_, .int .i64 y.names, .slice y.keep.a y.keep.n y.keep.cap, .int .i64 y.torn] 28 (0, 0)) := by rw [← hob]; exact (MapKept.heap_alloc wr _).1
          have hL5 := HRR.out.below HRR.out.frame.size hb5
          have z0 := Joins.cell_of_block qb 0
          have z1 := Joins.cell_of_block qb 1
          have z2 := Joins.cell_of_block qb 2
          have z3 := Joins.cell_of_block qb 3
          have z4 := Joins.cell_of_block qb 4
          have z5 := Joins.cell_of_block qb 5
          have z6 := Joins.cell_of_block qb 6
          have z7 := Joins.cell_of_block qb 7
          simp only [List.getElem?_toArray, List.getElem?_cons_succ, List.getElem?_cons_zero] at z0 z1 z2 z3 z4 z5 z6 z7
          have HL5 := Lib.hid hL5
          have hsz5 : w.heap.size ≤ (wr.alloc ob).heap.size := hL5.frame.size
          rw [← hob] at z0 z1 z2 z3 z4 z5 z6 z7 HL5 hsz5
          clear hob qb hL5 hb5
          go_upto_region 9 with fail
          generalize wr.alloc (.cells #[.int .i64 y.kind, .string y.name, .string y.s, .slice y.b.a y.b.n y.b.cap, .int .i64 y.at_, .int .i64 y.names, .slice y.keep.a y.keep.n y.keep.cap, .int .i64 y.torn] 28) = w5 at *
          by_cases hle : y.b.n ≤ 1000
          · have hle2 : ¬ (1000 : Int) < (y.b.n : Int) := by omega
            have hll : y.bs.length ≤ 1000 := by rw [← HBN.out]; exact hle
            clear hle
            by_cases h7 : y.kind = 7
            · have h71 : (y.kind == 7) = true := by simpa using h7
              have h72 : (y.kind != 7) = false := by simpa using h7
              have H7 := Lib.hid h7
              have hct := HL5.out.dcut hsz5 (by omega) (show SliceIs boolc 1 _ (.slice y.keep.a y.keep.n y.keep.cap) y.ks from HYI.out.2.1.below HL5.out.frame) HYR.out.a1 HYR.out.a2 HYR.out.n1 HYR.out.n2 HYR.out.t1 HYR.out.t2
              have HCT := Lib.hid hct
              clear h7 hct
              go_wp2_with fail
              refine HCT.out.mono ?_
              rintro e w9 ⟨D', A', rfl, hD9, hfb, hcut, hb9⟩
              have hL9 := HL5.out.below hsz5 hb9
              have hrc := hL9.rcut (by omega) (show SliceIs boolc 1 _ (.slice y.keep.a y.keep.n y.keep.cap) y.ks from HYI.out.2.1.below hL9.frame) HYR.out.a1 HYR.out.a2 HYR.out.n1 HYR.out.n2 HYR.out.t1 HYR.out.t2
              have HRC := Lib.hid hrc
              have x0 := keepB hb9 z0
              have x1 := keepB hb9 z1
              have x2 := keepB hb9 z2
              have x3 := keepB hb9 z3
              have x4 := keepB hb9 z4
              have x5 := keepB hb9 z5
              have x6 := keepB hb9 z6
              have x7 := keepB hb9 z7
              have HB9 := Lib.hid hb9
              have HD9 := Lib.hid hD9
              have HFB := Lib.hid hfb
              have HCUT := Lib.hid hcut
              clear hb9 hD9 hfb hcut hL9 hrc z0 z1 z2 z3 z4 z5 z6 z7
              go_wp2_with fail
              refine HRC.out.mono ?_
              rintro e w10 ⟨rb', v', rfl, hr10, hb10⟩
              have hL10 := HL5.out.cut hsz5 HD9.out HFB.out HCUT.out HB9.out hr10 hb10
              have hsz10 := hL10.frame.size
              have z0 := keepB hb10 x0
              have z1 := keepB hb10 x1
              have z2 := keepB hb10 x2
              have z3 := keepB hb10 x3
              have z4 := keepB hb10 x4
              have z5 := keepB hb10 x5
              have z6 := keepB hb10 x6
              have z7 := keepB hb10 x7
              have hact := act_any hL10.disk hL10.ref hsz10 y HYI.out hL10.frame (Nat.le_refl _) hll hL10.sA hL10.sR (by omega) hL10.held
              have HACT := Lib.hid hact
              have HL10 := Lib.hid hL10
              clear hr10 hb10 hact hL10 x0 x1 x2 x3 x4 x5 x6 x7
              go_wp2_with fail
              refine HACT.out.mono ?_
              rintro e w6 ⟨c, A2, D2, v2, rfl, hA, hB⟩
              obtain ⟨hc, hL6⟩ := HL10.out.act hsz10 hA hB
              have hpb := hB.pb
              rw [← hc]
              have hcc : (c != c) = false := by simp
              have HLK := Lib.hid (hL6.like (by omega))
              rw [hpb] at HLK
              have HL6 := Lib.hid hL6
              have HPB := Lib.hid hpb
              clear hA hB hc hL6 hpb
              go_wp2_with fail
              refine HLK.out.mono ?_
              rintro e w7 ⟨rfl, b7⟩
              have HN := Lib.hid ((HL6.out.below HL6.out.frame.size b7).more (show 25 + 1 ≤ 25 + (k + 1) by omega))
              clear b7
              go_wp2_with fail
              go_roundg (60 - (k + 1))
              case measure => rw [HG.out]; omega
              case rel => exact ⟨k + 1, D2, _, rb', _, _, rfl, by omega, by omega, by rw [HPB.out], rfl, by simp, HN⟩
            · have h71 : (y.kind == 7) = false := by simpa using h7
              have h72 : (y.kind != 7) = true := by simpa using h7
              have hact := act_any HL5.out.disk HL5.out.ref hsz5 y HYI.out HL5.out.frame (Nat.le_refl _) hll HL5.out.sA HL5.out.sR (by omega) HL5.out.held
              have HACT := Lib.hid hact
              clear hact h7
              go_wp2_with fail
              refine HACT.out.mono ?_
              rintro e w6 ⟨c, A', D', v', rfl, hA, hB⟩
              obtain ⟨hc, hL6⟩ := HL5.out.act hsz5 hA hB
              have hpb := hB.pb
              rw [← hc]
              have hcc : (c != c) = false := by simp
              have HLK := Lib.hid (hL6.like (by omega))
              rw [hpb] at HLK
              have HL6 := Lib.hid hL6
              have HPB := Lib.hid hpb
              clear hA hB hc hL6 hpb
              go_wp2_with fail
              refine HLK.out.mono ?_
              rintro e w7 ⟨rfl, b7⟩
              have HN := Lib.hid ((HL6.out.below HL6.out.frame.size b7).more (show 25 + k + 1 ≤ 25 + (k + 1) by omega))
              clear b7
              go_wp2_with fail
              go_roundg (60 - (k + 1))
              case measure => rw [HG.out]; omega
              case rel => exact ⟨k + 1, D', _, rb, _, _, rfl, by omega, by omega, by rw [HPB.out], rfl, by simp, HN⟩
          · have hle2 : (1000 : Int) < (y.b.n : Int) := by omega
            have HN := Lib.hid (HL5.out.more (show 25 + k ≤ 25 + (k + 1) by omega))
            clear hle
            go_wp2_with fail
            go_roundg (60 - (k + 1))
            case measure => rw [HG.out]; omega
            case rel => exact ⟨k + 1, D, _, rb, _, _, rfl, by omega, by omega, rfl, rfl, by simp, HN⟩
        · have hkk : (k : Int) < (l.length : Int) := by omega
          have hkk2 : ¬ (k : Int) < 60 := by omega
          have HN := Lib.hid HRR.out.frame
          go_wp2_with fail
          go_meet
          case rel => exact HN
      · have hkk : ¬ (k : Int) < (l.length : Int) := by omega
        have HN := Lib.hid HRR.out.frame
        go_wp2_with fail
        go_meet
        case rel => exact HN
  case rest =>
    go_wp2_with fail
    go_ret
    exact ⟨rfl, hcut.out⟩

end Go.Proofs.Ytmlaojfhmaamcaa
