/- Contracts of the document's without, find, named, now. -/
import Derived.Test.YtmlaojfhmaamcaaRefD06
namespace Go.Proofs.Ytmlaojfhmaamcaa
open Go.RowKit Go.Deep
set_option linter.unusedSimpArgs false
set_option linter.unusedVariables false

theorem info_named : (Try.prog.info? 87).map (fun i => (i.zero, i.size, i.bytes)) = some (some (.agg #[.string ⟨#[]⟩, .int .i64 0]), 2, 24) := by kernel_rfl
theorem beq_names {a b : ByteArray} (h : a ≠ b) : (a == b) = false ∧ (a.toList == b.toList) = false := by
  refine ⟨by rw [beq_bytes]; simp [h], ?_⟩
  cases hh : (a.toList == b.toList) with
  | false => rfl
  | true => exact absurd ((eq_bytes a b).1 (by simpa using hh)) h
theorem nm_alloc (W : World) (x : Nm) : ∀ j u, (Nm.cells x)[j]? = some u → (W.alloc (.cells #[.string x.name, .int .i64 x.file] 87)).cell? ⟨W.heap.size, j, none⟩ = some u := by
  intro j u hj
  rw [World.cell?_alloc_at _ _ _ _ rfl, ← hj, Nm.cells]
  simp

/-- Names without one. -/
def withoutR (l : List Nm) (name : ByteArray) : List Nm := l.filter fun x => decide (x.name ≠ name)

set_option maxRecDepth 20000 in
set_option maxHeartbeats 2000000 in
theorem without_any {l : List Nm} {v : Value} {w : World} (h : SliceIs Nm.cells 2 w v l) (name : ByteArray) (hl : l.length ≤ 1000000) :
    Calls Try.prog 57 #[v, .string name] w fun e w' => ∃ v', e = .returned v' ∧ Own Nm.cells 2 87 w.heap.size w' v' (withoutR l name) ∧ Below w.heap.size w w' := by
  obtain ⟨i0, hi, hz0, hz1, hz2⟩ := info_parts info_named
  obtain ⟨a, cap, rfl, hcap, hmax, hcs⟩ := id h
  unfold maxLen at hmax
  have HH := Lib.hid h
  clear h hcs
  go_enter Try.func57, Try.ntmps57
  go_wp2_with fail
  go_loopg [5, 6] l.length (fun g vv iv wr => ∃ (k : Nat) (s : Sl), g = l.length - k ∧ k ≤ l.length ∧ vv = .slice s.a s.n s.cap ∧ iv = .int .i64 k ∧ Hid (Own Nm.cells 2 87 w.heap.size wr (.slice s.a s.n s.cap) (withoutR (l.take k) name) ∧ Below w.heap.size w wr))
  case atStart => exact ⟨0, ⟨none, 0, 0⟩, by omega, by omega, rfl, rfl, Lib.hid ⟨by simp only [List.take_zero]; exact Own.nil, Below.refl _ _⟩⟩
  case round =>
    obtain ⟨k, ⟨sa, sn, sc⟩, hg, hk, rfl, rfl, hU⟩ := hrel
    dsimp only at hU ⊢
    have HGG := Lib.hid hg
    clear hg
    by_cases hkl : k < l.length
    · obtain ⟨x, hx⟩ : ∃ x, l[k]? = some x := ⟨_, List.getElem?_eq_getElem hkl⟩
      obtain ⟨_, _, e1, _, _, hh⟩ := HH.out.below hU.out.2
      cases e1
      obtain ⟨b, o, e2, hcc⟩ := hh (by intro e; rw [e] at hx; simp at hx)
      subst e2
      have x0 := hcc k x hx 0 _ rfl
      have x1 := hcc k x hx 1 _ rfl
      simp only [Nat.add_zero] at x0
      have hkk : (k : Int) < (l.length : Int) := by omega
      have htk : l.take (k + 1) = l.take k ++ [x] := by rw [List.take_add_one, hx, Option.toList_some]
      by_cases hn : x.name = name
      · have HF : Hid (withoutR (l.take (k + 1)) name = withoutR (l.take k) name) := Lib.hid (by rw [htk]; simp [withoutR, List.filter_append, hn])
        rw [hn] at x0
        clear hn htk hx hcc hh x1
        go_wp2_with fail
        go_roundg (l.length - (k + 1))
        case measure => rw [HGG.out]; omega
        case rel => exact ⟨k + 1, ⟨sa, sn, sc⟩, rfl, by omega, rfl, by simp, Lib.hid (by rw [HF.out]; exact hU.out)⟩
      · have HF : Hid (withoutR (l.take (k + 1)) name = withoutR (l.take k) name ++ [x]) := Lib.hid (by rw [htk]; simp [withoutR, List.filter_append, hn])
        obtain ⟨hn1, hn2⟩ := beq_names hn
        have hfl : (withoutR (l.take k) name).length ≤ k := Nat.le_trans (List.length_filter_le _ _) (by rw [List.length_take]; omega)
        have hs := hU.out.2.size
        clear hn htk hx hcc hh
        go_wp2_with (at_builtin; refine wpList_append_struct rfl _ _ _ rfl i0 _ 24 Try.underlying84 hi hz0 hz1 hz2 rfl (by omega) Nm.len Nm.one rfl (hU.out.1.alloc _) x wr.heap.size 1 rfl (nm_alloc _ x) (by unfold maxLen; omega) (by omega) (by simp; omega) ?_)
        intro v' w3 hown3 hx3
        obtain ⟨s3, e3⟩ := hown3.sl
        change v' = .slice s3.a s3.n s3.cap at e3
        subst e3
        have HN : Hid (Own Nm.cells 2 87 w.heap.size w3 (.slice s3.a s3.n s3.cap) (withoutR (l.take (k + 1)) name) ∧ Below w.heap.size w w3) := Lib.hid ⟨by rw [HF.out]; exact hown3, Ext.new (hU.out.2.alloc hU.out.2.size _) hx3 (fun i hi _ e => by have := (hU.out.1.blk i e).1; omega) (by simp; omega)⟩
        clear hown3 hx3
        go_wp2_with fail
        go_roundg (l.length - (k + 1))
        case measure => rw [HGG.out]; omega
        case rel => exact ⟨k + 1, s3, rfl, by omega, rfl, by simp, HN⟩
    · obtain rfl : k = l.length := by omega
      have hown := hU.out.1
      rw [List.take_length] at hown
      have HN := Lib.hid hown
      clear hown
      go_wp2
      go_ret
      exact ⟨_, rfl, HN.out, hU.out.2⟩

/-- The file of a name; -1. -/
def findR (l : List Nm) (name : ByteArray) : Int := match l.find? (fun x => decide (x.name = name)) with | none => -1 | some x => x.file

set_option maxRecDepth 20000 in
set_option maxHeartbeats 2000000 in
theorem rfind_any {l : List Nm} {v : Value} {w : World} (h : SliceIs Nm.cells 2 w v l) (name : ByteArray) :
    Calls Try.prog 50 #[v, .string name] w fun e w' => e = .returned (.int .i64 (findR l name)) ∧ w' = w := by
  obtain ⟨a, cap, rfl, hcap, hmax, hcs⟩ := id h
  unfold maxLen at hmax
  go_enter Try.func50, Try.ntmps50
  go_wp2_with fail
  go_loopg [5] l.length (fun g iv wr => ∃ (k : Nat), g = l.length - k ∧ k ≤ l.length ∧ iv = .int .i64 k ∧ wr = w ∧ Hid (findR l name = findR (l.drop k) name))
  case atStart => exact ⟨0, by omega, by omega, rfl, rfl, Lib.hid (by rw [List.drop_zero])⟩
  case round =>
    obtain ⟨k, hg, hk, rfl, rfl, hU⟩ := hrel
    have HGG := Lib.hid hg
    clear hg
    by_cases hkl : k < l.length
    · obtain ⟨x, hx⟩ : ∃ x, l[k]? = some x := ⟨_, List.getElem?_eq_getElem hkl⟩
      obtain ⟨b, o, e2, hcc⟩ := hcs (by intro e; rw [e] at hx; simp at hx)
      subst e2
      have x0 := hcc k x hx 0 _ rfl
      have x1 := hcc k x hx 1 _ rfl
      simp only [Nat.add_zero] at x0
      have hkk : (k : Int) < (l.length : Int) := by omega
      have hd : l.drop k = x :: l.drop (k + 1) := by rw [List.drop_eq_getElem_cons hkl]; congr 1; exact (List.getElem?_eq_some_iff.1 hx).2
      by_cases hn : x.name = name
      · have hf : findR l name = x.file := by rw [hU.out, hd]; simp [findR, List.find?_cons, hn]
        have HF := Lib.hid hf
        rw [hn] at x0
        clear hn hf hd hx hcc hU h hcs
        go_wp2
        go_ret
        exact ⟨by rw [HF.out]; rfl, rfl⟩
      · have HF : Hid (findR l name = findR (l.drop (k + 1)) name) := Lib.hid (by rw [hU.out, hd]; simp [findR, List.find?_cons, hn])
        obtain ⟨hn1, hn2⟩ := beq_names hn
        clear hn hd hx hcc hU h hcs
        go_wp2_with fail
        go_roundg (l.length - (k + 1))
        case measure => rw [HGG.out]; omega
        case rel => exact ⟨k + 1, rfl, by omega, by simp, rfl, HF⟩
    · obtain rfl : k = l.length := by omega
      have hf : findR l name = -1 := by rw [hU.out, List.drop_length]; rfl
      have HF := Lib.hid hf
      clear hf hU h hcs
      go_wp2
      go_ret
      exact ⟨by rw [HF.out]; rfl, rfl⟩

/-- Names, behind a step. -/
def namedR (l : List Nm) (s : StepA) : List Nm :=
  if s.kind = 1 ∨ s.kind = 3 then l.filter (fun x => decide (x.file ≠ s.file) && decide (x.name ≠ s.name)) ++ [⟨s.name, s.file⟩] else if s.kind = 4 then withoutR l s.name else l
theorem namedR_len (l : List Nm) (s : StepA) : (namedR l s).length ≤ l.length + 1 := by
  unfold namedR
  split
  · rw [List.length_append]
    have := List.length_filter_le (fun x : Nm => decide (x.file ≠ s.file) && decide (x.name ≠ s.name)) l
    simp at this ⊢
    omega
  · split
    · exact Nat.le_succ_of_le (List.length_filter_le _ _)
    · omega

set_option maxRecDepth 20000 in
set_option maxHeartbeats 4000000 in
theorem named_any {l : List Nm} {v : Value} {w : World} (h : SliceIs Nm.cells 2 w v l) (q : Stp) (s : StepA) (h1 : q.kind = s.kind) (h2 : q.file = s.file) (h3 : q.name = s.name) (hl : l.length ≤ 1000000) :
    Calls Try.prog 39 #[v, .agg #[.int .i64 q.kind, .int .i64 q.file, .string q.name, .slice q.s.a q.s.n q.s.cap]] w fun e w' => ∃ v', e = .returned v' ∧ SliceIs Nm.cells 2 w' v' (namedR l s) ∧ Below w.heap.size w w' := by
  obtain ⟨i0, hi, hz0, hz1, hz2⟩ := info_parts info_named
  obtain ⟨a, cap, rfl, hcap, hmax, hcs⟩ := id h
  unfold maxLen at hmax
  obtain ⟨kind, file, name, ⟨ta, tn, tc⟩⟩ := q
  obtain ⟨_, _, _, bs⟩ := s
  dsimp only at h1 h2 h3 ⊢
  subst h1 h2 h3
  have hb0 : Below w.heap.size w (w.alloc (.cells #[.int .i64 kind, .int .i64 file, .string name, .slice ta tn tc] 83)) := (Below.refl _ _).alloc (Nat.le_refl _) _
  have HH := Lib.hid (h.below hb0)
  have y0 : (w.alloc (.cells #[.int .i64 kind, .int .i64 file, .string name, .slice ta tn tc] 83)).cell? ⟨w.heap.size, 0, none⟩ = some (.int .i64 kind) := by go_simp
  have y1 : (w.alloc (.cells #[.int .i64 kind, .int .i64 file, .string name, .slice ta tn tc] 83)).cell? ⟨w.heap.size, 1, none⟩ = some (.int .i64 file) := by go_simp
  have y2 : (w.alloc (.cells #[.int .i64 kind, .int .i64 file, .string name, .slice ta tn tc] 83)).cell? ⟨w.heap.size, 2, none⟩ = some (.string name) := by go_simp
  clear h hcs
  obtain ⟨FL, hFL⟩ : ∃ FL : List Nm → List Nm, ∀ l : List Nm, l.filter (fun x => decide (x.file ≠ file) && decide (x.name ≠ name)) = FL l := ⟨_, fun _ => rfl⟩
  have FLnil : FL [] = [] := by rw [← hFL]; rfl
  have FLle : ∀ l, (FL l).length ≤ l.length := fun l => by rw [← hFL]; exact List.length_filter_le _ _
  have FLsnoc : ∀ (l : List Nm) x, FL (l ++ [x]) = FL l ++ if x.file ≠ file ∧ x.name ≠ name then [x] else [] := fun l x => by
    rw [← hFL, ← hFL, List.filter_append]
    by_cases e1 : x.file = file <;> by_cases e2 : x.name = name <;> simp [e1, e2]
  by_cases hk13 : kind = 1 ∨ kind = 3
  · have hres : namedR l ⟨kind, file, name, bs⟩ = FL l ++ [⟨name, file⟩] := by unfold namedR; rw [if_pos hk13, hFL]
    have HRES := Lib.hid hres
    have HFS := Lib.hid FLsnoc
    have HFLE := Lib.hid FLle
    have HFN := Lib.hid FLnil
    clear hFL FLnil FLle FLsnoc hres
    go_enter Try.func39, Try.ntmps39
    go_upto_region 1 with fail
    generalize w.alloc (.cells #[.int .i64 kind, .int .i64 file, .string name, .slice ta tn tc] 83) = w1 at *
    generalize hz : w.heap.size = z1 at *
    have HZ := Lib.hid hz
    have HB0 := Lib.hid hb0
    clear hz hb0
    rcases hk13 with rfl | rfl
    all_goals
      go_wp2_with fail
      go_loopg [5, 6] l.length (fun g vv iv wr => ∃ (k : Nat) (s : Sl), g = l.length - k ∧ k ≤ l.length ∧ vv = .slice s.a s.n s.cap ∧ iv = .int .i64 k ∧ Hid (Own Nm.cells 2 87 w1.heap.size wr (.slice s.a s.n s.cap) (FL (l.take k)) ∧ Below w1.heap.size w1 wr))
      case atStart => exact ⟨0, ⟨none, 0, 0⟩, by omega, by omega, rfl, rfl, Lib.hid ⟨by simp only [List.take_zero, HFN.out]; exact Own.nil, Below.refl _ _⟩⟩
      case round =>
        obtain ⟨k, ⟨sa, sn, sc⟩, hg, hk, rfl, rfl, hU⟩ := hrel
        dsimp only at hU ⊢
        have HGG := Lib.hid hg
        clear hg
        have y1' := keepB hU.out.2 y1
        have y2' := keepB hU.out.2 y2
        have hzw := cell_lt y1'
        by_cases hkl : k < l.length
        · obtain ⟨x, hx⟩ : ∃ x, l[k]? = some x := ⟨_, List.getElem?_eq_getElem hkl⟩
          obtain ⟨_, _, e1, _, _, hh⟩ := HH.out.below hU.out.2
          cases e1
          obtain ⟨b, o, e2, hcc⟩ := hh (by intro e; rw [e] at hx; simp at hx)
          subst e2
          have x0 := hcc k x hx 0 _ rfl
          have x1 := hcc k x hx 1 _ rfl
          simp only [Nat.add_zero] at x0
          have hkk : (k : Int) < (l.length : Int) := by omega
          have hsn := HFS.out (l.take k) x
          rw [show l.take k ++ [x] = l.take (k + 1) by rw [List.take_add_one, hx, Option.toList_some]] at hsn
          clear hx hcc hh
          by_cases hf : x.file = file
          · have HF : Hid (Own Nm.cells 2 87 w1.heap.size wr (.slice sa sn sc) (FL (l.take (k + 1))) ∧ Below w1.heap.size w1 wr) := Lib.hid (by rw [hsn, if_neg (fun h => h.1 hf), List.append_nil]; exact hU.out)
            have HF2 : Hid (∀ n, Own Nm.cells 2 87 w1.heap.size (wr.drewN n) (.slice sa sn sc) (FL (l.take (k + 1))) ∧ Below w1.heap.size w1 (wr.drewN n)) := Lib.hid (fun n => ⟨HF.out.1, below_drewN HF.out.2 n⟩)
            clear hsn hU
            rw [hf] at x1
            clear hf
            go_upto_region 6 with fail
            go_quiet (fail)
            go_wp2_with fail
            go_roundg (l.length - (k + 1))
            case measure => rw [HGG.out]; omega
            case rel => exact ⟨k + 1, ⟨sa, sn, sc⟩, rfl, by omega, rfl, by simp, Lib.hid (HF2.out _)⟩
          · by_cases hn : x.name = name
            · have HF2 : Hid (∀ n, Own Nm.cells 2 87 w1.heap.size (wr.drewN n) (.slice sa sn sc) (FL (l.take (k + 1))) ∧ Below w1.heap.size w1 (wr.drewN n)) := Lib.hid (fun n => by rw [hsn, if_neg (fun h => h.2 hn), List.append_nil]; exact ⟨hU.out.1, below_drewN hU.out.2 n⟩)
              clear hsn hU
              rw [hn] at x0
              clear hn
              go_upto_region 6 with fail
              go_quiet (fail)
              go_wp2_with fail
              go_roundg (l.length - (k + 1))
              case measure => rw [HGG.out]; omega
              case rel => exact ⟨k + 1, ⟨sa, sn, sc⟩, rfl, by omega, rfl, by simp, Lib.hid (HF2.out _)⟩
            · have HF : Hid (FL (l.take (k + 1)) = FL (l.take k) ++ [x]) := Lib.hid (by rw [hsn, if_pos ⟨hf, hn⟩])
              obtain ⟨hn1, hn2⟩ := beq_names hn
              have hfl : (FL (l.take k)).length ≤ k := Nat.le_trans (HFLE.out _) (by rw [List.length_take]; omega)
              have HU : Hid (∀ n, Own Nm.cells 2 87 w1.heap.size (wr.drewN n) (.slice sa sn sc) (FL (l.take k)) ∧ Below w1.heap.size w1 (wr.drewN n)) := Lib.hid (fun n => ⟨hU.out.1, below_drewN hU.out.2 n⟩)
              have hs := hU.out.2.size
              clear hsn hU hn
              go_upto_region 6 with fail
              go_quiet (fail)
              have x0' : (wr.drewN nq).cell? ⟨b, o + k * 2, none⟩ = some (.string x.name) := x0
              have x1' : (wr.drewN nq).cell? ⟨b, o + k * 2 + 1, none⟩ = some (.int .i64 x.file) := x1
              have hs' : w1.heap.size ≤ (wr.drewN nq).heap.size := hs
              have hzw' : z1 < (wr.drewN nq).heap.size := hzw
              have HU2 := Lib.hid (HU.out nq)
              clear HU x0 x1 hs hzw y1' y2'
              generalize wr.drewN nq = w2 at *
              go_wp2_with (at_builtin; refine wpList_append_struct rfl _ _ _ rfl i0 _ 24 Try.underlying84 hi hz0 hz1 hz2 rfl (by omega) Nm.len Nm.one rfl (HU2.out.1.alloc _) x w2.heap.size 1 rfl (nm_alloc _ x) (by unfold maxLen; omega) (by omega) (by simp; omega) ?_)
              intro v' w3 hown3 hx3
              obtain ⟨s3, e3⟩ := hown3.sl
              change v' = .slice s3.a s3.n s3.cap at e3
              subst e3
              have HN : Hid (Own Nm.cells 2 87 w1.heap.size w3 (.slice s3.a s3.n s3.cap) (FL (l.take (k + 1))) ∧ Below w1.heap.size w1 w3) := Lib.hid ⟨by rw [HF.out]; exact hown3, Ext.new (HU2.out.2.alloc HU2.out.2.size _) hx3 (fun i hi _ e => by have h8 := (HU2.out.1.blk i e).1; omega) (by simp; omega)⟩
              clear hown3 hx3
              go_wp2_with fail
              go_roundg (l.length - (k + 1))
              case measure => rw [HGG.out]; omega
              case rel => exact ⟨k + 1, s3, rfl, by omega, rfl, by simp, HN⟩
        · obtain rfl : k = l.length := by omega
          have hown := hU.out.1
          rw [List.take_length] at hown
          have HO := Lib.hid hown
          have hfl : (FL l).length ≤ l.length := HFLE.out _
          have hs := hU.out.2.size
          clear hown
          go_wp2_with (at_builtin; refine wpList_append_struct rfl _ _ _ rfl i0 _ 24 Try.underlying84 hi hz0 hz1 hz2 rfl (by omega) Nm.len Nm.one rfl (HO.out.alloc _) ⟨name, file⟩ wr.heap.size 1 rfl (nm_alloc _ ⟨name, file⟩) (by unfold maxLen; omega) (by omega) (by simp; omega) ?_)
          intro v' w3 hown3 hx3
          have hB3 := Ext.new (hU.out.2.alloc hU.out.2.size _) hx3 (fun i hi _ e => by have h8 := (HO.out.blk i e).1; omega) (by simp; omega)
          obtain ⟨s3, e3⟩ := hown3.sl
          change v' = .slice s3.a s3.n s3.cap at e3
          subst e3
          have HN : Hid (SliceIs Nm.cells 2 w3 (.slice s3.a s3.n s3.cap) (FL l ++ [⟨name, file⟩]) ∧ Below w.heap.size w w3) := Lib.hid ⟨hown3.slice Nm.len, by rw [HZ.out]; exact HB0.out.trans (hB3.mono (by have := HB0.out.size; have := HZ.out; omega))⟩
          clear hown3 hx3 hB3
          go_wp2_with fail
          go_ret
          exact ⟨_, rfl, by rw [HRES.out]; exact HN.out.1, HN.out.2⟩
  · have k1 : ¬ kind = 1 := fun e => hk13 (.inl e)
    have k3 : ¬ kind = 3 := fun e => hk13 (.inr e)
    have hz := hb0
    have e1 : (kind == 1) = false := by simpa using k1
    have e3 : (kind == 3) = false := by simpa using k3
    by_cases k4 : kind = 4
    · have hres : namedR l ⟨kind, file, name, bs⟩ = withoutR l name := by unfold namedR; rw [if_neg hk13, if_pos k4]
      have HRES := Lib.hid hres
      subst k4
      clear hres hk13 hFL FLnil FLle FLsnoc
      go_enter Try.func39, Try.ntmps39
      go_wp2_with fail
      refine (without_any HH.out name hl).mono ?_
      rintro e w3 ⟨v', rfl, hown3, b3⟩
      obtain ⟨s3, e3⟩ := hown3.sl
      change v' = .slice s3.a s3.n s3.cap at e3
      subst e3
      have HN : Hid (SliceIs Nm.cells 2 w3 (.slice s3.a s3.n s3.cap) (withoutR l name) ∧ Below w.heap.size w w3) := Lib.hid ⟨hown3.slice Nm.len, hb0.trans (b3.mono hb0.size)⟩
      clear hown3 b3
      go_wp2_with fail
      go_ret
      exact ⟨_, rfl, by rw [HRES.out]; exact HN.out.1, HN.out.2⟩
    · have hres : namedR l ⟨kind, file, name, bs⟩ = l := by unfold namedR; rw [if_neg hk13, if_neg k4]
      have HRES := Lib.hid hres
      have e4 : (kind == 4) = false := by simpa using k4
      have HN := Lib.hid hb0
      clear hres hk13 hFL FLnil FLle FLsnoc hb0 hz
      go_enter Try.func39, Try.ntmps39
      go_wp2_with fail
      all_goals first
        | (exfalso; omega)
        | (exfalso; simp_all; done)
        | (go_ret; exact ⟨_, rfl, by rw [HRES.out]; exact HH.out, HN.out⟩)

/-- The names, behind some steps. -/
def nowR (L : List StepA) : List Nm := L.foldl namedR []
theorem nowR_snoc {L : List StepA} {k : Nat} {p : StepA} (h : L[k]? = some p) : nowR (L.take (k + 1)) = namedR (nowR (L.take k)) p := by
  unfold nowR
  rw [List.take_add_one, h, Option.toList_some, List.foldl_append]
  rfl
theorem nowR_len : ∀ (L : List StepA) (k : Nat), (nowR (L.take k)).length ≤ k
  | L, 0 => by simp [nowR]
  | L, k + 1 => by
    have ih := nowR_len L k
    cases h : L[k]? with
    | none => rw [List.take_add_one, h, Option.toList_none, List.append_nil]; omega
    | some p =>
      rw [nowR_snoc h]
      have := namedR_len (nowR (L.take k)) p
      omega

set_option maxRecDepth 20000 in
set_option maxHeartbeats 2000000 in
theorem now_any {base : Nat} {L : List StepA} {v : Value} {w : World} (h : StepsIs base w v L) (hl : L.length ≤ 1000000) :
    Calls Try.prog 49 #[v] w fun e w' => ∃ v', e = .returned v' ∧ SliceIs Nm.cells 2 w' v' (nowR L) ∧ Below w.heap.size w w' := by
  obtain ⟨qs, hqo, hql, hqp⟩ := h
  obtain ⟨a, cap, rfl, hcap, hmax, hcs⟩ := hqo.slice Stp.len
  unfold maxLen at hmax
  have HQP := Lib.hid hqp
  have HCS := Lib.hid hcs
  have hlq : qs.length ≤ 1000000 := by omega
  have HQL := Lib.hid hql
  clear hqo hqp hcs hql hl
  go_enter Try.func49, Try.ntmps49
  go_wp2_with fail
  go_loopg [3, 4] qs.length (fun g vv iv wr => ∃ (k : Nat) (s : Sl), g = qs.length - k ∧ k ≤ qs.length ∧ vv = .slice s.a s.n s.cap ∧ iv = .int .i64 k ∧ Hid (SliceIs Nm.cells 2 wr (.slice s.a s.n s.cap) (nowR (L.take k)) ∧ Below w.heap.size w wr))
  case atStart => exact ⟨0, ⟨none, 0, 0⟩, by omega, by omega, rfl, rfl, Lib.hid ⟨⟨none, 0, rfl, Nat.le_refl _, Nat.zero_le _, fun h => absurd rfl h⟩, Below.refl _ _⟩⟩
  case round =>
    obtain ⟨k, ⟨sa, sn, sc⟩, hg, hk, rfl, rfl, hU⟩ := hrel
    dsimp only at hU ⊢
    have HGG := Lib.hid hg
    clear hg
    by_cases hkl : k < qs.length
    · obtain ⟨q, hq⟩ : ∃ q, qs[k]? = some q := ⟨_, List.getElem?_eq_getElem hkl⟩
      obtain ⟨p, hp⟩ : ∃ p, L[k]? = some p := ⟨_, List.getElem?_eq_getElem (by rw [← HQL.out]; exact hkl)⟩
      obtain ⟨b, o, e2, hcc⟩ := HCS.out (by intro e; rw [e] at hq; simp at hq)
      subst e2
      have q0 := keepB hU.out.2 (hcc k q hq 0 _ rfl)
      have q1 := keepB hU.out.2 (hcc k q hq 1 _ rfl)
      have q2 := keepB hU.out.2 (hcc k q hq 2 _ rfl)
      have q3 := keepB hU.out.2 (hcc k q hq 3 _ rfl)
      simp only [Nat.add_zero] at q0
      obtain ⟨p1, p2, p3, _⟩ := HQP.out k q p hq hp
      have hkk : (k : Int) < (qs.length : Int) := by omega
      have hnl := nowR_len L k
      have HS := Lib.hid (nowR_snoc hp)
      have HC := Lib.hid (named_any hU.out.1 q p p1 p2 p3 (by omega))
      clear hq hp hcc p1 p2 p3
      go_wp2_with fail
      refine HC.out.mono ?_
      rintro e w3 ⟨v', rfl, hsl, b3⟩
      obtain ⟨s3, e3⟩ : ∃ s3 : Sl, v' = .slice s3.a s3.n s3.cap := by obtain ⟨a3, c3, e3, _⟩ := hsl; exact ⟨⟨a3, _, c3⟩, e3⟩
      subst e3
      have HN : Hid (SliceIs Nm.cells 2 w3 (.slice s3.a s3.n s3.cap) (nowR (L.take (k + 1))) ∧ Below w.heap.size w w3) := Lib.hid ⟨by rw [HS.out]; exact hsl, hU.out.2.trans (b3.mono hU.out.2.size)⟩
      clear hsl b3
      go_wp2_with fail
      go_roundg (qs.length - (k + 1))
      case measure => rw [HGG.out]; omega
      case rel => exact ⟨k + 1, s3, rfl, by omega, rfl, by simp, HN⟩
    · obtain rfl : k = qs.length := by omega
      have hsl := hU.out.1
      rw [HQL.out, List.take_length] at hsl
      have HN := Lib.hid hsl
      clear hsl
      go_wp2
      go_ret
      exact ⟨_, rfl, HN.out, hU.out.2⟩

end Go.Proofs.Ytmlaojfhmaamcaa
