/- Contracts of Disk.Read, Disk.Pending. -/
import Derived.Test.YtmlaojfhmaamcaaSync06
namespace Go.Proofs.Ytmlaojfhmaamcaa
open Go.RowKit Go.Deep
set_option linter.unusedSimpArgs false
set_option linter.unusedVariables false

/-- A file's bytes. -/
def bytesP (ps : List PcA) : List UInt8 := ps.flatMap (·.bs)
theorem bytesP_len (ps : List PcA) : (bytesP ps).length = sizeP ps := by simp [bytesP, sizeP, List.length_flatMap]
theorem bytesP_snoc {ps : List PcA} {k : Nat} {p : PcA} (h : ps[k]? = some p) : bytesP (ps.take (k + 1)) = bytesP (ps.take k) ++ p.bs := by
  unfold bytesP
  rw [List.take_add_one, h, Option.toList_some, List.flatMap_append]
  simp
theorem sizeP_take (ps : List PcA) (k : Nat) : sizeP (ps.take k) ≤ sizeP ps := by
  unfold sizeP
  conv => rhs; rw [← List.take_append_drop k ps]
  rw [List.map_append, List.sum_append]
  omega
theorem sizeP_mem {ps : List PcA} {k : Nat} {p : PcA} (h : ps[k]? = some p) : sizeP (ps.take k) + p.bs.length ≤ sizeP ps := by
  have := sizeP_take ps (k + 1)
  rw [List.take_add_one, h, Option.toList_some, sizeP_snoc] at this
  exact this

/-- What Read answers, and leaves. -/
def ReadPost (base : Nat) (w : World) (D : DSh) (A : DiskA) (name : ByteArray) (e : Ending) (w' : World) : Prop :=
  (aget A.files name = none ∧ e = .returned (.tuple #[.slice none 0 0, .int .i64 61]) ∧ w' = w) ∨
  (∃ f v, aget A.files name = some f ∧ e = .returned (.tuple #[v, .int .i64 0]) ∧ Own u8c 1 5 w.heap.size w' v (bytesP (A.fs f)) ∧ Below w.heap.size w w')

set_option maxRecDepth 20000 in
set_option maxHeartbeats 4000000 in
theorem read_any {base : Nat} {w : World} {D : DSh} {A : DiskA} (h : DiskIs base w D A) (name : ByteArray) {N : Nat} (hsm : A.Small N) (hN : N ≤ 1000000000) :
    Calls Try.prog 12 #[.pointer (some ⟨D.pb, 0, none⟩), .string name] w fun e w' => ReadPost base w D A name e w' := by
  obtain ⟨i0, hi, hz0, hz1, hz2⟩ := info_parts info_u8
  go_enter Try.func12, Try.ntmps12
  go_wp2_with fail
  refine (find_any h name).mono ?_
  rintro e w1 ⟨rfl, rfl⟩
  unfold findV
  cases hg : aget A.files name with
  | none =>
    simp only [Option.isSome_none, ptrV, Option.map_none]
    have HH := Lib.hid h
    clear h
    go_wp2
    refine bodyPost_ret (results_tmp2 rfl _ _ _) rfl ?_
    exact .inl ⟨hg, rfl, rfl⟩
  | some f =>
    simp only [Option.isSome_some, ptrV, Option.map_some, if_true]
    have hf := (h.ok.inf _ _ (aget_mem hg)).1
    have hsz := h.ok.sz f hf
    have HG := Lib.hid hg
    have hF3 := h.file f hf
    obtain ⟨hbf, hfb3, qs, hqo, hql, hqp⟩ := id hF3
    obtain ⟨va, vcap, hvc⟩ : ∃ va vcap, D.rv f = .slice va qs.length vcap := by
      rcases hqo.eq_slice with ⟨e, e2⟩ | ⟨g, c, e, _⟩
      · exact ⟨none, 0, by rw [e, e2]; rfl⟩
      · exact ⟨_, _, e⟩
    have hlq : qs.length ≤ 1000000001 := by have := hsm.pcs f hf; omega
    have f0 := Joins.cell_of_block hfb3 0
    simp only [List.getElem?_toArray, List.getElem?_cons_succ, List.getElem?_cons_zero, hvc] at f0
    have HVC := Lib.hid hvc
    have HQO := Lib.hid hqo
    have HQP := Lib.hid hqp
    have HQL := Lib.hid hql
    clear h hF3 hfb3 hqo hql hqp hvc hsm hf hg
    go_wp2_with fail
    go_loopg [8, 25] qs.length (fun g vv iv wr => ∃ (k : Nat) (s : Sl), g = qs.length - k ∧ k ≤ qs.length ∧ vv = .slice s.a s.n s.cap ∧ iv = .int .i64 k ∧ Hid (Own u8c 1 5 w1.heap.size wr (.slice s.a s.n s.cap) (bytesP ((A.fs f).take k)) ∧ Below w1.heap.size w1 wr))
    case atStart => exact ⟨0, ⟨none, 0, 0⟩, by omega, by omega, rfl, rfl, Lib.hid ⟨by simp only [List.take_zero]; exact Own.nil, Below.refl _ _⟩⟩
    case round =>
      obtain ⟨k, ⟨sa, sn, sc⟩, hg, hk, rfl, rfl, hU⟩ := hrel
      dsimp only at hU ⊢
      have HGG := Lib.hid hg
      clear hg
      by_cases hkl : k < qs.length
      · obtain ⟨q, hq⟩ : ∃ q, qs[k]? = some q := ⟨_, List.getElem?_eq_getElem hkl⟩
        obtain ⟨p, hp⟩ : ∃ p, (A.fs f)[k]? = some p := ⟨_, List.getElem?_eq_getElem (by rw [← HQL.out]; exact hkl)⟩
        obtain ⟨⟨qa, qn, qc⟩, qcame, qsafe⟩ := q
        have ho := HQO.out
        rw [HVC.out] at ho
        obtain ⟨g, e1⟩ : ∃ g, va = some ⟨g, 0, none⟩ := by
          rcases ho.eq_slice with ⟨_, e2⟩ | ⟨g, c, e, _⟩
          · rw [e2] at hkl; simp at hkl
          · cases e; exact ⟨g, rfl⟩
        subst e1
        have q0 := keepB hU.out.2 (ho.cellAt Pc.len hq (j := 0) rfl)
        have q1 := keepB hU.out.2 (ho.cellAt Pc.len hq (j := 1) rfl)
        have q2 := keepB hU.out.2 (ho.cellAt Pc.len hq (j := 2) rfl)
        simp only [Nat.add_zero] at q0
        have hkk : (k : Int) < (qs.length : Int) := by omega
        have hsl := ((HQP.out k _ _ hq hp).1.slice u8c_len).below hU.out.2
        have hb1 := sizeP_mem hp
        have hal : Below wr.heap.size wr (wr.alloc (.cells #[.slice qa qn qc, .int .i64 qcame, .int .i64 qsafe] 76)) := (Below.refl _ _).alloc (Nat.le_refl _) _
        have hbl := bytesP_len ((A.fs f).take k)
        obtain ⟨v', w', hr, hown, hx'⟩ := append_structs (P := Try.prog) 23 23 i0 _ 1 Try.underlying23 hi hz0 hz1 hz2 rfl (by omega) u8c_len u8c_one (hU.out.1.alloc _) (hsl.below hal) (by unfold maxLen; omega) (by omega) (by have := hU.out.2.size; simp; omega)
        rw [← bytesP_snoc hp] at hown
        have hB := Ext.new (hU.out.2.alloc hU.out.2.size (.cells #[.slice qa qn qc, .int .i64 qcame, .int .i64 qsafe] 76)) hx' (fun i hi _ e => by have := (hU.out.1.blk i e).1; omega) (by have := hU.out.2.size; simp; omega)
        obtain ⟨s', hs'⟩ := hown.sl
        subst hs'
        change (Builtin.append_ _ _ _).run _ _ = .ok (.slice s'.a s'.n s'.cap) w' at hr
        have HR := Lib.hid hr
        have HN := Lib.hid (And.intro hown hB)
        clear ho hU hq hp hsl hb1 hal hbl hr hown hx' hB
        go_wp2_with (at_builtin; refine wpList_append_run rfl _ _ _ rfl rfl rfl HR.out ?_)
        go_roundg (qs.length - (k + 1))
        case measure => rw [HGG.out]; omega
        case rel => exact ⟨k + 1, s', rfl, by omega, rfl, by simp, HN⟩
      · obtain rfl : k = qs.length := by omega
        have hown := hU.out.1
        rw [HQL.out, List.take_length] at hown
        have HN := Lib.hid (And.intro hown hU.out.2)
        clear hU hown
        go_wp2
        refine bodyPost_ret (results_tmp2 rfl _ _ _) rfl ?_
        exact .inr ⟨f, _, HG.out, rfl, HN.out.1, HN.out.2⟩

/-- How many appends are not durable. -/
def pendP (ps : List PcA) : Nat := (ps.filter fun p => decide (p.safe = 0)).length
theorem pendP_snoc {ps : List PcA} {k : Nat} {p : PcA} (h : ps[k]? = some p) : pendP (ps.take (k + 1)) = pendP (ps.take k) + if p.safe = 0 then 1 else 0 := by
  unfold pendP
  rw [List.take_add_one, h, Option.toList_some, List.filter_append, List.length_append]
  by_cases hs : p.safe = 0 <;> simp [hs]
theorem pendP_le (ps : List PcA) (k : Nat) : pendP (ps.take k) ≤ ps.length := by
  unfold pendP
  exact Nat.le_trans (List.length_filter_le _ _) (by rw [List.length_take]; omega)
/-- Pending's answer. -/
def pendA (A : DiskA) (name : ByteArray) : Nat := match aget A.files name with | none => 0 | some f => pendP (A.fs f)

set_option maxRecDepth 20000 in
set_option maxHeartbeats 4000000 in
theorem pending_any {base : Nat} {w : World} {D : DSh} {A : DiskA} (h : DiskIs base w D A) (name : ByteArray) {N : Nat} (hsm : A.Small N) (hN : N ≤ 1000000000) :
    Calls Try.prog 20 #[.pointer (some ⟨D.pb, 0, none⟩), .string name] w fun e w' => e = .returned (.int .i64 (pendA A name)) ∧ Below w.heap.size w w' := by
  go_enter Try.func20, Try.ntmps20
  go_wp2_with fail
  refine (find_any h name).mono ?_
  rintro e w1 ⟨rfl, rfl⟩
  unfold findV
  cases hg : aget A.files name with
  | none =>
    simp only [Option.isSome_none, ptrV, Option.map_none]
    have HH := Lib.hid h
    clear h
    go_wp2
    go_ret
    exact ⟨by rw [show pendA A name = 0 by simp [pendA, hg]]; rfl, Below.refl _ _⟩
  | some f =>
    simp only [Option.isSome_some, ptrV, Option.map_some, if_true]
    have hf := (h.ok.inf _ _ (aget_mem hg)).1
    have HG := Lib.hid hg
    have hF3 := h.file f hf
    obtain ⟨hbf, hfb3, qs, hqo, hql, hqp⟩ := id hF3
    obtain ⟨va, vcap, hvc⟩ : ∃ va vcap, D.rv f = .slice va qs.length vcap := by
      rcases hqo.eq_slice with ⟨e, e2⟩ | ⟨g, c, e, _⟩
      · exact ⟨none, 0, by rw [e, e2]; rfl⟩
      · exact ⟨_, _, e⟩
    have hlq : qs.length ≤ 1000000001 := by have := hsm.pcs f hf; omega
    have f0 := Joins.cell_of_block hfb3 0
    simp only [List.getElem?_toArray, List.getElem?_cons_succ, List.getElem?_cons_zero, hvc] at f0
    have HVC := Lib.hid hvc
    have HQO := Lib.hid hqo
    have HQP := Lib.hid hqp
    have HQL := Lib.hid hql
    clear h hF3 hfb3 hqo hql hqp hvc hsm hf hg
    go_wp2_with fail
    go_loopg [7, 23] qs.length (fun g nv iv wr => ∃ (k : Nat), g = qs.length - k ∧ k ≤ qs.length ∧ nv = .int .i64 (pendP ((A.fs f).take k)) ∧ iv = .int .i64 k ∧ Hid (Below w1.heap.size w1 wr))
    case atStart => exact ⟨0, by omega, by omega, by simp [pendP], rfl, Lib.hid (Below.refl _ _)⟩
    case round =>
      obtain ⟨k, hg, hk, rfl, rfl, hU⟩ := hrel
      have HGG := Lib.hid hg
      clear hg
      by_cases hkl : k < qs.length
      · obtain ⟨q, hq⟩ : ∃ q, qs[k]? = some q := ⟨_, List.getElem?_eq_getElem hkl⟩
        obtain ⟨p, hp⟩ : ∃ p, (A.fs f)[k]? = some p := ⟨_, List.getElem?_eq_getElem (by rw [← HQL.out]; exact hkl)⟩
        have hps := (HQP.out k _ _ hq hp).2.2
        obtain ⟨⟨qa, qn, qc⟩, qcame, qsafe⟩ := q
        dsimp only at hps
        have ho := HQO.out
        rw [HVC.out] at ho
        obtain ⟨g, e1⟩ : ∃ g, va = some ⟨g, 0, none⟩ := by
          rcases ho.eq_slice with ⟨_, e2⟩ | ⟨g, c, e, _⟩
          · rw [e2] at hkl; simp at hkl
          · cases e; exact ⟨g, rfl⟩
        subst e1
        have q0 := keepB hU.out (ho.cellAt Pc.len hq (j := 0) rfl)
        have q1 := keepB hU.out (ho.cellAt Pc.len hq (j := 1) rfl)
        have q2 := keepB hU.out (ho.cellAt Pc.len hq (j := 2) rfl)
        simp only [Nat.add_zero] at q0
        have hkk : (k : Int) < (qs.length : Int) := by omega
        have hsn := pendP_snoc hp
        have hle := pendP_le (A.fs f) k
        rw [← HQL.out] at hle
        have HB : Hid (Below w1.heap.size w1 (wr.alloc (.cells #[.slice qa qn qc, .int .i64 qcame, .int .i64 qsafe] 76))) := Lib.hid (hU.out.alloc hU.out.size _)
        have HSN := Lib.hid hsn
        by_cases hs : qsafe = 0
        · rw [if_pos (hps ▸ hs)] at hsn
          have HSN := Lib.hid hsn
          subst hs
          clear ho hU hq hp hsn hps
          go_wp2
          go_roundg (qs.length - (k + 1))
          case measure => rw [HGG.out]; omega
          case rel => exact ⟨k + 1, rfl, by omega, by rw [HSN.out]; simp, by simp, HB⟩
        · rw [if_neg (fun e => hs (hps.trans e))] at hsn
          have HSN := Lib.hid hsn
          clear ho hU hq hp hsn hps
          go_wp2
          go_roundg (qs.length - (k + 1))
          case measure => rw [HGG.out]; omega
          case rel => exact ⟨k + 1, rfl, by omega, by rw [HSN.out]; simp, by simp, HB⟩
      · obtain rfl : k = qs.length := by omega
        have hle : pendP ((A.fs f).take qs.length) = pendP (A.fs f) := by rw [HQL.out, List.take_length]
        go_wp2
        go_ret
        exact ⟨by rw [show pendA A name = pendP (A.fs f) by simp [pendA, HG.out], ← hle]; rfl, hU.out⟩

end Go.Proofs.Ytmlaojfhmaamcaa
