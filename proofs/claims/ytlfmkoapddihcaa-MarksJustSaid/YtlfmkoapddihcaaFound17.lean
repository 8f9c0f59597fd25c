/- Layer 17: found: the marks whose anchors are there, by rising stamps. -/
import Derived.Test.YtlfmkoapddihcaaBackOp17
import Derived.Test.YtlfmkoapddihcaaMarkP17
import Derived.Test.YtlfmkoapddihcaaRowIn
import Derived.Test.YtlfmkoapddihcaaMarkSort17
import Derived.Test.YtlfmkoapddihcaaStepIn
import Derived.Laws.EntriesVeiled
import Derived.Outline
namespace Go.Proofs.Ytlfmkoapddihcaa
open Go.RowKit
set_option linter.unusedSimpArgs false
set_option linter.unusedVariables false
attribute [local go_sem] Oper.semAt_some
attribute [local go_sem] MapIs.alloc MapIs.drew MapIs.setCell

theorem info_mark : (Try.prog.info? 78).map (fun i => (i.zero, i.size, i.bytes)) = some (some (.agg (Mark.cells ⟨⟨⟨0, 0⟩, 0, 0, 0, 0, 0, 0, 0, 0, 0, ⟨0, 0⟩, 0, 0, ⟨0, 0⟩, ⟨#[]⟩, ⟨#[]⟩, ⟨#[]⟩, ⟨0, 0⟩, false, ⟨0, 0⟩, false⟩, 0, 0⟩).toArray), 28, 248) := by kernel_rfl
theorem op_ty : StructTy Try.prog 39 26 := ⟨fun w => by kernel_rfl, fun w => by kernel_rfl⟩
theorem run_build_mark (o : OpD) (p q : Int) (W : World) : (Instr.build 78 #[(0, .agg (OpD.cells o).toArray), (1, .int .i64 p), (2, .int .i64 q)]).run Try.prog W = .ok (.agg (Mark.cells ⟨o, p, q⟩).toArray) W := by kernel_rfl
theorem run_slice_mark (x : Mark) (W : World) : (Instr.buildSlice 61 1 #[(0, .agg (Mark.cells x).toArray)]).run Try.prog W = .ok (.slice (some ⟨W.heap.size, 0, none⟩) 1 1) (W.alloc (.cells (Mark.cells x).toArray 78)) := by kernel_rfl

set_option maxRecDepth 100000 in
set_option maxHeartbeats 4000000 in
theorem found_any (va vb : Option Addr) (ca cb : Nat) (l : List El) (ms : List OpD) (w : World) (hl : SliceIs El.cells 4 w (.slice va l.length ca) l) (hm : SliceIs OpD.cells 26 w (.slice vb ms.length cb) ms) (hln : l.length ≤ 1000) (hmn : ms.length ≤ 1000) :
    Calls Try.prog 23 #[.slice va l.length ca, .slice vb ms.length cb] w
      fun e w' => ∃ v F, e = .returned v ∧ Own Mark.cells 28 78 w.heap.size w' v F ∧ StableOf stLt keyM (rawMarks (notedP (backXs l)) (backXs ms)) F ∧ Below w.heap.size w w' := by
  have hmm := @run_makeMap Try.prog
  refine (callsIn_wide (n := 5)).1 ?_
  refine callsIn_of_wp_marks Try.func23 rfl trivial ?_ rfl
  simp only [Try.ntmps23, List.size_toArray, List.length_cons, List.length_nil, Nat.reduceAdd, Nat.reduceSub, Array.replicate_succ, Array.replicate_zero, List.push_toArray, List.append_toArray, List.nil_append, List.cons_append]
  gi_wp2
  refine ⟨trivial, ?_⟩
  refine (callsIn_wide.2 (backEl_any va l.length ca _)).mono ?_
  rintro e w' ⟨rfl, rfl⟩
  gi_wp2
  have hB0 : Below w.heap.size w (((w.alloc (.map #[] 0)).alloc (.cells #[.map (some w.heap.size)] 68)).alloc (.cells #[.slice va l.length ca] 22)) := (((Below.refl _ _).alloc (Nat.le_refl _) _).alloc (by simp) _).alloc (by simp; omega) _
  have m0 : MapIs St.val intV (((w.alloc (.map #[] 0)).alloc (.cells #[.map (some w.heap.size)] 68)).alloc (.cells #[.slice va l.length ca] 22)) w.heap.size [] := ((MapIs.made w).alloc _).alloc _
  have p0 : (((w.alloc (.map #[] 0)).alloc (.cells #[.map (some w.heap.size)] 68)).alloc (.cells #[.slice va l.length ca] 22)).cell? ⟨w.heap.size + 1, 0, none⟩ = some (.map (some w.heap.size)) := by go_simp
  have s0 : (((w.alloc (.map #[] 0)).alloc (.cells #[.map (some w.heap.size)] 68)).alloc (.cells #[.slice va l.length ca] 22)).cell? ⟨w.heap.size + 1 + 1, 0, none⟩ = some (.slice va l.length ca) := by go_simp
  have z0 : (((w.alloc (.map #[] 0)).alloc (.cells #[.map (some w.heap.size)] 68)).alloc (.cells #[.slice va l.length ca] 22)).heap.size = w.heap.size + 3 := by simp
  generalize ((w.alloc (.map #[] 0)).alloc (.cells #[.map (some w.heap.size)] 68)).alloc (.cells #[.slice va l.length ca] 22) = W0 at *
  have hl0 := hl.below hB0
  refine range_pre (U := Nat × El) (by omega) (gf := 38) (lb := #[.pointer (some ⟨w.heap.size + 1 + 1, 0, none⟩)]) rfl (enters_of Try.func38 (by kernel_rfl) rfl)
    (fun x => #[.int .i64 x.1, .agg #[.int .i64 x.2.id.n, .int .i64 x.2.id.r, .int .i64 x.2.ch, .bool x.2.gone]]) (fun _ => rfl) (· = w.heap.size) (fun k e => by omega) (backXs l)
    (fun pre W => MapIs St.val intV W w.heap.size (notedP pre) ∧ Ext (· = w.heap.size) W0 W)
    (fun pre W W' h hx => ⟨h.1.ext hx (fun e => by have := h.1.lt; rcases e with e | e <;> omega), h.2.andThen hx (fun i hi e => by rcases e with e | e <;> omega)⟩)
    (backEl_gives 4 (by omega) (w.heap.size + 1 + 1) _ l (· = w.heap.size) W0 hl0 (by omega) s0 (by omega) (fun hne b o m c e => ?_)) ⟨m0, Ext.refl _ _⟩ ?_ ?_
  · cases e
    obtain ⟨_, _, e1, _, _, h4⟩ := hl
    cases e1
    obtain ⟨b', o', e2, h5⟩ := h4 hne
    cases e2
    obtain ⟨x, hx⟩ : ∃ x, l[0]? = some x := by
      cases l with
      | nil => exact absurd rfl hne
      | cons x r => exact ⟨x, rfl⟩
    have := cell_lt (h5 0 x hx 0 _ rfl)
    constructor <;> omega
  · intro lb pre x W ⟨hM, hX⟩ hpx hlt
    gi_wp2
    refine ⟨(Ext.refl _ _).alloc _, ⟨hM.alloc _, hX.alloc _⟩, fun W2 ⟨hM2, hX2⟩ hx2 => ?_⟩
    have hlW := hX.size
    have b0 : W2.cell? ⟨W.heap.size, 0, none⟩ = some (.int .i64 x.2.id.n) := hx2.keep (by go_simp) (by omega)
    have b1 : W2.cell? ⟨W.heap.size, 1, none⟩ = some (.int .i64 x.2.id.r) := hx2.keep (by go_simp) (by omega)
    have q0 := hX2.keep p0 (by omega)
    have hupd : ∀ W, MapIs St.val intV W w.heap.size (notedP pre) → (Instr.mapUpdate 68 (.map (some w.heap.size)) (.agg #[.int .i64 x.2.id.n, .int .i64 x.2.id.r]) (.int .i64 x.1)).run Try.prog W = .ok () (mapPut W w.heap.size (aidx (notedP pre) x.2.id) x.2.id.val (intV x.1)) := fun W hW => hW.update key_stamp und_places x.2.id (intV x.1)
    have HX2 := Lib.hid hX2
    have HP := Lib.hid (hM2.put x.2.id (x.1 : Int))
    clear hx2 hX2
    gi_wp2
    refine ⟨⟨by rw [notedP_snoc]; exact HP.out, HX2.out.mapPut (.inl rfl) _ _ _⟩, mapPut_ext _ _ _ _ _⟩
  · intro W ⟨hM, hX⟩ hK
    have HM := Lib.hid hM
    have HX := Lib.hid hX
    have HK := Lib.hid hK
    have HB0 := Lib.hid hB0
    have HP0 := Lib.hid p0
    clear hM hX hK m0 p0 s0 hl0 hB0
    gi_wp2
    refine ⟨trivial, ?_⟩
    refine (callsIn_wide.2 (backOp_any vb ms.length cb _)).mono ?_
    rintro e w' ⟨rfl, rfl⟩
    gi_wp2
    have hlW := HX.out.size
    have hzW : w.heap.size + 3 < W.heap.size := by
      have := (Array.getElem?_eq_some_iff.1 HK.out).1
      omega
    have hBW : Below w.heap.size w W := Ext.new HB0.out HX.out (fun i hi _ e => by omega) (by omega)
    have pW := HX.out.keep HP0.out (by omega)
    have hn0 : (((W.alloc (.cells #[.func (.func 29) #[] #[.pointer (some ⟨w.heap.size + 1, 0, none⟩)]] 73)).alloc (.cells #[.slice none 0 0] 61)).alloc (.cells #[.slice vb ms.length cb] 23)).heap.size = W.heap.size + 3 := by simp
    have hBB : Below W.heap.size W (((W.alloc (.cells #[.func (.func 29) #[] #[.pointer (some ⟨w.heap.size + 1, 0, none⟩)]] 73)).alloc (.cells #[.slice none 0 0] 61)).alloc (.cells #[.slice vb ms.length cb] 23)) := (((Below.refl _ _).alloc (Nat.le_refl _) _).alloc (by simp) _).alloc (by simp; omega) _
    have hm1 : MapIs St.val intV (((W.alloc (.cells #[.func (.func 29) #[] #[.pointer (some ⟨w.heap.size + 1, 0, none⟩)]] 73)).alloc (.cells #[.slice none 0 0] 61)).alloc (.cells #[.slice vb ms.length cb] 23)) w.heap.size (notedP (backXs l)) := HM.out.below hBB
    have p1 := keepB hBB pW
    have k1 := (hBB.block _ (Array.getElem?_eq_some_iff.1 HK.out).1).trans HK.out
    have f1 : (((W.alloc (.cells #[.func (.func 29) #[] #[.pointer (some ⟨w.heap.size + 1, 0, none⟩)]] 73)).alloc (.cells #[.slice none 0 0] 61)).alloc (.cells #[.slice vb ms.length cb] 23)).cell? ⟨W.heap.size, 0, none⟩ = some (.func (.func 29) #[] #[.pointer (some ⟨w.heap.size + 1, 0, none⟩)]) := by go_simp
    have o1 : (((W.alloc (.cells #[.func (.func 29) #[] #[.pointer (some ⟨w.heap.size + 1, 0, none⟩)]] 73)).alloc (.cells #[.slice none 0 0] 61)).alloc (.cells #[.slice vb ms.length cb] 23)).heap[W.heap.size + 1]? = some (.cells #[.slice none 0 0] 61 (0, 0)) := by
      rw [Below.heap_alloc _ _ _ (by simp)]
      have := World.alloc_heap_new (W.alloc (.cells #[.func (.func 29) #[] #[.pointer (some ⟨w.heap.size + 1, 0, none⟩)]] 73)) (.cells #[.slice none 0 0] 61)
      rwa [World.size_alloc] at this
    have s1 : (((W.alloc (.cells #[.func (.func 29) #[] #[.pointer (some ⟨w.heap.size + 1, 0, none⟩)]] 73)).alloc (.cells #[.slice none 0 0] 61)).alloc (.cells #[.slice vb ms.length cb] 23)).cell? ⟨W.heap.size + 2, 0, none⟩ = some (.slice vb ms.length cb) := by go_simp
    have hB1 : Below w.heap.size w (((W.alloc (.cells #[.func (.func 29) #[] #[.pointer (some ⟨w.heap.size + 1, 0, none⟩)]] 73)).alloc (.cells #[.slice none 0 0] 61)).alloc (.cells #[.slice vb ms.length cb] 23)) := hBW.trans (hBB.mono (by omega))
    have hmm1 := hm.below hB1
    clear HM HX HK HB0 HP0 hBW pW hBB
    generalize ((W.alloc (.cells #[.func (.func 29) #[] #[.pointer (some ⟨w.heap.size + 1, 0, none⟩)]] 73)).alloc (.cells #[.slice none 0 0] 61)).alloc (.cells #[.slice vb ms.length cb] 23) = W1 at *
    refine range_pre (U := Nat × OpD) (by omega) (gf := 39) (lb := #[.pointer (some ⟨W.heap.size + 2, 0, none⟩)]) rfl (enters_of Try.func39 (by kernel_rfl) rfl)
      (fun x => #[.int .i64 x.1, .agg (OpD.cells x.2).toArray]) (fun _ => rfl) (fun k => k = W.heap.size + 1 ∨ W1.heap.size + 1 < k) (fun k e => by omega) (backXs ms)
      (fun pre A => ∃ v, A.heap[W.heap.size + 1]? = some (.cells #[v] 61 (0, 0)) ∧ Own Mark.cells 28 78 (W.heap.size + 5) A v (rawMarks (notedP (backXs l)) pre) ∧ Ext (· = W.heap.size + 1) W1 A)
      (fun pre A A' h hx => ?_)
      (backOp_gives 4 (by omega) (W.heap.size + 2) _ ms _ W1 hmm1 (by omega) s1 (by omega) (fun hne b o m c e => ?_)) ⟨_, o1, Own.nil, Ext.refl _ _⟩ ?_ ?_
    · obtain ⟨v, h1, h2, h3⟩ := h
      have hlt := (Array.getElem?_eq_some_iff.1 h1).1
      exact ⟨v, (hx.block _ hlt (by omega)).trans h1, h2.ext hx (fun b hb e => by have := (h2.blk b hb).1; omega), h3.andThen hx (fun i hi e => by omega)⟩
    · cases e
      obtain ⟨_, _, e1, _, _, h4⟩ := hm
      cases e1
      obtain ⟨b', o', e2, h5⟩ := h4 hne
      cases e2
      obtain ⟨x, hx⟩ : ∃ x, ms[0]? = some x := by
        cases ms with
        | nil => exact absurd rfl hne
        | cons x r => exact ⟨x, rfl⟩
      have := cell_lt (h5 0 x hx 0 _ rfl)
      constructor <;> omega
    · rintro lb pre x A ⟨v, ho, hown, hx⟩ hpx hlt
      have hxl : x.2 ∈ ms := by
        have := hpx.mem (List.mem_append_right pre (List.mem_singleton.2 rfl))
        exact backXs_mem this
      have hpl : (rawMarks (notedP (backXs l)) pre).length ≤ 1000 := by
        have h1 := rawMarks_le (notedP (backXs l)) pre
        have h2 := hpx.length_le
        rw [backXs_length] at h2
        simp at h2
        omega
      gi_wp2_with (refine wpListIn_store_run (T := 39) rfl rfl rfl rfl (run_store_fresh op_ty rfl (OpD.len x.2) (OpD.one x.2)) ?_)
      refine ⟨(Ext.refl _ _).alloc _, ⟨v, ?_, hown.alloc _, hx.alloc _⟩, ?_⟩
      · exact (Below.heap_alloc _ _ _ (Array.getElem?_eq_some_iff.1 ho).1).trans ho
      rintro A2 ⟨v2, ho2, hown2, hxA2⟩ hx2
      have hlA := hx2.size
      rw [World.size_alloc] at hlA
      have hb : ∀ j u, (OpD.cells x.2)[j]? = some u → A2.cell? ⟨A.heap.size, j, none⟩ = some u := fun j u h => hx2.keep (allocd_cells j u h) (by omega)
      have b20 : A2.cell? ⟨A.heap.size, 20, none⟩ = some (.int .i64 x.2.fr.n) := hb 20 _ rfl
      have b21 : A2.cell? ⟨A.heap.size, 21, none⟩ = some (.int .i64 x.2.fr.r) := hb 21 _ rfl
      have b22 : A2.cell? ⟨A.heap.size, 22, none⟩ = some (.bool x.2.fa) := hb 22 _ rfl
      have b23 : A2.cell? ⟨A.heap.size, 23, none⟩ = some (.int .i64 x.2.tr.n) := hb 23 _ rfl
      have b24 : A2.cell? ⟨A.heap.size, 24, none⟩ = some (.int .i64 x.2.tr.r) := hb 24 _ rfl
      have b25 : A2.cell? ⟨A.heap.size, 25, none⟩ = some (.bool x.2.ta) := hb 25 _ rfl
      have fA := hxA2.keep f1 (by omega)
      have pA := hxA2.keep p1 (by omega)
      have mA := hm1.ext hxA2 (by omega)
      have hbnd : ∀ k i, aget (notedP (backXs l)) k = some i → 0 ≤ i ∧ i ≤ 1000 := fun k i h => noted_bound hln k i h
      have HB := Lib.hid hb
      have HO2 := Lib.hid ho2
      clear hb ho2 ho hx2 hx hown hB1 hmm1 hmm k1 o1 s1
      gi_wp2
      refine ⟨by first | trivial | (intros; omega), ?_⟩
      refine (CallsIn.inRound lb (callsIn_wide.2 (at_any (w.heap.size + 1) w.heap.size (notedP (backXs l)) x.2.fr x.2.fa A2 pA mA hbnd))).mono ?_
      rintro e A3 ⟨rfl, hb3⟩
      have c23 := keepB hb3 b23
      have c24 := keepB hb3 b24
      have c25 := keepB hb3 b25
      have fB := keepB hb3 fA
      have pB := keepB hb3 pA
      have mB := mA.below hb3
      have HB3 := Lib.hid hb3
      clear b20 b21 b22 b23 b24 b25 fA pA mA hb3
      gi_wp2
      refine ⟨by first | trivial | (intros; omega), ?_⟩
      refine (CallsIn.inRound lb (callsIn_wide.2 (at_any (w.heap.size + 1) w.heap.size (notedP (backXs l)) x.2.tr x.2.ta A3 pB mB hbnd))).mono ?_
      rintro e A4 ⟨rfl, hb4⟩
      have hb5 := HB3.out.trans (hb4.mono HB3.out.size)
      clear c23 c24 c25 fB pB mB hb4 hbnd HB3
      have hb6 : ∀ j u, (OpD.cells x.2)[j]? = some u → A4.cell? ⟨A.heap.size, 0 + j, none⟩ = some u := fun j u h => by rw [Nat.zero_add]; exact keepB hb5 (HB.out j u h)
      have HLD := Lib.hid (load_of_cells (P := Try.prog) op_ty (OpD.len x.2) hb6)
      have ho4 := (hb5.block _ (Array.getElem?_eq_some_iff.1 HO2.out).1).trans HO2.out
      have hc4 : A4.cell? ⟨W.heap.size + 1, 0, none⟩ = some v2 := by simp [World.cell?, ho4]
      have hown4 := hown2.ext (Ext.of_below (S := fun _ => False) hb5) (fun _ _ f => f)
      have hx4 := hxA2.then_below hb5
      have hx24 : Ext (fun _ => False) A2 A4 := Ext.of_below hb5
      have HO4 := Lib.hid ho4
      have HX4 := Lib.hid hx4
      have HX24 := Lib.hid hx24
      have hs4 := hx4.size
      have hs24 := hx24.size
      clear ho4 hx4 hx24 hb5 hb6 HO2 hown2 hxA2 HB
      have hsn : rawMarks (notedP (backXs l)) (pre ++ [x]) = rawMarks (notedP (backXs l)) pre ++ (markOf (notedP (backXs l)) x.2).toList := rawMarks_snoc _ _ _
      cases hp : (aget (notedP (backXs l)) x.2.fr).isSome with
      | false =>
        have HSN := Lib.hid hsn
        clear hsn
        gi_wp2
        refine ⟨⟨v2, HO4.out, ?_, HX4.out⟩, HX24.out.mono (fun _ _ f => f.elim)⟩
        rw [HSN.out]
        simpa [markOf, hp] using hown4
      | true =>
        cases hq : (aget (notedP (backXs l)) x.2.tr).isSome with
        | false =>
          have HSN := Lib.hid hsn
          clear hsn
          gi_wp2
          refine ⟨⟨v2, HO4.out, ?_, HX4.out⟩, HX24.out.mono (fun _ _ f => f.elim)⟩
          rw [HSN.out]
          simpa [markOf, hp, hq] using hown4
        | true =>
          have hmk : markOf (notedP (backXs l)) x.2 = some ⟨x.2, atI (notedP (backXs l)) x.2.fr x.2.fa, atI (notedP (backXs l)) x.2.tr x.2.ta⟩ := by simp [markOf, hp, hq]
          rw [hmk] at hsn
          have HSN := Lib.hid hsn
          clear hsn hmk
          generalize atI (notedP (backXs l)) x.2.fr x.2.fa = p0 at *
          generalize atI (notedP (backXs l)) x.2.tr x.2.ta = q0 at *
          obtain ⟨i0, hi, hz0, hz1', hz2⟩ := info_parts info_mark
          gi_wp2_with (first
            | ((with_reducible_and_instances refine wpListIn_load_run (o := ⟨some 49, _, _, _, _, _⟩) (x := .tmp 11) ?_ ?_ ?_ HLD.out ?_); rfl; rfl; rfl)
            | ((with_reducible_and_instances refine wpListIn_build3_run (o := ⟨some 52, _, _, _, _, _⟩) (x0 := .tmp 49) (x1 := .tmp 50) (x2 := .tmp 51) ?_ ?_ ?_ ?_ ?_ (run_build_mark x.2 p0 q0 A4) ?_); rfl; rfl; rfl; rfl; rfl)
            | ((with_reducible_and_instances refine wpListIn_slice1_run (o := ⟨some 53, _, _, _, _, _⟩) (x0 := .tmp 52) ?_ ?_ ?_ (run_slice_mark ⟨x.2, p0, q0⟩ A4) ?_); rfl; rfl; rfl)
            | (gi_at_builtin; refine wpListIn_append_struct rfl _ _ _ rfl i0 (.agg (Mark.cells ⟨⟨⟨0, 0⟩, 0, 0, 0, 0, 0, 0, 0, 0, 0, ⟨0, 0⟩, 0, 0, ⟨0, 0⟩, ⟨#[]⟩, ⟨#[]⟩, ⟨#[]⟩, ⟨0, 0⟩, false, ⟨0, 0⟩, false⟩, 0, 0⟩).toArray) 248 Try.underlying61 hi hz0 hz1' hz2 rfl (by omega) Mark.len Mark.one rfl (hown4.alloc _) ⟨x.2, p0, q0⟩ A4.heap.size 1 rfl (fun j u h => allocd_cells j u h) (by unfold maxLen; omega) (by omega) (by simp; omega) ?_))
          intro v' A5 hown5 hx5
          obtain ⟨g5, c5, n5, rfl⟩ : ∃ g5 c5 n5, v' = .slice (some ⟨g5, 0, none⟩) n5 c5 := by
            rcases hown5.eq_slice with ⟨_, e⟩ | ⟨g5, c5, e, _, _⟩
            · simp at e
            · exact ⟨g5, c5, _, e⟩
          have hne : ∀ b, v2.ownBlock = some b → W.heap.size + 5 ≤ b := fun b hb => (hown4.blk b hb).1
          have hlt4 := (Array.getElem?_eq_some_iff.1 HO4.out).1
          have ho5 : A5.heap[W.heap.size + 1]? = some (.cells #[v2] 61 (0, 0)) := (hx5.block _ (by simp; omega) (fun e => by have := hne _ e; omega)).trans ((Below.heap_alloc _ _ _ hlt4).trans HO4.out)
          have hf5 : A5.frozen? ⟨W.heap.size + 1, 0, none⟩ = false := by simp [World.frozen?, ho5]
          have hc5 : A5.cell? ⟨W.heap.size + 1, 0, none⟩ = some v2 := by simp [World.cell?, ho5]
          have hx6 : Ext (· = W.heap.size + 1) A5 (A5.setCell ⟨W.heap.size + 1, 0, none⟩ (.slice (some ⟨g5, 0, none⟩) n5 c5)) := (Ext.refl (· = W.heap.size + 1) A5).setCell (p := ⟨W.heap.size + 1, 0, none⟩) (.inr rfl) (.slice (some ⟨g5, 0, none⟩) n5 c5)
          have r1 : (A5.setCell ⟨W.heap.size + 1, 0, none⟩ (.slice (some ⟨g5, 0, none⟩) n5 c5)).heap[W.heap.size + 1]? = some (.cells #[.slice (some ⟨g5, 0, none⟩) n5 c5] 61 (0, 0)) := heap_setCell_same A5 _ 0 #[v2] _ (.slice (some ⟨g5, 0, none⟩) n5 c5) ho5
          have r2 := hown5.ext hx6 (fun b hb e => by have := (hown5.blk b hb).1; omega)
          have r3 : Ext (· = W.heap.size + 1) W1 (A5.setCell ⟨W.heap.size + 1, 0, none⟩ (.slice (some ⟨g5, 0, none⟩) n5 c5)) := ((HX4.out.alloc _).andThen hx5 (fun i hi e => by have := hne _ e; omega)).andThen hx6 (fun i hi e => e)
          have r4 : Ext (fun k => k = W.heap.size + 1 ∨ W1.heap.size + 1 < k) A2 (A5.setCell ⟨W.heap.size + 1, 0, none⟩ (.slice (some ⟨g5, 0, none⟩) n5 c5)) := ((((HX24.out.alloc _).mono (fun _ _ f => f.elim)).andThen (S := fun k => k = W.heap.size + 1 ∨ W1.heap.size + 1 < k) hx5 (fun i hi e => by have := hne _ e; omega))).andThen hx6 (fun i hi e => .inl e)
          have R1 := Lib.hid r1
          have R2 := Lib.hid r2
          have R3 := Lib.hid r3
          have R4 := Lib.hid r4
          clear r1 r2 r3 r4 hx6 hx5 hown5 hown4 ho5 HO4 HX4 HX24 HLD
          gi_wp2
          exact ⟨⟨_, R1.out, by rw [HSN.out]; exact R2.out, R3.out⟩, R4.out⟩
    · rintro A ⟨v, ho, hown, hx⟩ hK
      have hc : A.cell? ⟨W.heap.size + 1, 0, none⟩ = some v := by simp [World.cell?, ho]
      have hrl : (rawMarks (notedP (backXs l)) (backXs ms)).length ≤ 1000000 := by
        have h1 := rawMarks_le (notedP (backXs l)) (backXs ms)
        rw [backXs_length] at h1
        omega
      have hkA := (hx.block _ (Array.getElem?_eq_some_iff.1 k1).1 (by omega)).trans k1
      have hne : ∀ b, v.ownBlock = some b → W.heap.size + 5 ≤ b := fun b hb => (hown.blk b hb).1
      have HO := Lib.hid ho
      have HB1 := Lib.hid (Ext.new hB1 hx (fun i hi _ e => by omega) (by omega))
      have hxs := hx.size
      clear ho hB1 hx hmm1 hm1 p1 f1 o1 s1 k1 hm hl hmm
      gi_wp2
      refine ⟨trivial, ?_⟩
      refine (callsIn_wide.2 (sortStable_own hown hrl)).mono ?_
      rintro e A6 ⟨⟨u, rfl⟩, hq, hx6⟩
      have hk6 := (hx6.block _ (Array.getElem?_eq_some_iff.1 hkA).1 (fun e => by have := hne _ e; omega)).trans hkA
      have hK6 := (hx6.block _ (Array.getElem?_eq_some_iff.1 hK).1 (fun e => by have := hne _ e; omega)).trans hK
      have ho6 := (hx6.block _ (Array.getElem?_eq_some_iff.1 HO.out).1 (fun e => by have := hne _ e; omega)).trans HO.out
      have hc6 : A6.cell? ⟨W.heap.size + 1, 0, none⟩ = some v := by simp [World.cell?, ho6]
      have HB6 := Lib.hid (Ext.new HB1.out hx6 (fun i hi _ e => by have := hne _ e; omega) (by omega))
      clear hx6 hown hkA hK hc HO ho6
      gi_wp2
      rw [hn0] at hK6
      rw [z0] at hk6
      have hx7 : Ext (· = (W.heap.size + 3)) A6 (A6.putObj (W.heap.size + 3) (.deferred none)) := ext_putObjP _ _ _
      have hk7 := (hx7.block _ (Array.getElem?_eq_some_iff.1 hk6).1 (by omega)).trans hk6
      have hx8 : Ext (· = (w.heap.size + 3)) (A6.putObj (W.heap.size + 3) (.deferred none)) ((A6.putObj (W.heap.size + 3) (.deferred none)).putObj (w.heap.size + 3) (.deferred none)) := ext_putObjP _ _ _
      have hs6 := HB6.out.size
      have hs7 := hx7.size
      obtain ⟨F, hF1, hF2⟩ := hq.out
      refine ⟨by simp, .inl ⟨_, _, rfl, run_takeDeferred hK6, ?_⟩⟩
      refine ⟨by simp, .inl ⟨_, _, rfl, run_takeDeferred hk7, ?_⟩⟩
      refine ⟨_, results_tmp rfl _ _ _, v, F, rfl, ?_, hF1, ?_⟩
      · exact ((hF2.ext hx7 (fun b hb e => by have := (hF2.blk b hb).1; omega)).ext hx8 (fun b hb e => by have := (hF2.blk b hb).1; omega)).mono (by omega)
      · exact Ext.new (Ext.new HB6.out hx7 (fun i hi _ e => by omega) (by omega)) hx8 (fun i hi _ e => by omega) (by omega)

end Go.Proofs.Ytlfmkoapddihcaa
