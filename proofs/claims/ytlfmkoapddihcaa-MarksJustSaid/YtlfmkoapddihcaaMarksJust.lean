/- The law MarksJust: a mark that is anchored as Anchors says is had by just those that it was asked for. -/
import Derived.Test.YtlfmkoapddihcaaClearP17
import Derived.Test.YtlfmkoapddihcaaGrowP17
import Derived.Test.YtlfmkoapddihcaaRStyle17
import Derived.Test.YtlfmkoapddihcaaTwo17
import Derived.Test.YtlfmkoapddihcaaOrderP17
import Derived.Test.YtlfmkoapddihcaaSized17
import Derived.Test.YtlfmkoapddihcaaAlive17
import Derived.Test.YtlfmkoapddihcaaAppend
import Derived.Test.YtlfmkoapddihcaaHand
import Derived.Test.YtlfmkoapddihcaaStepIn
import Derived.Test.YtlfmkoapddihcaaRows
import Derived.IntWalk
import Derived.BigQuiet
import Derived.Deep.QuietTactic
import Derived.Deep.RegionHeld3
import Derived.Deep.CutBlock
import Derived.Deep.DeepCutAuto
import Derived.ProofKit
import Derived.OpenShut
import Derived.ShutString
import Derived.ChangeOld
import Derived.Below
namespace Go.Proofs.Ytlfmkoapddihcaa
open Go.ChangeShapes Go.WideShapes Go.ChangeAt Go.RowKit Go.Deep
set_option linter.unusedSimpArgs false
set_option linter.unusedVariables false

/-- The mark that is put there. -/
def justOp (an ar bn br : Int) (aa ba : Bool) : OpD := ⟨⟨1048576, 7⟩, 0, 0, 0, 0, 0, 0, 0, 0, 0, ⟨0, 0⟩, 0, 0, ⟨0, 0⟩, ⟨#[]⟩, ⟨#[111, 119, 110]⟩, ⟨#[121, 101, 115]⟩, ⟨an, ar⟩, aa, ⟨bn, br⟩, ba⟩
theorem info_op : (Try.prog.info? 39).map (fun i => (i.zero, i.size, i.bytes)) = some (some (.agg (OpD.cells ⟨⟨0, 0⟩, 0, 0, 0, 0, 0, 0, 0, 0, 0, ⟨0, 0⟩, 0, 0, ⟨0, 0⟩, ⟨#[]⟩, ⟨#[]⟩, ⟨#[]⟩, ⟨0, 0⟩, false, ⟨0, 0⟩, false⟩).toArray), 26, 232) := by kernel_rfl
theorem Styled.mono {l : List El} {ms : List OpD} {base base' n : Nat} {W : World} {u : Value} (h : Styled l ms base W n u) (hb : base' ≤ base) : Styled l ms base' W n u := by
  obtain ⟨vs, h1, h2, h3⟩ := h
  exact ⟨vs, h1.mono hb, h2, fun i s hs => by obtain ⟨al, h4, h5⟩ := h3 i s hs; exact ⟨al, h4.mono hb, h5⟩⟩
theorem HasL.len {l : List El} {ms : List OpD} {i : Int} {al : List Atr} (h : HasL l ms i al) : al.length ≤ ms.length := by
  have hn : (al.map (·.name)).Nodup := List.pairwise_map.2 (h.1.imp fun hlt e => by rw [e] at hlt; exact List.lt_irrefl _ hlt)
  have := hn.length_le_of_subset (l₂ := ms.map (·.name)) fun x hx => by
    obtain ⟨a, ha, rfl⟩ := List.mem_map.1 hx
    obtain ⟨_, k, o, hw, _⟩ := (h.2 a).1 ha
    exact List.mem_map.2 ⟨o, List.mem_of_getElem? hw.1, hw.2.2.1⟩
  simpa using this
theorem run_slice_op (x : OpD) (W : World) : (Instr.buildSlice 23 1 #[(0, .agg (OpD.cells x).toArray)]).run Try.prog W = .ok (.slice (some ⟨W.heap.size, 0, none⟩) 1 1) (W.alloc (.cells (OpD.cells x).toArray 39)) := by kernel_rfl
theorem exec_slice1 {P : Program} {o : Oper} {ρ : Operand → Value} {T : TypeId} {n : Nat} {x0 : Operand} {v0 v : Value} {W W2 : World} (ho : o.op = .buildSlice T n #[(0, x0)]) (hx : ρ x0 = v0) (h : (Instr.buildSlice T n #[(0, v0)]).run P W = .ok v W2) : (execOp ρ o).run P W = .ok (.value v) W2 := by
  unfold execOp; simp [ho, hx, h, Result.andThen]
/-- The mark's own. -/
def attrO : Atr := ⟨⟨#[111, 119, 110]⟩, ⟨#[121, 101, 115]⟩⟩
def cntO (l : List Atr) : Nat := (l.filter fun a => decide (a = attrO)).length
def anyO (l : List Atr) : Bool := l.any fun a => decide (a = attrO)
theorem cntO_le (l : List Atr) (j : Nat) : cntO (l.take j) ≤ l.length := by
  unfold cntO
  exact Nat.le_trans (List.length_filter_le _ _) (by rw [List.length_take]; omega)
theorem cntO_snoc (l : List Atr) (t : Atr) : cntO (l ++ [t]) = cntO l + if t = attrO then 1 else 0 := by
  unfold cntO
  rw [List.filter_append, List.length_append]
  by_cases h : t = attrO <;> simp [h]
theorem anyO_snoc (l : List Atr) (t : Atr) : anyO (l ++ [t]) = (anyO l || decide (t = attrO)) := by simp [anyO]
theorem anyO_iff (l : List Atr) : anyO l = true ↔ attrO ∈ l := by simp [anyO]
theorem cntO_strict : ∀ {l : List Atr}, StrictN l → (cntO l = 1 ↔ attrO ∈ l)
  | [], _ => by simp [cntO]
  | x :: l, h => by
    have ih := cntO_strict (List.pairwise_cons.1 h).2
    by_cases hx : x = attrO
    · subst hx
      have hn : ¬ attrO ∈ l := fun hm => by
        have := (List.pairwise_cons.1 h).1 _ hm
        exact List.lt_irrefl _ this
      have h0 : cntO l = 0 := by
        unfold cntO
        rw [List.length_eq_zero_iff, List.filter_eq_nil_iff]
        intro a ha
        rw [decide_eq_true_iff]
        exact fun e => hn (e ▸ ha)
      have : cntO (attrO :: l) = cntO l + 1 := by simp [cntO]
      rw [this, h0]
      simp
    · have : cntO (x :: l) = cntO l := by simp [cntO, hx]
      rw [this, ih]
      constructor
      · intro hm; exact List.mem_cons_of_mem _ hm
      · intro hm; exact (List.mem_cons.1 hm).resolve_left (fun e => hx e.symm)
theorem just_key {l : List El} {ms : List OpD} {o : OpD} {i : Int} {al bl : List Atr} {y : El} {f t c : Nat} (ha : HasL l ms i al) (hb : HasL l (ms ++ [o]) i bl) (hlt : ∀ x ∈ ms, stLt x.id o.id) (h1 : o.name = attrO.name) (h2 : o.value = attrO.value)
    (hcov : y.gone = false → (Cov l o i ↔ f ≤ c ∧ c ≤ t)) : ((y.gone = false ∧ f ≤ c ∧ c ≤ t) → cntO bl = 1) ∧ (¬ (f ≤ c ∧ c ≤ t) → y.gone = false → cntO bl = 1 → anyO al = true) := by
  have hs := cntO_strict hb.1
  constructor
  · rintro ⟨hg, h⟩
    refine hs.2 ((hasL_own hb hlt ((hcov hg).2 h) attrO h1.symm).2 ⟨?_, h2.symm⟩)
    rw [h2]
    intro e
    cases e
  · intro h hg hc
    rw [anyO_iff, ← hasL_not ha hb (fun hcv => h ((hcov hg).1 hcv))]
    exact hs.1 hc

theorem ancP_ok2 {ids : List St} {f t : Int} {g : Bool} (h : (ancP ids f t g).2.2 = true) : 0 ≤ f ∧ f < t ∧ t ≤ ids.length := by
  by_cases hb : f < 0 ∨ t ≤ f ∨ (ids.length : Int) < t
  · rw [ancP_bad hb] at h; cases h
  · omega

set_option maxRecDepth 100000 in
set_option maxHeartbeats 30000000 in
theorem marksJust_walk (v0 v1 : Value) (l : List El) (ms : List OpD) (x : Rg) (w : World) (hl : SliceIs El.cells 4 w v0 l) (hm : SliceIs OpD.cells 26 w v1 ms) (hln : l.length ≤ 4398046510976) :
    Calls Try.prog 6 #[v0, v1, .agg #[.int .i64 x.lo, .int .i64 x.hi, .bool x.grow]] w fun e w' => e = .returned (.bool true) ∧ Below w.heap.size w w' := by
  obtain ⟨va, vc, rfl, hcap, hmax, _⟩ := id hl
  obtain ⟨vb, cb, rfl, hcb, hmb, _⟩ := id hm
  unfold maxLen at hmax hmb
  have hB0 : Below w.heap.size w (w.alloc (.cells #[.int .i64 x.lo, .int .i64 x.hi, .bool x.grow] 42)) := (Below.refl _ _).alloc (Nat.le_refl _) _
  have hlW := hl.below hB0
  have hmW := hm.below hB0
  go_enter Try.func6, Try.ntmps6
  go_wp2_with fail
  refine (few_any va vb vc cb l.length ms.length _).mono ?_
  rintro e w1 ⟨rfl, rfl⟩
  by_cases hf : ¬ (l.length ≤ 60 ∧ ms.length ≤ 30)
  · rw [decide_eq_false hf]
    go_wp2_with fail
    refine (anchors_any va vc l x.lo x.hi x.grow _ hlW hln).mono ?_
    rintro e w2 ⟨rfl, hb2⟩
    obtain ⟨A, hA⟩ : ∃ A, ancP ((shownL l).map (·.id)) x.lo x.hi x.grow = A := ⟨_, rfl⟩
    have HA := Lib.hid hA
    rw [hA]
    clear hA
    obtain ⟨⟨⟨an, ar⟩, aa⟩, ⟨⟨bn, br⟩, ba⟩, ok⟩ := A
    simp only [ancV]
    have hb2z := hb2.size
    have hB3 := ((hB0.trans (hb2.mono hB0.size)).alloc (Nat.le_trans hB0.size hb2.size) (.cells #[.int .i64 an, .int .i64 ar, .bool aa] 37)).alloc (Nat.le_trans (Nat.le_trans hB0.size hb2.size) (by simp)) (.cells #[.int .i64 bn, .int .i64 br, .bool ba] 37)
    clear hb2 hlW hmW hl hm hB0 hb2z
    go_wp2_with fail
    refine (alive_any _).mono ?_
    rintro e w5 ⟨rfl, b5⟩
    have hBB := hB3.trans (b5.mono hB3.size)
    clear b5 hB3
    go_wp2_with fail
    go_ret
    exact ⟨rfl, hBB⟩
  · have hf := Classical.not_not.1 hf
    rw [decide_eq_true hf]
    go_wp2_with fail
    refine (anchors_any va vc l x.lo x.hi x.grow _ hlW hln).mono ?_
    rintro e w2 ⟨rfl, hb2⟩
    obtain ⟨A, hA⟩ : ∃ A, ancP ((shownL l).map (·.id)) x.lo x.hi x.grow = A := ⟨_, rfl⟩
    have HA := Lib.hid hA
    rw [hA]
    clear hA
    obtain ⟨⟨⟨an, ar⟩, aa⟩, ⟨⟨bn, br⟩, ba⟩, ok⟩ := A
    simp only [ancV]
    have hb2z := hb2.size
    have hB3 := ((hB0.trans (hb2.mono hB0.size)).alloc (Nat.le_trans hB0.size hb2.size) (.cells #[.int .i64 an, .int .i64 ar, .bool aa] 37)).alloc (Nat.le_trans (Nat.le_trans hB0.size hb2.size) (by simp)) (.cells #[.int .i64 bn, .int .i64 br, .bool ba] 37)
    have hb23 := ((Below.refl w2.heap.size w2).alloc (Nat.le_refl _) (.cells #[.int .i64 an, .int .i64 ar, .bool aa] 37)).alloc (by simp) (.cells #[.int .i64 bn, .int .i64 br, .bool ba] 37)
    have x0 : w2.cell? ⟨w.heap.size, 0, none⟩ = some (.int .i64 x.lo) := keepB hb2 (by go_simp)
    have x1 : w2.cell? ⟨w.heap.size, 1, none⟩ = some (.int .i64 x.hi) := keepB hb2 (by go_simp)
    have hl3 := (hlW.below hb2).below hb23
    have hm3 := (hmW.below hb2).below hb23
    replace x0 := keepB hb23 x0
    replace x1 := keepB hb23 x1
    have a0 : ((w2.alloc (.cells #[.int .i64 an, .int .i64 ar, .bool aa] 37)).alloc (.cells #[.int .i64 bn, .int .i64 br, .bool ba] 37)).cell? ⟨w2.heap.size, 0, none⟩ = some (.int .i64 an) := by go_simp
    have a1 : ((w2.alloc (.cells #[.int .i64 an, .int .i64 ar, .bool aa] 37)).alloc (.cells #[.int .i64 bn, .int .i64 br, .bool ba] 37)).cell? ⟨w2.heap.size, 1, none⟩ = some (.int .i64 ar) := by go_simp
    have a2 : ((w2.alloc (.cells #[.int .i64 an, .int .i64 ar, .bool aa] 37)).alloc (.cells #[.int .i64 bn, .int .i64 br, .bool ba] 37)).cell? ⟨w2.heap.size, 2, none⟩ = some (.bool aa) := by go_simp
    have b0 : ((w2.alloc (.cells #[.int .i64 an, .int .i64 ar, .bool aa] 37)).alloc (.cells #[.int .i64 bn, .int .i64 br, .bool ba] 37)).cell? ⟨w2.heap.size + 1, 0, none⟩ = some (.int .i64 bn) := by go_simp
    have b1 : ((w2.alloc (.cells #[.int .i64 an, .int .i64 ar, .bool aa] 37)).alloc (.cells #[.int .i64 bn, .int .i64 br, .bool ba] 37)).cell? ⟨w2.heap.size + 1, 1, none⟩ = some (.int .i64 br) := by go_simp
    have b2 : ((w2.alloc (.cells #[.int .i64 an, .int .i64 ar, .bool aa] 37)).alloc (.cells #[.int .i64 bn, .int .i64 br, .bool ba] 37)).cell? ⟨w2.heap.size + 1, 2, none⟩ = some (.bool ba) := by go_simp
    obtain ⟨hf1, hf2⟩ := hf
    clear hb2 hb23 hB0 hlW hl hmW hm hb2z
    go_upto_region 3 with fail
    generalize ((w2.alloc (.cells #[.int .i64 an, .int .i64 ar, .bool aa] 37)).alloc (.cells #[.int .i64 bn, .int .i64 br, .bool ba] 37)) = W3 at *
    generalize w2.heap.size = z2 at *
    have HB3 := Lib.hid hB3
    have HL3 := Lib.hid hl3
    have HM3 := Lib.hid hm3
    clear hB3 hl3 hm3
    cases ok with
    | false =>
      go_wp2_with fail
      refine (alive_any _).mono ?_
      rintro e w5 ⟨rfl, b5⟩
      have hBB := HB3.out.trans (b5.mono HB3.out.size)
      clear b5
      go_wp2_with fail
      go_ret
      exact ⟨rfl, hBB⟩
    | true =>
      obtain ⟨t0, t1, t2⟩ := ancP_ok2 (show (ancP ((shownL l).map (·.id)) x.lo x.hi x.grow).2.2 = true by rw [HA.out])
      rw [List.length_map] at t2
      obtain ⟨fn, hfn⟩ : ∃ fn : Nat, x.lo = fn := ⟨x.lo.toNat, by omega⟩
      obtain ⟨tn, htn⟩ : ∃ tn : Nat, x.hi = (tn : Int) + 1 := ⟨x.hi.toNat - 1, by omega⟩
      have hA2 := HA.out
      rw [hfn, htn] at hA2
      have HA2 := Lib.hid hA2
      rw [htn] at x1
      rw [hfn] at x0
      have hft : fn ≤ tn := by omega
      have htl : tn + 1 ≤ (shownL l).length := by omega
      have hsl : (shownL l).length ≤ 60 := Nat.le_trans (shownL_le l) hf1
      have HFN := Lib.hid hfn
      have HTN := Lib.hid htn
      clear t0 t1 t2 hA2 HA hfn htn
      go_wp2_with fail
      go_loopg [11] l.length (fun g iv wr => ∃ k : Nat, g = l.length - k ∧ k ≤ l.length ∧ iv = .int .i64 k ∧ Hid (∀ j y, j < k → l[j]? = some y → placeOf l y.id = some j) ∧ Below W3.heap.size W3 wr)
      case atStart => exact ⟨0, by omega, by omega, rfl, Lib.hid (fun j y hj => absurd hj (by omega)), Below.refl _ _⟩
      case round =>
        obtain ⟨k, hg, hk, rfl, hU, hB⟩ := hrel
        have HG := Lib.hid hg
        have HB := Lib.hid hB
        clear hg
        by_cases hkl : k < l.length
        · obtain ⟨y, hy⟩ : ∃ y, l[k]? = some y := ⟨_, List.getElem?_eq_getElem hkl⟩
          have hlr := HL3.out.below hB
          obtain ⟨_, _, e1, _, _, hh⟩ := id hlr
          cases e1
          obtain ⟨b, o, rfl, hcc⟩ := hh (by intro e; rw [e] at hy; simp at hy)
          have y0 : wr.cell? ⟨b, o + k * 4, none⟩ = some (.int .i64 y.id.n) := hcc k y hy 0 _ rfl
          have y1 : wr.cell? ⟨b, o + k * 4 + 1, none⟩ = some (.int .i64 y.id.r) := hcc k y hy 1 _ rfl
          have hkk : (k : Int) < (l.length : Int) := by omega
          have hpc := place_any (some ⟨b, o, none⟩) vc l y.id
          have HLR := Lib.hid hlr
          have HY := Lib.hid hy
          have HPC := Lib.hid hpc
          clear hcc hh hB hlr hpc hy
          go_wp2_with fail
          refine (HPC.out _ HLR.out (by omega)).mono ?_
          rintro e w5 ⟨rfl, b5⟩
          clear HPC HLR y0 y1
          by_cases hpl : placeI l y.id = (k : Int)
          · have hpo : placeOf l y.id = some k := by
                unfold placeI at hpl
                cases hp : placeOf l y.id with
                | none => rw [hp] at hpl; simp only at hpl; omega
                | some i => rw [hp] at hpl; simp only at hpl; have : i = k := by omega
                            rw [this]
            have HPO := Lib.hid hpo
            have hB5 := HB.out.trans (b5.mono HB.out.size)
            rw [hpl]
            clear hpo hpl b5
            go_wp2_with fail
            go_roundg (l.length - (k + 1))
            case measure => rw [HG.out]; omega
            case rel => exact ⟨k + 1, rfl, by omega, by simp, Lib.hid (fun j z hj hz => by
              by_cases hjk : j < k
              · exact hU.out j z hjk hz
              · obtain rfl : j = k := by omega
                rw [HY.out] at hz; cases hz; exact HPO.out), hB5⟩
          · have hpb : -1 ≤ placeI l y.id ∧ placeI l y.id ≤ 60 := by
                unfold placeI
                cases hp : placeOf l y.id with
                | none => simp
                | some i => have := placeOf_lt hp; simp; omega
            generalize placeI l y.id = pz at *
            have hpn : (pz != (k : Int)) = true := by simpa using hpl
            have hB5 := HB3.out.trans ((HB.out.trans (b5.mono HB.out.size)).mono HB3.out.size)
            clear b5
            go_wp2_with fail
            refine (alive_any _).mono ?_
            rintro e w6 ⟨rfl, b6⟩
            have hB6 := hB5.trans (b6.mono hB5.size)
            clear b6
            go_wp2_with fail
            go_ret
            exact ⟨rfl, hB6⟩
        · obtain rfl : k = l.length := by omega
          have huq : Uniq l := fun i y hy => hU.out i y (List.getElem?_eq_some_iff.1 hy).1 hy
          have HUQ := Lib.hid huq
          clear huq hU HG HB
          have HL3b := Lib.hid (HL3.out.below hB)
          have HM3b := Lib.hid (HM3.out.below hB)
          have HB3b := Lib.hid (HB3.out.trans (hB.mono HB3.out.size))
          replace a0 := keepB hB a0
          replace a1 := keepB hB a1
          replace a2 := keepB hB a2
          replace b0 := keepB hB b0
          replace b1 := keepB hB b1
          replace b2 := keepB hB b2
          replace x0 := keepB hB x0
          replace x1 := keepB hB x1
          clear hB HL3 HM3 HB3
          generalize wr = W3b at *
          have hbo := (Below.refl W3b.heap.size W3b).alloc (Nat.le_refl _) (.cells (OpD.cells (justOp an ar bn br aa ba)).toArray 39)
          have HO4 : Hid (∀ j u, (OpD.cells (justOp an ar bn br aa ba))[j]? = some u → (W3b.alloc (.cells (OpD.cells (justOp an ar bn br aa ba)).toArray 39)).cell? ⟨W3b.heap.size, j, none⟩ = some u) := Lib.hid (fun j u h => allocd_cells j u h)
          have o0 : (W3b.alloc (.cells (OpD.cells (justOp an ar bn br aa ba)).toArray 39)).cell? ⟨W3b.heap.size, 0, none⟩ = some (.int .i64 1048576) := allocd_cells 0 _ rfl
          have o1 : (W3b.alloc (.cells (OpD.cells (justOp an ar bn br aa ba)).toArray 39)).cell? ⟨W3b.heap.size, 1, none⟩ = some (.int .i64 7) := allocd_cells 1 _ rfl
          replace x0 := cell_alloc x0 (.cells (OpD.cells (justOp an ar bn br aa ba)).toArray 39)
          replace x1 := cell_alloc x1 (.cells (OpD.cells (justOp an ar bn br aa ba)).toArray 39)
          have HL4 := Lib.hid (HL3b.out.below hbo)
          have HM4 := Lib.hid (HM3b.out.below hbo)
          have HB4 := Lib.hid (HB3b.out.alloc HB3b.out.size (.cells (OpD.cells (justOp an ar bn br aa ba)).toArray 39))
          clear hbo HL3b HM3b HB3b
          go_upto_region 11 with (refine wpList_store_run (T := 39) (v := .agg (OpD.cells (justOp an ar bn br aa ba)).toArray) rfl rfl rfl rfl (run_store_fresh op_ty rfl (OpD.len (justOp an ar bn br aa ba)) (OpD.one (justOp an ar bn br aa ba))) ?_)
          generalize W3b.alloc (.cells (OpD.cells (justOp an ar bn br aa ba)).toArray 39) = W4 at *
          generalize W3b.heap.size = z3 at *
          clear a0 a1 a2 b0 b1 b2
          have HL5 := HL4
          have HM5 := HM4
          have HB5 := HB4
          have HO5 := HO4
          clear HL4 HM4 HB4 HO4
          generalize W4 = W5 at *
          go_wp2_with fail
          go_loopg [13] ms.length (fun g iv wr => ∃ k : Nat, g = ms.length - k ∧ k ≤ ms.length ∧ iv = .int .i64 k ∧ Hid (∀ j (y : OpD), j < k → ms[j]? = some y → stLt y.id ⟨1048576, 7⟩) ∧ Below W5.heap.size W5 wr)
          case atStart => exact ⟨0, by omega, by omega, rfl, Lib.hid (fun j y hj => absurd hj (by omega)), Below.refl _ _⟩
          case round =>
            obtain ⟨k, hg, hk, rfl, hU, hB⟩ := hrel
            have HG := Lib.hid hg
            have HB := Lib.hid hB
            clear hg
            by_cases hkl : k < ms.length
            · obtain ⟨y, hy⟩ : ∃ y, ms[k]? = some y := ⟨_, List.getElem?_eq_getElem hkl⟩
              obtain ⟨_, _, e1, _, _, hh⟩ := HM5.out.below hB
              cases e1
              obtain ⟨b, o, rfl, hcc⟩ := hh (by intro e; rw [e] at hy; simp at hy)
              have y0 : wr.cell? ⟨b, o + k * 26, none⟩ = some (.int .i64 y.id.n) := hcc k y hy 0 _ rfl
              have y1 : wr.cell? ⟨b, o + k * 26 + 1, none⟩ = some (.int .i64 y.id.r) := hcc k y hy 1 _ rfl
              have g0 := keepB hB o0
              have g1 := keepB hB o1
              have hkk : (k : Int) < (ms.length : Int) := by omega
              have HY := Lib.hid hy
              obtain ⟨c, hc⟩ : ∃ c, cmpS ⟨y.id.n, y.id.r⟩ ⟨1048576, 7⟩ = c := ⟨_, rfl⟩
              have hpc := rcompare_any y.id.n y.id.r 1048576 7
              rw [hc] at hpc
              have HPC := Lib.hid hpc
              have HC := Lib.hid hc
              clear hcc hh hB hy hpc hc
              go_upto_region 14 with fail
              by_cases h0 : 0 ≤ c
              · have h1 : decide (c ≥ 0) = true := decide_eq_true h0
                go_region_held3 (fun W => W.cell? ⟨b, o + k * 26, none⟩ = some (.int .i64 y.id.n) ∧ W.cell? ⟨b, o + k * 26 + 1, none⟩ = some (.int .i64 y.id.r) ∧ W.cell? ⟨z3, 0, none⟩ = some (.int .i64 1048576) ∧ W.cell? ⟨z3, 1, none⟩ = some (.int .i64 7)) (first | exact ⟨y0, y1, g0, g1⟩ | exact ⟨keepB b5 y0, keepB b5 y1, keepB b5 g0, keepB b5 g1⟩) ((go_at_call 19; ((with_reducible refine (HPC.out _).mono ?_); rintro e w5 ⟨rfl, b5⟩; simp only [heap_drew, below_drew] at b5)))
                all_goals
                  have hB5 := HB5.out.trans ((HB.out.trans (b5.mono HB.out.size)).mono HB5.out.size)
                  clear y0 y1 g0 g1 b5
                  go_wp2_with fail
                  refine (alive_any _).mono ?_
                  rintro e w6 ⟨rfl, b6⟩
                  have hB6 : Below w.heap.size w w6 := by first | exact hB5.trans (b6.mono hB5.size) | exact hB5.drew.trans (b6.mono hB5.drew.size)
                  clear b6 hB5
                  go_wp2_with fail
                  go_ret
                  exact ⟨rfl, hB6⟩
              · have h1 : c < 0 := by omega
                have HLT : Hid (stLt y.id ⟨1048576, 7⟩) := Lib.hid ((cmpS_lt y.id ⟨1048576, 7⟩).1 (by have h : cmpS y.id ⟨1048576, 7⟩ = c := HC.out; omega))
                go_region_held3 (fun W => W.cell? ⟨b, o + k * 26, none⟩ = some (.int .i64 y.id.n) ∧ W.cell? ⟨b, o + k * 26 + 1, none⟩ = some (.int .i64 y.id.r) ∧ W.cell? ⟨z3, 0, none⟩ = some (.int .i64 1048576) ∧ W.cell? ⟨z3, 1, none⟩ = some (.int .i64 7)) (first | exact ⟨y0, y1, g0, g1⟩ | exact ⟨keepB b5 y0, keepB b5 y1, keepB b5 g0, keepB b5 g1⟩) ((go_at_call 19; ((with_reducible refine (HPC.out _).mono ?_); rintro e w5 ⟨rfl, b5⟩; simp only [heap_drew, below_drew] at b5)))
                all_goals
                  have hB5 := HB.out.trans (b5.mono HB.out.size)
                  clear y0 y1 g0 g1 b5
                  go_wp2_with fail
                  go_roundg (ms.length - (k + 1))
                  case measure => rw [HG.out]; omega
                  case rel => exact ⟨k + 1, rfl, by omega, by simp, Lib.hid (fun j z hj hz => by
                    by_cases hjk : j < k
                    · exact hU.out j z hjk hz
                    · obtain rfl : j = k := by omega
                      rw [HY.out] at hz; cases hz; exact HLT.out), by first | exact hB5 | exact hB5.drew⟩
            · obtain rfl : k = ms.length := by omega
              have HALL : Hid (∀ x ∈ ms, stLt x.id ⟨1048576, 7⟩) := Lib.hid (fun x hx => by
                obtain ⟨i, hi⟩ := List.getElem?_of_mem hx
                exact hU.out i x (List.getElem?_eq_some_iff.1 hi).1 hi)
              clear hU HG HB
              have HL5b := Lib.hid (HL5.out.below hB)
              have HM5b := Lib.hid (HM5.out.below hB)
              have HB5b := Lib.hid (HB5.out.trans (hB.mono HB5.out.size))
              have HO5b : Hid (∀ j u, (OpD.cells (justOp an ar bn br aa ba))[j]? = some u → wr.cell? ⟨z3, j, none⟩ = some u) := Lib.hid (fun j u h => keepB hB (HO5.out j u h))
              replace x0 := keepB hB x0
              replace x1 := keepB hB x1
              clear hB HL5 HM5 HB5 HO5 o0 o1
              go_wp2_with fail
              refine (pstyle_any va vb vc cb l ms wr HL5b.out HM5b.out (by omega) (by omega)).mono ?_
              rintro e w6 ⟨u1, rfl, hS1, b6⟩
              have HL6 := Lib.hid (HL5b.out.below b6)
              have HM6 := Lib.hid (HM5b.out.below b6)
              have HB6 := Lib.hid (HB5b.out.trans (b6.mono HB5b.out.size))
              have HO6 : Hid (∀ j u, (OpD.cells (justOp an ar bn br aa ba))[j]? = some u → w6.cell? ⟨z3, j, none⟩ = some u) := Lib.hid (fun j u h => keepB b6 (HO5b.out j u h))
              replace x0 := keepB b6 x0
              replace x1 := keepB b6 x1
              clear b6 HL5b HM5b HB5b HO5b
              generalize w6 = W6 at *
              go_upto_region 17 with fail
              go_cut [15] (fun nv wx => ∃ (u2 : Value) (W7 : World), W7 = wx ∧ nv = u2 ∧ Hid (Styled l (ms ++ [(justOp an ar bn br aa ba)]) W6.heap.size W7 l.length u2) ∧ Below W6.heap.size W6 W7)
              case first => as_aux_lemma =>
                obtain ⟨i0, hi0, hi1, hi2, hi3⟩ := info_parts info_op
                have hS0 : (fun W => ∀ (j : Nat) (u : Value), (OpD.cells (justOp an ar bn br aa ba))[j]? = some u → W.cell? ⟨z3, j, none⟩ = some u) W6.drew := HO6.out
                refine wp_region_held_drew (S := fun W => ∀ (j : Nat) (u : Value), (OpD.cells (justOp an ar bn br aa ba))[j]? = some u → W.cell? ⟨z3, j, none⟩ = some u) (by kernel_rfl) hS0 (fun _ => ?_)
                try simp only [Act.put, List.setIfInBounds_toArray, List.set_cons_zero, List.set_cons_succ]
                refine held_take (i := 0) (d := some 88) rfl rfl (by kernel_rfl) (by kernel_rfl) (by kernel_rfl) (fun _ _ _ h => h) (.inl ⟨by rfl, fun W hW => by clear hW; go_simp; rfl⟩) hS0 ?_
                try simp only [Act.put, List.setIfInBounds_toArray, List.set_cons_zero, List.set_cons_succ]
                refine held_take (i := 2) (d := some 90) rfl rfl (by kernel_rfl) (by kernel_rfl) (by kernel_rfl) (fun _ _ _ h => h) (.inl ⟨by rfl, fun W hW => by clear hW; go_simp; rfl⟩) hS0 ?_
                try simp only [Act.put, List.setIfInBounds_toArray, List.set_cons_zero, List.set_cons_succ]
                refine held_take (i := 4) (d := some 92) rfl rfl (by kernel_rfl) (by kernel_rfl) (by kernel_rfl) (fun _ _ _ h => h) (.inl ⟨by rfl, fun W hW => exec_load rfl rfl (load_of_cells (o := 0) op_ty (OpD.len (justOp an ar bn br aa ba)) (fun j u h => by rw [Nat.zero_add]; exact hW j u h))⟩) hS0 ?_
                try simp only [Act.put, List.setIfInBounds_toArray, List.set_cons_zero, List.set_cons_succ]
                clear hS0
                have B0 : Below W6.heap.size W6 W6.drew := (Below.refl _ _).drew
                generalize W6.drew = W0 at B0 ⊢
                refine held_two (i := 1) (j := 5) (by kernel_rfl) ?_ ?_
                · have owq1 : Own OpD.cells 26 39 W6.heap.size (W0.alloc (.cells #[] 39)) (.slice (some ⟨W0.heap.size, 0, none⟩) 0 0) [] := Own.empty OpD.cells 26 39 B0.size
                  have Bq1 := B0.alloc B0.size (.cells #[] 39)
                  refine op_ran (d := some 89) rfl rfl (by rfl) (by go_simp; first | rfl | exact ⟨rfl, rfl⟩) ⟨(fun j u h => keepB Bq1 (HO6.out j u h)), ?_⟩
                  try simp only [Act.put, List.setIfInBounds_toArray, List.set_cons_zero, List.set_cons_succ]
                  have zzq1 : W0.heap.size < (W0.alloc (.cells #[] 39)).heap.size := by simp
                  generalize W0.alloc (.cells #[] 39) = Wq1 at *
                  generalize hnq1 : W0.heap.size = nq1 at *
                  have Hnq1 := Lib.hid hnq1
                  clear hnq1
                  refine held_two (i := 3) (j := 5) (by kernel_rfl) ?_ ?_
                  · obtain ⟨vq2, Wq2, hrq2, owq2, xq2⟩ := append_structs (P := Try.prog) 23 23 i0 (.agg (OpD.cells ⟨⟨0, 0⟩, 0, 0, 0, 0, 0, 0, 0, 0, 0, ⟨0, 0⟩, 0, 0, ⟨0, 0⟩, ⟨#[]⟩, ⟨#[]⟩, ⟨#[]⟩, ⟨0, 0⟩, false, ⟨0, 0⟩, false⟩).toArray) 232 Try.underlying23 hi0 hi1 hi2 hi3 rfl (by omega) OpD.len OpD.one owq1 (HM6.out.below Bq1) (by unfold maxLen; simp; omega) (by simp; omega) Bq1.size
                    rw [List.nil_append] at owq2
                    have Bq2 := Ext.new Bq1 xq2 (fun i hi _ e => by have := (owq1.blk i e).1; omega) Bq1.size
                    refine op_append rfl rfl (d := some 91) rfl (by rfl) rfl rfl hrq2 ⟨(fun j u h => keepB Bq2 (HO6.out j u h)), ?_⟩
                    try simp only [Act.put, List.setIfInBounds_toArray, List.set_cons_zero, List.set_cons_succ]
                    refine held_one (i := 5) (by kernel_rfl) ?_
                    have onq3 : SliceIs OpD.cells 26 (Wq2.alloc (.cells (OpD.cells (justOp an ar bn br aa ba)).toArray 39)) (.slice (some ⟨Wq2.heap.size, 0, none⟩) 1 1) [(justOp an ar bn br aa ba)] := SliceIs.one (justOp an ar bn br aa ba) 39
                    have Bq3 := Bq2.alloc Bq2.size (.cells (OpD.cells (justOp an ar bn br aa ba)).toArray 39)
                    have owq3 := owq2.alloc (.cells (OpD.cells (justOp an ar bn br aa ba)).toArray 39)
                    refine op_ran (d := some 93) rfl rfl (by rfl) (exec_slice1 rfl rfl (run_slice_op (justOp an ar bn br aa ba) Wq2)) ⟨(fun j u h => keepB Bq3 (HO6.out j u h)), ?_⟩
                    try simp only [Act.put, List.setIfInBounds_toArray, List.set_cons_zero, List.set_cons_succ]
                    have ltq3 : Wq2.heap.size < (Wq2.alloc (.cells (OpD.cells (justOp an ar bn br aa ba)).toArray 39)).heap.size := by simp
                    generalize Wq2.alloc (.cells (OpD.cells (justOp an ar bn br aa ba)).toArray 39) = Wq3 at *
                    generalize hnq3 : Wq2.heap.size = nq3 at *
                    have Hnq3 := Lib.hid hnq3
                    clear hnq3
                    obtain ⟨vq4, Wq4, hrq4, owq4, xq4⟩ := append_structs (P := Try.prog) 23 23 i0 (.agg (OpD.cells ⟨⟨0, 0⟩, 0, 0, 0, 0, 0, 0, 0, 0, 0, ⟨0, 0⟩, 0, 0, ⟨0, 0⟩, ⟨#[]⟩, ⟨#[]⟩, ⟨#[]⟩, ⟨0, 0⟩, false, ⟨0, 0⟩, false⟩).toArray) 232 Try.underlying23 hi0 hi1 hi2 hi3 rfl (by omega) OpD.len OpD.one owq3 onq3 (by unfold maxLen; simp; omega) (by simp; omega) Bq3.size
                    have Bq4 := Ext.new Bq3 xq4 (fun i hi _ e => by have := (owq3.blk i e).1; omega) Bq3.size
                    refine held_one (i := 6) (by kernel_rfl) (op_append rfl rfl (d := some 94) rfl (by rfl) rfl rfl hrq4 ⟨(fun j u h => keepB Bq4 (HO6.out j u h)), ?_⟩)
                    try simp only [Act.put, List.setIfInBounds_toArray, List.set_cons_zero, List.set_cons_succ]
                    obtain ⟨tm, htm⟩ : ∃ tm, ms ++ [(justOp an ar bn br aa ba)] = tm := ⟨_, rfl⟩
                    have hT := owq4.slice OpD.len
                    rw [htm] at hT
                    have htl3 : tm.length ≤ 31 := by rw [← htm, List.length_append, List.length_singleton]; omega
                    have HTM := Lib.hid htm
                    clear htm
                    have hT0 := hT
                    obtain ⟨aT, cT, rfl, hcT, hmT, _⟩ := hT
                    have B9 := Bq4
                    refine held_call (i := 7) (d := some 95) (by kernel_rfl) rfl rfl (by rfl) (by go_simp; first | rfl | exact ⟨rfl, rfl⟩ | exact ⟨⟨rfl, rfl⟩, rfl⟩) ?_
                    refine (pstyle_any va aT vc cT l tm Wq4 (HL6.out.below B9) hT0 (by omega) (by omega)).mono ?_
                    rintro e w8 ⟨u2, rfl, hS2, b8⟩
                    have B10 := B9.trans (b8.mono B9.size)
                    have hS10 : (fun W => ∀ (j : Nat) (u : Value), (OpD.cells (justOp an ar bn br aa ba))[j]? = some u → W.cell? ⟨z3, j, none⟩ = some u) w8 := fun j u h => keepB B10 (HO6.out j u h)
                    have HS2 : Hid (Styled l (ms ++ [(justOp an ar bn br aa ba)]) W6.heap.size w8 l.length u2) := Lib.hid (by rw [HTM.out]; exact hS2.out.mono B9.size)
                    refine ⟨_, rfl, hS10, ?_⟩
                    try simp only [Act.put, List.setIfInBounds_toArray, List.set_cons_zero, List.set_cons_succ]
                    refine held_take (i := 8) (d := some 15) rfl rfl (by kernel_rfl) (by kernel_rfl) (by kernel_rfl) (fun _ _ _ h => h) (.inl ⟨by rfl, fun W hW => by clear hW; go_simp; rfl⟩) hS10 ?_
                    try simp only [Act.put, List.setIfInBounds_toArray, List.set_cons_zero, List.set_cons_succ]
                    refine wpAnyH_done (by kernel_rfl) ?_ _
                    clear hS10 hT0 hS2 b8 B9
                    go_wp2_with fail
                    go_meet
                    case rel => exact ⟨_, _, rfl, rfl, HS2, B10⟩
                  · have onq6 : SliceIs OpD.cells 26 (Wq1.alloc (.cells (OpD.cells (justOp an ar bn br aa ba)).toArray 39)) (.slice (some ⟨Wq1.heap.size, 0, none⟩) 1 1) [(justOp an ar bn br aa ba)] := SliceIs.one (justOp an ar bn br aa ba) 39
                    have Bq6 := Bq1.alloc Bq1.size (.cells (OpD.cells (justOp an ar bn br aa ba)).toArray 39)
                    have owq6 := owq1.alloc (.cells (OpD.cells (justOp an ar bn br aa ba)).toArray 39)
                    have neq6 : ∀ b, (Value.slice (some ⟨nq1, 0, none⟩) 0 0).ownBlock = some b → b ≠ Wq1.heap.size := fun b e => by have := (owq1.blk b e).2; omega
                    refine op_ran (d := some 93) rfl rfl (by rfl) (exec_slice1 rfl rfl (run_slice_op (justOp an ar bn br aa ba) Wq1)) ⟨(fun j u h => keepB Bq6 (HO6.out j u h)), ?_⟩
                    try simp only [Act.put, List.setIfInBounds_toArray, List.set_cons_zero, List.set_cons_succ]
                    have ltq6 : Wq1.heap.size < (Wq1.alloc (.cells (OpD.cells (justOp an ar bn br aa ba)).toArray 39)).heap.size := by simp
                    generalize Wq1.alloc (.cells (OpD.cells (justOp an ar bn br aa ba)).toArray 39) = Wq6 at *
                    generalize hnq6 : Wq1.heap.size = nq6 at *
                    have Hnq6 := Lib.hid hnq6
                    clear hnq6
                    refine held_one (i := 3) (by kernel_rfl) ?_
                    obtain ⟨vq7, Wq7, hrq7, owq7, xq7⟩ := append_structs (P := Try.prog) 23 23 i0 (.agg (OpD.cells ⟨⟨0, 0⟩, 0, 0, 0, 0, 0, 0, 0, 0, 0, ⟨0, 0⟩, 0, 0, ⟨0, 0⟩, ⟨#[]⟩, ⟨#[]⟩, ⟨#[]⟩, ⟨0, 0⟩, false, ⟨0, 0⟩, false⟩).toArray) 232 Try.underlying23 hi0 hi1 hi2 hi3 rfl (by omega) OpD.len OpD.one owq6 (HM6.out.below Bq6) (by unfold maxLen; simp; omega) (by simp; omega) Bq6.size
                    rw [List.nil_append] at owq7
                    have Bq7 := Ext.new Bq6 xq7 (fun i hi _ e => by have := (owq6.blk i e).1; omega) Bq6.size
                    have onq7 := SliceIs.ext onq6 xq7 (fun b o n cap e => by cases e; exact fun e2 => neq6 _ e2 rfl)
                    refine op_append rfl rfl (d := some 91) rfl (by rfl) rfl rfl hrq7 ⟨(fun j u h => keepB Bq7 (HO6.out j u h)), ?_⟩
                    try simp only [Act.put, List.setIfInBounds_toArray, List.set_cons_zero, List.set_cons_succ]
                    obtain ⟨vq8, Wq8, hrq8, owq8, xq8⟩ := append_structs (P := Try.prog) 23 23 i0 (.agg (OpD.cells ⟨⟨0, 0⟩, 0, 0, 0, 0, 0, 0, 0, 0, 0, ⟨0, 0⟩, 0, 0, ⟨0, 0⟩, ⟨#[]⟩, ⟨#[]⟩, ⟨#[]⟩, ⟨0, 0⟩, false, ⟨0, 0⟩, false⟩).toArray) 232 Try.underlying23 hi0 hi1 hi2 hi3 rfl (by omega) OpD.len OpD.one owq7 onq7 (by unfold maxLen; simp; omega) (by simp; omega) Bq7.size
                    have Bq8 := Ext.new Bq7 xq8 (fun i hi _ e => by have := (owq7.blk i e).1; omega) Bq7.size
                    refine held_one (i := 6) (by kernel_rfl) (op_append rfl rfl (d := some 94) rfl (by rfl) rfl rfl hrq8 ⟨(fun j u h => keepB Bq8 (HO6.out j u h)), ?_⟩)
                    try simp only [Act.put, List.setIfInBounds_toArray, List.set_cons_zero, List.set_cons_succ]
                    obtain ⟨tm, htm⟩ : ∃ tm, ms ++ [(justOp an ar bn br aa ba)] = tm := ⟨_, rfl⟩
                    have hT := owq8.slice OpD.len
                    rw [htm] at hT
                    have htl3 : tm.length ≤ 31 := by rw [← htm, List.length_append, List.length_singleton]; omega
                    have HTM := Lib.hid htm
                    clear htm
                    have hT0 := hT
                    obtain ⟨aT, cT, rfl, hcT, hmT, _⟩ := hT
                    have B9 := Bq8
                    refine held_call (i := 7) (d := some 95) (by kernel_rfl) rfl rfl (by rfl) (by go_simp; first | rfl | exact ⟨rfl, rfl⟩ | exact ⟨⟨rfl, rfl⟩, rfl⟩) ?_
                    refine (pstyle_any va aT vc cT l tm Wq8 (HL6.out.below B9) hT0 (by omega) (by omega)).mono ?_
                    rintro e w8 ⟨u2, rfl, hS2, b8⟩
                    have B10 := B9.trans (b8.mono B9.size)
                    have hS10 : (fun W => ∀ (j : Nat) (u : Value), (OpD.cells (justOp an ar bn br aa ba))[j]? = some u → W.cell? ⟨z3, j, none⟩ = some u) w8 := fun j u h => keepB B10 (HO6.out j u h)
                    have HS2 : Hid (Styled l (ms ++ [(justOp an ar bn br aa ba)]) W6.heap.size w8 l.length u2) := Lib.hid (by rw [HTM.out]; exact hS2.out.mono B9.size)
                    refine ⟨_, rfl, hS10, ?_⟩
                    try simp only [Act.put, List.setIfInBounds_toArray, List.set_cons_zero, List.set_cons_succ]
                    refine held_take (i := 8) (d := some 15) rfl rfl (by kernel_rfl) (by kernel_rfl) (by kernel_rfl) (fun _ _ _ h => h) (.inl ⟨by rfl, fun W hW => by clear hW; go_simp; rfl⟩) hS10 ?_
                    try simp only [Act.put, List.setIfInBounds_toArray, List.set_cons_zero, List.set_cons_succ]
                    refine wpAnyH_done (by kernel_rfl) ?_ _
                    clear hS10 hT0 hS2 b8 B9
                    go_wp2_with fail
                    go_meet
                    case rel => exact ⟨_, _, rfl, rfl, HS2, B10⟩
                · have onq10 : SliceIs OpD.cells 26 (W0.alloc (.cells (OpD.cells (justOp an ar bn br aa ba)).toArray 39)) (.slice (some ⟨W0.heap.size, 0, none⟩) 1 1) [(justOp an ar bn br aa ba)] := SliceIs.one (justOp an ar bn br aa ba) 39
                  have Bq10 := B0.alloc B0.size (.cells (OpD.cells (justOp an ar bn br aa ba)).toArray 39)
                  refine op_ran (d := some 93) rfl rfl (by rfl) (exec_slice1 rfl rfl (run_slice_op (justOp an ar bn br aa ba) W0)) ⟨(fun j u h => keepB Bq10 (HO6.out j u h)), ?_⟩
                  try simp only [Act.put, List.setIfInBounds_toArray, List.set_cons_zero, List.set_cons_succ]
                  have ltq10 : W0.heap.size < (W0.alloc (.cells (OpD.cells (justOp an ar bn br aa ba)).toArray 39)).heap.size := by simp
                  generalize W0.alloc (.cells (OpD.cells (justOp an ar bn br aa ba)).toArray 39) = Wq10 at *
                  generalize hnq10 : W0.heap.size = nq10 at *
                  have Hnq10 := Lib.hid hnq10
                  clear hnq10
                  refine held_one (i := 1) (by kernel_rfl) ?_
                  have owq11 : Own OpD.cells 26 39 W6.heap.size (Wq10.alloc (.cells #[] 39)) (.slice (some ⟨Wq10.heap.size, 0, none⟩) 0 0) [] := Own.empty OpD.cells 26 39 Bq10.size
                  have Bq11 := Bq10.alloc Bq10.size (.cells #[] 39)
                  have onq11 := onq10.below ((Below.refl _ _).alloc (Nat.le_refl _) (.cells #[] 39))
                  have neq11 : ∀ b, (Value.slice (some ⟨Wq10.heap.size, 0, none⟩) 0 0).ownBlock = some b → b ≠ nq10 := fun b e => by have e2 : Wq10.heap.size = b := Option.some.inj e; have := ltq10; omega
                  refine op_ran (d := some 89) rfl rfl (by rfl) (by go_simp; first | rfl | exact ⟨rfl, rfl⟩) ⟨(fun j u h => keepB Bq11 (HO6.out j u h)), ?_⟩
                  try simp only [Act.put, List.setIfInBounds_toArray, List.set_cons_zero, List.set_cons_succ]
                  have zzq11 : Wq10.heap.size < (Wq10.alloc (.cells #[] 39)).heap.size := by simp
                  generalize Wq10.alloc (.cells #[] 39) = Wq11 at *
                  generalize hnq11 : Wq10.heap.size = nq11 at *
                  have Hnq11 := Lib.hid hnq11
                  clear hnq11
                  refine held_one (i := 3) (by kernel_rfl) ?_
                  obtain ⟨vq12, Wq12, hrq12, owq12, xq12⟩ := append_structs (P := Try.prog) 23 23 i0 (.agg (OpD.cells ⟨⟨0, 0⟩, 0, 0, 0, 0, 0, 0, 0, 0, 0, ⟨0, 0⟩, 0, 0, ⟨0, 0⟩, ⟨#[]⟩, ⟨#[]⟩, ⟨#[]⟩, ⟨0, 0⟩, false, ⟨0, 0⟩, false⟩).toArray) 232 Try.underlying23 hi0 hi1 hi2 hi3 rfl (by omega) OpD.len OpD.one owq11 (HM6.out.below Bq11) (by unfold maxLen; simp; omega) (by simp; omega) Bq11.size
                  rw [List.nil_append] at owq12
                  have Bq12 := Ext.new Bq11 xq12 (fun i hi _ e => by have := (owq11.blk i e).1; omega) Bq11.size
                  have onq12 := SliceIs.ext onq11 xq12 (fun b o n cap e => by cases e; exact fun e2 => neq11 _ e2 rfl)
                  refine op_append rfl rfl (d := some 91) rfl (by rfl) rfl rfl hrq12 ⟨(fun j u h => keepB Bq12 (HO6.out j u h)), ?_⟩
                  try simp only [Act.put, List.setIfInBounds_toArray, List.set_cons_zero, List.set_cons_succ]
                  obtain ⟨vq13, Wq13, hrq13, owq13, xq13⟩ := append_structs (P := Try.prog) 23 23 i0 (.agg (OpD.cells ⟨⟨0, 0⟩, 0, 0, 0, 0, 0, 0, 0, 0, 0, ⟨0, 0⟩, 0, 0, ⟨0, 0⟩, ⟨#[]⟩, ⟨#[]⟩, ⟨#[]⟩, ⟨0, 0⟩, false, ⟨0, 0⟩, false⟩).toArray) 232 Try.underlying23 hi0 hi1 hi2 hi3 rfl (by omega) OpD.len OpD.one owq12 onq12 (by unfold maxLen; simp; omega) (by simp; omega) Bq12.size
                  have Bq13 := Ext.new Bq12 xq13 (fun i hi _ e => by have := (owq12.blk i e).1; omega) Bq12.size
                  refine held_one (i := 6) (by kernel_rfl) (op_append rfl rfl (d := some 94) rfl (by rfl) rfl rfl hrq13 ⟨(fun j u h => keepB Bq13 (HO6.out j u h)), ?_⟩)
                  try simp only [Act.put, List.setIfInBounds_toArray, List.set_cons_zero, List.set_cons_succ]
                  obtain ⟨tm, htm⟩ : ∃ tm, ms ++ [(justOp an ar bn br aa ba)] = tm := ⟨_, rfl⟩
                  have hT := owq13.slice OpD.len
                  rw [htm] at hT
                  have htl3 : tm.length ≤ 31 := by rw [← htm, List.length_append, List.length_singleton]; omega
                  have HTM := Lib.hid htm
                  clear htm
                  have hT0 := hT
                  obtain ⟨aT, cT, rfl, hcT, hmT, _⟩ := hT
                  have B9 := Bq13
                  refine held_call (i := 7) (d := some 95) (by kernel_rfl) rfl rfl (by rfl) (by go_simp; first | rfl | exact ⟨rfl, rfl⟩ | exact ⟨⟨rfl, rfl⟩, rfl⟩) ?_
                  refine (pstyle_any va aT vc cT l tm Wq13 (HL6.out.below B9) hT0 (by omega) (by omega)).mono ?_
                  rintro e w8 ⟨u2, rfl, hS2, b8⟩
                  have B10 := B9.trans (b8.mono B9.size)
                  have hS10 : (fun W => ∀ (j : Nat) (u : Value), (OpD.cells (justOp an ar bn br aa ba))[j]? = some u → W.cell? ⟨z3, j, none⟩ = some u) w8 := fun j u h => keepB B10 (HO6.out j u h)
                  have HS2 : Hid (Styled l (ms ++ [(justOp an ar bn br aa ba)]) W6.heap.size w8 l.length u2) := Lib.hid (by rw [HTM.out]; exact hS2.out.mono B9.size)
                  refine ⟨_, rfl, hS10, ?_⟩
                  try simp only [Act.put, List.setIfInBounds_toArray, List.set_cons_zero, List.set_cons_succ]
                  refine held_take (i := 8) (d := some 15) rfl rfl (by kernel_rfl) (by kernel_rfl) (by kernel_rfl) (fun _ _ _ h => h) (.inl ⟨by rfl, fun W hW => by clear hW; go_simp; rfl⟩) hS10 ?_
                  try simp only [Act.put, List.setIfInBounds_toArray, List.set_cons_zero, List.set_cons_succ]
                  refine wpAnyH_done (by kernel_rfl) ?_ _
                  clear hS10 hT0 hS2 b8 B9
                  go_wp2_with fail
                  go_meet
                  case rel => exact ⟨_, _, rfl, rfl, HS2, B10⟩
              case rest =>
                obtain ⟨u2, W7, rfl, rfl, hS2, b7⟩ := hcut
                have HS1 := Lib.hid (hS1.out.ext b7)
                have HS2 := Lib.hid hS2.out
                have HL7 := Lib.hid (HL6.out.below b7)
                have HB7 := Lib.hid (HB6.out.trans (b7.mono HB6.out.size))
                replace x0 := keepB b7 x0
                replace x1 := keepB b7 x1
                clear hS1 hS2 b7 HL6 HM6 HO6 HB6
                obtain ⟨ad1, cd1, rfl, hc1, hc2⟩ := HS1.out.shape
                obtain ⟨ad2, cd2, rfl, hc3, hc4⟩ := HS2.out.shape
                unfold maxLen at hc2 hc4
                go_wp2_with fail
                go_loopg [16, 17] l.length (fun g nv iv wr => ∃ k : Nat, g = l.length - k ∧ k ≤ l.length ∧ nv = .int .i64 (cntS l k) ∧ iv = .int .i64 k ∧ Below W7.heap.size W7 wr)
                case atStart => exact ⟨0, by omega, by omega, by simp [cntS, shownL], rfl, Below.refl _ _⟩
                case round => as_aux_lemma =>
                  obtain ⟨k, hg, hk, rfl, rfl, hB⟩ := hrel
                  have HG := Lib.hid hg
                  have HB := Lib.hid hB
                  clear hg
                  have hcl := cntS_le l k
                  by_cases hkl : k < l.length
                  · obtain ⟨y, hy⟩ : ∃ y, l[k]? = some y := ⟨_, List.getElem?_eq_getElem hkl⟩
                    obtain ⟨wo, rfl⟩ : ∃ wo : World, wo = wr := ⟨_, rfl⟩
                    obtain ⟨_, _, e1, _, _, hh⟩ := HL7.out.below hB
                    cases e1
                    obtain ⟨b, o, rfl, hcc⟩ := hh (by intro e; rw [e] at hy; simp at hy)
                    have y3 : wo.cell? ⟨b, o + k * 4 + 3, none⟩ = some (.bool y.gone) := hcc k y hy 3 _ rfl
                    obtain ⟨ba1, oa1, ca1, s1, al, e1, _, _, xa, ya, za⟩ := (HS1.out.ext hB).at hkl
                    cases e1
                    obtain ⟨ba2, oa2, ca2, s2, bl, e2, _, _, xb, yb, zb⟩ := (HS2.out.ext hB).at hkl
                    cases e2
                    obtain ⟨sa1, sn1, sc1⟩ := s1
                    obtain ⟨sa2, sn2, sc2⟩ := s2
                    dsimp only at xa ya xb yb
                    obtain ⟨_, _, e3, hq1, hq2, hq1⟩ := id ya
                    simp only [Value.slice.injEq] at e3
                    obtain ⟨rfl, e3, rfl⟩ := e3
                    rw [e3] at xa ya
                    clear hq1 hq2 e3
                    obtain ⟨_, _, e3, hq1, hq2, hq2⟩ := id yb
                    simp only [Value.slice.injEq] at e3
                    obtain ⟨rfl, e3, rfl⟩ := e3
                    rw [e3] at xb yb
                    clear hq1 hq2 e3
                    have hkk : (k : Int) < (l.length : Int) := by omega
                    have HY := Lib.hid hy
                    have x0b := keepB hB x0
                    have x1b := keepB hB x1
                    have HQ1 := Lib.hid hq1
                    have HQ2 := Lib.hid hq2
                    have hal := za.len
                    have hbl := zb.len
                    rw [List.length_append, List.length_singleton] at hbl
                    have HZA := Lib.hid za
                    have HZB := Lib.hid zb
                    clear hcc hh hB hy ya yb za zb hq1 hq2
                    go_wp2_with fail
                    go_loopg [18, 19] al.length (fun g wv jv wy => ∃ j : Nat, g = al.length - j ∧ j ≤ al.length ∧ jv = .int .i64 j ∧ Hid (Own Atr.cells 2 51 wo.heap.size wy wv ((al.take j).filter (fun a : Atr => decide (a.name ≠ (⟨#[111, 119, 110]⟩ : ByteArray))))) ∧ Below wo.heap.size wo wy)
                    case atStart => exact ⟨0, by omega, by omega, rfl, Lib.hid Own.nil, Below.refl _ _⟩
                    case round =>
                      obtain ⟨j, hg2, hj, rfl, hO, hB2⟩ := hrel
                      have HG2 := Lib.hid hg2
                      have HB2 := Lib.hid hB2
                      have xa2 := keepB hB2 xa
                      clear hg2
                      by_cases hjl : j < al.length
                      · obtain ⟨t, ht⟩ : ∃ t, al[j]? = some t := ⟨_, List.getElem?_eq_getElem hjl⟩
                        obtain ⟨bb, ob, e9, hcc⟩ := HQ1.out (by intro e; rw [e] at ht; simp at ht)
                        subst e9
                        have t0 : wr.cell? ⟨bb, ob + j * 2, none⟩ = some (.string t.name) := keepB hB2 (hcc j t ht 0 _ rfl)
                        have t1 : wr.cell? ⟨bb, ob + j * 2 + 1, none⟩ = some (.string t.value) := keepB hB2 (hcc j t ht 1 _ rfl)
                        have hjj : (j : Int) < (al.length : Int) := by omega
                        have htk : al.take (j + 1) = al.take j ++ [t] := by rw [List.take_add_one, ht, Option.toList_some]
                        have HTK := Lib.hid htk
                        clear hcc hB2 ht htk
                        by_cases hn : t.name = ⟨#[111, 119, 110]⟩
                        · have HF : Hid ((al.take (j + 1)).filter (fun a : Atr => decide (a.name ≠ (⟨#[111, 119, 110]⟩ : ByteArray))) = (al.take j).filter (fun a : Atr => decide (a.name ≠ (⟨#[111, 119, 110]⟩ : ByteArray)))) := Lib.hid (by rw [HTK.out, List.filter_append]; simp [hn])
                          rw [hn] at t0
                          clear hn
                          go_wp2_with fail
                          go_roundg (al.length - (j + 1))
                          case measure => rw [HG2.out]; omega
                          case rel => exact ⟨j + 1, rfl, by omega, by simp, Lib.hid (by rw [HF.out]; exact hO.out), HB2.out⟩
                        · have htriv : True := trivial
                          have HF : Hid ((al.take (j + 1)).filter (fun a : Atr => decide (a.name ≠ (⟨#[111, 119, 110]⟩ : ByteArray))) = (al.take j).filter (fun a : Atr => decide (a.name ≠ (⟨#[111, 119, 110]⟩ : ByteArray))) ++ [t]) := Lib.hid (by rw [HTK.out, List.filter_append]; simp [hn])
                          have hn1 : (t.name.toList == [111, 119, 110]) = false := by
                            cases h : (t.name.toList == [111, 119, 110]) with
                            | false => rfl
                            | true => exact absurd ((eq_bytes t.name ⟨#[111, 119, 110]⟩).1 (by simpa using eq_of_beq h)) hn
                          have hn2 : (t.name == ⟨#[111, 119, 110]⟩) = false := by rw [beq_bytes]; simp [hn]
                          have hfl : ((al.take j).filter (fun a : Atr => decide (a.name ≠ (⟨#[111, 119, 110]⟩ : ByteArray)))).length ≤ j := Nat.le_trans (List.length_filter_le _ _) (by rw [List.length_take]; omega)
                          obtain ⟨fl, hfl0⟩ : ∃ fl, (al.take j).filter (fun a : Atr => decide (a.name ≠ (⟨#[111, 119, 110]⟩ : ByteArray))) = fl := ⟨_, rfl⟩
                          have HFL := Lib.hid hfl0
                          have hown := hO.out
                          rw [hfl0] at hown hfl
                          have HO2 := Lib.hid hown
                          clear hO hfl0 hown hn
                          obtain ⟨i0, hi, hz0, hz1, hz2⟩ := info_parts info_attr
                          go_wp2_with (at_builtin; refine wpList_append_struct rfl _ _ _ rfl i0 (.agg #[.string ⟨#[]⟩, .string ⟨#[]⟩]) 32 Try.underlying29 hi hz0 hz1 hz2 rfl (by omega) (fun _ => rfl) (fun x u hu => by simp [Atr.cells] at hu; rcases hu with rfl | rfl <;> rfl) rfl (HO2.out.alloc _) t wr.heap.size 1 rfl ?_ (by unfold maxLen; omega) (by omega) (by have := HB2.out.size; simp; omega) ?_)
                          · intro jj u hj
                            have hju : (jj = 0 ∧ u = .string t.name) ∨ (jj = 1 ∧ u = .string t.value) := by
                              match jj, hj with
                              | 0, hj => simp [Atr.cells] at hj; exact .inl ⟨rfl, hj.symm⟩
                              | 1, hj => simp [Atr.cells] at hj; exact .inr ⟨rfl, hj.symm⟩
                              | n + 2, hj => simp [Atr.cells] at hj
                            rcases hju with ⟨rfl, rfl⟩ | ⟨rfl, rfl⟩ <;> go_simp
                          · intro v' w3 hown3 hx3
                            have HO3 := Lib.hid hown3
                            have HX3 := Lib.hid hx3
                            clear hown3 hx3
                            go_wp2_with fail
                            go_roundg (al.length - (j + 1))
                            case measure => rw [HG2.out]; omega
                            case rel =>
                              exact ⟨j + 1, rfl, by omega, by simp, Lib.hid (by rw [HF.out, HFL.out]; exact HO3.out), Ext.new (HB2.out.alloc HB2.out.size _) HX3.out (fun i hi _ e => by have := (HO2.out.blk i e).1; omega) (by have := HB2.out.size; simp; omega)⟩
                      · obtain rfl : j = al.length := by omega
                        obtain ⟨wA, rfl⟩ : ∃ wA : World, wA = wr := ⟨_, rfl⟩
                        have hO2 := hO.out
                        rw [List.take_length] at hO2
                        have hSW := hO2.slice (fun _ => rfl)
                        obtain ⟨FA, hFA⟩ : ∃ FA, al.filter (fun a : Atr => decide (a.name ≠ (⟨#[111, 119, 110]⟩ : ByteArray))) = FA := ⟨_, rfl⟩
                        rw [hFA] at hSW
                        have HFA := Lib.hid hFA
                        have HSWA := Lib.hid hSW
                        replace y3 := keepB hB2 y3
                        replace xa := keepB hB2 xa
                        replace xb := keepB hB2 xb
                        replace x0b := keepB hB2 x0b
                        replace x1b := keepB hB2 x1b
                        have HQ1b := Lib.hid (fun hne => by obtain ⟨bb, ob, e9, hcc⟩ := HQ1.out hne; exact (⟨bb, ob, e9, fun i x hi j u hj => keepB hB2 (hcc i x hi j u hj)⟩ : ∃ bb ob, sa1 = some ⟨bb, ob, none⟩ ∧ ∀ i x, al[i]? = some x → ∀ j u, (Atr.cells x)[j]? = some u → wA.cell? ⟨bb, ob + i * 2 + j, none⟩ = some u))
                        have HQ2b := Lib.hid (fun hne => by obtain ⟨bb, ob, e9, hcc⟩ := HQ2.out hne; exact (⟨bb, ob, e9, fun i x hi j u hj => keepB hB2 (hcc i x hi j u hj)⟩ : ∃ bb ob, sa2 = some ⟨bb, ob, none⟩ ∧ ∀ i x, bl[i]? = some x → ∀ j u, (Atr.cells x)[j]? = some u → wA.cell? ⟨bb, ob + i * 2 + j, none⟩ = some u))
                        have HBA := Lib.hid (HB.out.trans (hB2.mono HB.out.size))
                        clear hO hO2 hSW hFA hB2 HB2 HG2 HQ1 HQ2 xa2
                        go_wp2_with fail
                        go_loopg [20, 21, 22] bl.length (fun g gv rv jv wy => ∃ j : Nat, g = bl.length - j ∧ j ≤ bl.length ∧ gv = .int .i64 (cntO (bl.take j)) ∧ jv = .int .i64 j ∧ Hid (Own Atr.cells 2 51 wA.heap.size wy rv ((bl.take j).filter (fun a : Atr => decide (a.name ≠ (⟨#[111, 119, 110]⟩ : ByteArray))))) ∧ Below wA.heap.size wA wy)
                        case atStart => exact ⟨0, by omega, by omega, by simp [cntO], rfl, Lib.hid Own.nil, Below.refl _ _⟩
                        case round =>
                          obtain ⟨j, hg2, hj, rfl, rfl, hO, hB2⟩ := hrel
                          have HG2 := Lib.hid hg2
                          have HB2 := Lib.hid hB2
                          have xb2 := keepB hB2 xb
                          have hcn := cntO_le bl j
                          clear hg2
                          by_cases hjl : j < bl.length
                          · obtain ⟨t, ht⟩ : ∃ t, bl[j]? = some t := ⟨_, List.getElem?_eq_getElem hjl⟩
                            obtain ⟨bb, ob, e9, hcc⟩ := HQ2b.out (by intro e; rw [e] at ht; simp at ht)
                            subst e9
                            have t0 : wr.cell? ⟨bb, ob + j * 2, none⟩ = some (.string t.name) := keepB hB2 (hcc j t ht 0 _ rfl)
                            have t1 : wr.cell? ⟨bb, ob + j * 2 + 1, none⟩ = some (.string t.value) := keepB hB2 (hcc j t ht 1 _ rfl)
                            have hjj : (j : Int) < (bl.length : Int) := by omega
                            have htk : bl.take (j + 1) = bl.take j ++ [t] := by rw [List.take_add_one, ht, Option.toList_some]
                            have HTK := Lib.hid htk
                            clear hcc hB2 ht htk
                            by_cases hn : t.name = ⟨#[111, 119, 110]⟩
                            · have HF : Hid ((bl.take (j + 1)).filter (fun a : Atr => decide (a.name ≠ (⟨#[111, 119, 110]⟩ : ByteArray))) = (bl.take j).filter (fun a : Atr => decide (a.name ≠ (⟨#[111, 119, 110]⟩ : ByteArray)))) := Lib.hid (by rw [HTK.out, List.filter_append]; simp [hn])
                              rw [hn] at t0
                              by_cases hv : t.value = ⟨#[121, 101, 115]⟩
                              · have HC : Hid (cntO (bl.take (j + 1)) = cntO (bl.take j) + 1) := Lib.hid (by rw [HTK.out, cntO_snoc, if_pos (by obtain ⟨_, _⟩ := t; simp only at hn hv; rw [hn, hv]; rfl)])
                                rw [hv] at t1
                                clear hn hv
                                go_wp2_with fail
                                go_roundg (bl.length - (j + 1))
                                case measure => rw [HG2.out]; omega
                                case rel => exact ⟨j + 1, rfl, by omega, by rw [HC.out]; simp, by simp, Lib.hid (by rw [HF.out]; exact hO.out), HB2.out⟩
                              · have HC : Hid (cntO (bl.take (j + 1)) = cntO (bl.take j)) := Lib.hid (by rw [HTK.out, cntO_snoc, if_neg (fun e => hv (by rw [e]; rfl))]; rfl)
                                have hv1 : (t.value.toList == [121, 101, 115]) = false := by
                                  cases h : (t.value.toList == [121, 101, 115]) with
                                  | false => rfl
                                  | true => exact absurd ((eq_bytes t.value ⟨#[121, 101, 115]⟩).1 (by simpa using eq_of_beq h)) hv
                                have hv2 : (t.value == ⟨#[121, 101, 115]⟩) = false := by rw [beq_bytes]; simp [hv]
                                clear hn hv
                                go_wp2_with fail
                                go_roundg (bl.length - (j + 1))
                                case measure => rw [HG2.out]; omega
                                case rel => exact ⟨j + 1, rfl, by omega, by rw [HC.out], by simp, Lib.hid (by rw [HF.out]; exact hO.out), HB2.out⟩
                            · have HC : Hid (cntO (bl.take (j + 1)) = cntO (bl.take j)) := Lib.hid (by rw [HTK.out, cntO_snoc, if_neg (fun e => hn (by rw [e]; rfl))]; rfl)
                              have HF : Hid ((bl.take (j + 1)).filter (fun a : Atr => decide (a.name ≠ (⟨#[111, 119, 110]⟩ : ByteArray))) = (bl.take j).filter (fun a : Atr => decide (a.name ≠ (⟨#[111, 119, 110]⟩ : ByteArray))) ++ [t]) := Lib.hid (by rw [HTK.out, List.filter_append]; simp [hn])
                              have hn1 : (t.name.toList == [111, 119, 110]) = false := by
                                cases h : (t.name.toList == [111, 119, 110]) with
                                | false => rfl
                                | true => exact absurd ((eq_bytes t.name ⟨#[111, 119, 110]⟩).1 (by simpa using eq_of_beq h)) hn
                              have hn2 : (t.name == ⟨#[111, 119, 110]⟩) = false := by rw [beq_bytes]; simp [hn]
                              have hfl : ((bl.take j).filter (fun a : Atr => decide (a.name ≠ (⟨#[111, 119, 110]⟩ : ByteArray)))).length ≤ j := Nat.le_trans (List.length_filter_le _ _) (by rw [List.length_take]; omega)
                              obtain ⟨fl, hfl0⟩ : ∃ fl, (bl.take j).filter (fun a : Atr => decide (a.name ≠ (⟨#[111, 119, 110]⟩ : ByteArray))) = fl := ⟨_, rfl⟩
                              have HFL := Lib.hid hfl0
                              have hown := hO.out
                              rw [hfl0] at hown hfl
                              have HO2 := Lib.hid hown
                              clear hO hfl0 hown hn
                              obtain ⟨i0, hi, hz0, hz1, hz2⟩ := info_parts info_attr
                              go_wp2_with (at_builtin; refine wpList_append_struct rfl _ _ _ rfl i0 (.agg #[.string ⟨#[]⟩, .string ⟨#[]⟩]) 32 Try.underlying29 hi hz0 hz1 hz2 rfl (by omega) (fun _ => rfl) (fun x u hu => by simp [Atr.cells] at hu; rcases hu with rfl | rfl <;> rfl) rfl (HO2.out.alloc _) t wr.heap.size 1 rfl ?_ (by unfold maxLen; omega) (by omega) (by have := HB2.out.size; simp; omega) ?_)
                              · intro jj u hj
                                have hju : (jj = 0 ∧ u = .string t.name) ∨ (jj = 1 ∧ u = .string t.value) := by
                                  match jj, hj with
                                  | 0, hj => simp [Atr.cells] at hj; exact .inl ⟨rfl, hj.symm⟩
                                  | 1, hj => simp [Atr.cells] at hj; exact .inr ⟨rfl, hj.symm⟩
                                  | n + 2, hj => simp [Atr.cells] at hj
                                rcases hju with ⟨rfl, rfl⟩ | ⟨rfl, rfl⟩ <;> go_simp
                              · intro v' w3 hown3 hx3
                                have HO3 := Lib.hid hown3
                                have HX3 := Lib.hid hx3
                                clear hown3 hx3
                                go_wp2_with fail
                                go_roundg (bl.length - (j + 1))
                                case measure => rw [HG2.out]; omega
                                case rel =>
                                  exact ⟨j + 1, rfl, by omega, by rw [HC.out], by simp, Lib.hid (by rw [HF.out, HFL.out]; exact HO3.out), Ext.new (HB2.out.alloc HB2.out.size _) HX3.out (fun i hi _ e => by have := (HO2.out.blk i e).1; omega) (by have := HB2.out.size; simp; omega)⟩
                          · obtain rfl : j = bl.length := by omega
                            obtain ⟨wB, rfl⟩ : ∃ wB : World, wB = wr := ⟨_, rfl⟩
                            have hO2 := hO.out
                            rw [List.take_length] at hO2
                            rw [List.take_length]
                            have hSW := hO2.slice (fun _ => rfl)
                            obtain ⟨FB, hFB⟩ : ∃ FB, bl.filter (fun a : Atr => decide (a.name ≠ (⟨#[111, 119, 110]⟩ : ByteArray))) = FB := ⟨_, rfl⟩
                            rw [hFB] at hSW
                            have hFAB : FB = FA := by rw [← hFB, ← HFA.out]; exact hasL_cov (o := justOp an ar bn br aa ba) HZA.out HZB.out
                            have HSWB := Lib.hid hSW
                            have HSWA2 := Lib.hid (HSWA.out.below hB2)
                            replace y3 := keepB hB2 y3
                            replace xb := keepB hB2 xb
                            replace xa := keepB hB2 xa
                            replace x0b := keepB hB2 x0b
                            replace x1b := keepB hB2 x1b
                            have HQ1c := Lib.hid (fun hne => by obtain ⟨bb, ob, e9, hcc⟩ := HQ1b.out hne; exact (⟨bb, ob, e9, fun i x hi j u hj => keepB hB2 (hcc i x hi j u hj)⟩ : ∃ bb ob, sa1 = some ⟨bb, ob, none⟩ ∧ ∀ i x, al[i]? = some x → ∀ j u, (Atr.cells x)[j]? = some u → wB.cell? ⟨bb, ob + i * 2 + j, none⟩ = some u))
                            have HBB := Lib.hid (HBA.out.trans (hB2.mono HBA.out.size))
                            have HFAB := Lib.hid hFAB
                            have hcnb := cntO_strict HZB.out.1
                            have hkey := just_key (o := justOp an ar bn br aa ba) HZA.out HZB.out HALL.out rfl rfl (cov_between (o := justOp an ar bn br aa ba) HA2.out HUQ.out hft htl rfl rfl rfl rfl HY.out)
                            have HKEY := Lib.hid hkey
                            have HCNB := Lib.hid hcnb
                            have hcn2 := cntO_le bl bl.length
                            rw [List.take_length] at hcn2
                            generalize cntO bl = cb9 at *
                            clear hO hO2 hSW hFB hB2 HB2 HG2 HQ1b HQ2b hFAB hkey hcnb xb2
                            go_wp2_with fail
                            refine (same_any _ _ FB FA _ HSWB.out HSWA2.out).mono ?_
                            rintro e w8 ⟨rfl, b8⟩
                            rw [decide_eq_true HFAB.out]
                            replace y3 := keepB b8 y3
                            replace xa := keepB b8 xa
                            replace x0b := keepB b8 x0b
                            replace x1b := keepB b8 x1b
                            have HB8 := Lib.hid (HBB.out.trans (b8.mono HBB.out.size))
                            have HQ1d := Lib.hid (fun hne => by obtain ⟨bb, ob, e9, hcc⟩ := HQ1c.out hne; exact (⟨bb, ob, e9, fun i x hi j u hj => keepB b8 (hcc i x hi j u hj)⟩ : ∃ bb ob, sa1 = some ⟨bb, ob, none⟩ ∧ ∀ i x, al[i]? = some x → ∀ j u, (Atr.cells x)[j]? = some u → w8.cell? ⟨bb, ob + i * 2 + j, none⟩ = some u))
                            have hcs := cntS_succ HY.out
                            clear b8 HBB HQ1c HSWB HSWA2 HFAB
                            cases hyg : y.gone with
                            | true =>
                              rw [hyg] at y3 hcs
                              go_wp2_with fail
                              go_roundg (l.length - (k + 1))
                              case measure => rw [HG.out]; omega
                              case rel => exact ⟨k + 1, rfl, by omega, by rw [hcs]; simp, by simp, HB8.out⟩
                            | false =>
                              rw [hyg] at y3 hcs
                              by_cases hq3 : fn ≤ cntS l k
                              · have hq4 : (fn : Int) ≤ (cntS l k : Int) := by omega
                                by_cases hq5 : cntS l k ≤ tn
                                · have hq6 : (cntS l k : Int) < (tn : Int) + 1 := by omega
                                  go_wp2_with fail
                                  go_loopg [25, 26] al.length (fun g ov jv wy => ∃ (j : Nat) (ob : Bool), g = al.length - j ∧ j ≤ al.length ∧ ov = .bool ob ∧ jv = .int .i64 j ∧ Hid (ob = anyO (al.take j)) ∧ wy = w8)
                                  case atStart => exact ⟨0, false, by omega, by omega, rfl, rfl, Lib.hid (by simp [anyO]), rfl⟩
                                  case round =>
                                    obtain ⟨j, ob9, hg2, hj, rfl, rfl, hO, rfl⟩ := hrel
                                    have HG2 := Lib.hid hg2
                                    clear hg2
                                    by_cases hjl : j < al.length
                                    · obtain ⟨t, ht⟩ : ∃ t, al[j]? = some t := ⟨_, List.getElem?_eq_getElem hjl⟩
                                      obtain ⟨bb, ob, e9, hcc⟩ := HQ1d.out (by intro e; rw [e] at ht; simp at ht)
                                      subst e9
                                      have t0 := hcc j t ht 0 _ rfl
                                      have t1 := hcc j t ht 1 _ rfl
                                      simp only [Nat.add_zero] at t0
                                      have hjj : (j : Int) < (al.length : Int) := by omega
                                      have htk : al.take (j + 1) = al.take j ++ [t] := by rw [List.take_add_one, ht, Option.toList_some]
                                      have HTK := Lib.hid htk
                                      clear hcc ht htk
                                      cases ob9 with
                                      | true =>
                                        clear t0 t1
                                        go_wp2_with fail
                                        go_roundg (al.length - (j + 1))
                                        case measure => rw [HG2.out]; omega
                                        case rel => exact ⟨j + 1, true, rfl, by omega, rfl, by simp, Lib.hid (by rw [HTK.out, anyO_snoc, ← hO.out]; rfl), rfl⟩
                                      | false =>
                                        by_cases hn : t.name = ⟨#[111, 119, 110]⟩
                                        · have hn9 := hn
                                          rw [hn] at t0
                                          by_cases hv : t.value = ⟨#[121, 101, 115]⟩
                                          · have HE : Hid (t = attrO) := Lib.hid (by obtain ⟨_, _⟩ := t; simp only at hn hv; rw [hn, hv]; rfl)
                                            rw [hv] at t1
                                            clear hn hv hn9
                                            go_wp2_with fail
                                            go_roundg (al.length - (j + 1))
                                            case measure => rw [HG2.out]; omega
                                            case rel => exact ⟨j + 1, true, rfl, by omega, rfl, by simp, Lib.hid (by rw [HTK.out, anyO_snoc, ← hO.out]; rw [HE.out]; decide), rfl⟩
                                          · have HE : Hid (t ≠ attrO) := Lib.hid (fun e => hv (by rw [e]; rfl))
                                            have hv1 : (t.value.toList == [121, 101, 115]) = false := by
                                              cases h : (t.value.toList == [121, 101, 115]) with
                                              | false => rfl
                                              | true => exact absurd ((eq_bytes t.value ⟨#[121, 101, 115]⟩).1 (by simpa using eq_of_beq h)) hv
                                            have hv2 : (t.value == ⟨#[121, 101, 115]⟩) = false := by rw [beq_bytes]; simp [hv]
                                            clear hn hv hn9
                                            go_wp2_with fail
                                            go_roundg (al.length - (j + 1))
                                            case measure => rw [HG2.out]; omega
                                            case rel => exact ⟨j + 1, false, rfl, by omega, rfl, by simp, Lib.hid (by rw [HTK.out, anyO_snoc, ← hO.out]; rw [decide_eq_false HE.out]; rfl), rfl⟩
                                        · have HE : Hid (t ≠ attrO) := Lib.hid (fun e => hn (by rw [e]; rfl))
                                          have hn1 : (t.name.toList == [111, 119, 110]) = false := by
                                            cases h : (t.name.toList == [111, 119, 110]) with
                                            | false => rfl
                                            | true => exact absurd ((eq_bytes t.name ⟨#[111, 119, 110]⟩).1 (by simpa using eq_of_beq h)) hn
                                          have hn2 : (t.name == ⟨#[111, 119, 110]⟩) = false := by rw [beq_bytes]; simp [hn]
                                          clear hn
                                          go_wp2_with fail
                                          go_roundg (al.length - (j + 1))
                                          case measure => rw [HG2.out]; omega
                                          case rel => exact ⟨j + 1, false, rfl, by omega, rfl, by simp, Lib.hid (by rw [HTK.out, anyO_snoc, ← hO.out]; rw [decide_eq_false HE.out]; rfl), rfl⟩
                                    · obtain rfl : j = al.length := by omega
                                      have hO2 := hO.out
                                      rw [List.take_length] at hO2
                                      clear hO HG2
                                      have hc1 : cb9 = 1 := HKEY.out.1 ⟨hyg, by omega, by omega⟩
                                      have HO2 := Lib.hid hO2
                                      subst hc1
                                      clear hO2
                                      go_wp2_with fail
                                      go_roundg (l.length - (k + 1))
                                      case measure => rw [HG.out]; omega
                                      case rel => exact ⟨k + 1, rfl, by omega, by rw [hcs]; simp, by simp, HB8.out⟩
                                · have hq6 : ¬ ((cntS l k : Int) < (tn : Int) + 1) := by omega
                                  go_wp2_with fail
                                  go_loopg [25, 26] al.length (fun g ov jv wy => ∃ (j : Nat) (ob : Bool), g = al.length - j ∧ j ≤ al.length ∧ ov = .bool ob ∧ jv = .int .i64 j ∧ Hid (ob = anyO (al.take j)) ∧ wy = w8)
                                  case atStart => exact ⟨0, false, by omega, by omega, rfl, rfl, Lib.hid (by simp [anyO]), rfl⟩
                                  case round =>
                                    obtain ⟨j, ob9, hg2, hj, rfl, rfl, hO, rfl⟩ := hrel
                                    have HG2 := Lib.hid hg2
                                    clear hg2
                                    by_cases hjl : j < al.length
                                    · obtain ⟨t, ht⟩ : ∃ t, al[j]? = some t := ⟨_, List.getElem?_eq_getElem hjl⟩
                                      obtain ⟨bb, ob, e9, hcc⟩ := HQ1d.out (by intro e; rw [e] at ht; simp at ht)
                                      subst e9
                                      have t0 := hcc j t ht 0 _ rfl
                                      have t1 := hcc j t ht 1 _ rfl
                                      simp only [Nat.add_zero] at t0
                                      have hjj : (j : Int) < (al.length : Int) := by omega
                                      have htk : al.take (j + 1) = al.take j ++ [t] := by rw [List.take_add_one, ht, Option.toList_some]
                                      have HTK := Lib.hid htk
                                      clear hcc ht htk
                                      cases ob9 with
                                      | true =>
                                        clear t0 t1
                                        go_wp2_with fail
                                        go_roundg (al.length - (j + 1))
                                        case measure => rw [HG2.out]; omega
                                        case rel => exact ⟨j + 1, true, rfl, by omega, rfl, by simp, Lib.hid (by rw [HTK.out, anyO_snoc, ← hO.out]; rfl), rfl⟩
                                      | false =>
                                        by_cases hn : t.name = ⟨#[111, 119, 110]⟩
                                        · have hn9 := hn
                                          rw [hn] at t0
                                          by_cases hv : t.value = ⟨#[121, 101, 115]⟩
                                          · have HE : Hid (t = attrO) := Lib.hid (by obtain ⟨_, _⟩ := t; simp only at hn hv; rw [hn, hv]; rfl)
                                            rw [hv] at t1
                                            clear hn hv hn9
                                            go_wp2_with fail
                                            go_roundg (al.length - (j + 1))
                                            case measure => rw [HG2.out]; omega
                                            case rel => exact ⟨j + 1, true, rfl, by omega, rfl, by simp, Lib.hid (by rw [HTK.out, anyO_snoc, ← hO.out]; rw [HE.out]; decide), rfl⟩
                                          · have HE : Hid (t ≠ attrO) := Lib.hid (fun e => hv (by rw [e]; rfl))
                                            have hv1 : (t.value.toList == [121, 101, 115]) = false := by
                                              cases h : (t.value.toList == [121, 101, 115]) with
                                              | false => rfl
                                              | true => exact absurd ((eq_bytes t.value ⟨#[121, 101, 115]⟩).1 (by simpa using eq_of_beq h)) hv
                                            have hv2 : (t.value == ⟨#[121, 101, 115]⟩) = false := by rw [beq_bytes]; simp [hv]
                                            clear hn hv hn9
                                            go_wp2_with fail
                                            go_roundg (al.length - (j + 1))
                                            case measure => rw [HG2.out]; omega
                                            case rel => exact ⟨j + 1, false, rfl, by omega, rfl, by simp, Lib.hid (by rw [HTK.out, anyO_snoc, ← hO.out]; rw [decide_eq_false HE.out]; rfl), rfl⟩
                                        · have HE : Hid (t ≠ attrO) := Lib.hid (fun e => hn (by rw [e]; rfl))
                                          have hn1 : (t.name.toList == [111, 119, 110]) = false := by
                                            cases h : (t.name.toList == [111, 119, 110]) with
                                            | false => rfl
                                            | true => exact absurd ((eq_bytes t.name ⟨#[111, 119, 110]⟩).1 (by simpa using eq_of_beq h)) hn
                                          have hn2 : (t.name == ⟨#[111, 119, 110]⟩) = false := by rw [beq_bytes]; simp [hn]
                                          clear hn
                                          go_wp2_with fail
                                          go_roundg (al.length - (j + 1))
                                          case measure => rw [HG2.out]; omega
                                          case rel => exact ⟨j + 1, false, rfl, by omega, rfl, by simp, Lib.hid (by rw [HTK.out, anyO_snoc, ← hO.out]; rw [decide_eq_false HE.out]; rfl), rfl⟩
                                    · obtain rfl : j = al.length := by omega
                                      have hO2 := hO.out
                                      rw [List.take_length] at hO2
                                      clear hO HG2
                                      by_cases hc1 : cb9 = 1
                                      · have hob : ob9 = true := by rw [hO2]; exact HKEY.out.2 (fun h => by have := h.2; omega) hyg hc1
                                        subst hc1 hob
                                        clear hO2
                                        go_wp2_with fail
                                        go_roundg (l.length - (k + 1))
                                        case measure => rw [HG.out]; omega
                                        case rel => exact ⟨k + 1, rfl, by omega, by rw [hcs]; simp, by simp, HB8.out⟩
                                      · have hc2 : ¬ ((cb9 : Int) = 1) := by omega
                                        clear hO2
                                        go_wp2_with fail
                                        go_roundg (l.length - (k + 1))
                                        case measure => rw [HG.out]; omega
                                        case rel => exact ⟨k + 1, rfl, by omega, by rw [hcs]; simp, by simp, HB8.out⟩
                              · have hq4 : ¬ ((fn : Int) ≤ (cntS l k : Int)) := by omega
                                go_wp2_with fail
                                go_loopg [25, 26] al.length (fun g ov jv wy => ∃ (j : Nat) (ob : Bool), g = al.length - j ∧ j ≤ al.length ∧ ov = .bool ob ∧ jv = .int .i64 j ∧ Hid (ob = anyO (al.take j)) ∧ wy = w8)
                                case atStart => exact ⟨0, false, by omega, by omega, rfl, rfl, Lib.hid (by simp [anyO]), rfl⟩
                                case round =>
                                  obtain ⟨j, ob9, hg2, hj, rfl, rfl, hO, rfl⟩ := hrel
                                  have HG2 := Lib.hid hg2
                                  clear hg2
                                  by_cases hjl : j < al.length
                                  · obtain ⟨t, ht⟩ : ∃ t, al[j]? = some t := ⟨_, List.getElem?_eq_getElem hjl⟩
                                    obtain ⟨bb, ob, e9, hcc⟩ := HQ1d.out (by intro e; rw [e] at ht; simp at ht)
                                    subst e9
                                    have t0 := hcc j t ht 0 _ rfl
                                    have t1 := hcc j t ht 1 _ rfl
                                    simp only [Nat.add_zero] at t0
                                    have hjj : (j : Int) < (al.length : Int) := by omega
                                    have htk : al.take (j + 1) = al.take j ++ [t] := by rw [List.take_add_one, ht, Option.toList_some]
                                    have HTK := Lib.hid htk
                                    clear hcc ht htk
                                    cases ob9 with
                                    | true =>
                                      clear t0 t1
                                      go_wp2_with fail
                                      go_roundg (al.length - (j + 1))
                                      case measure => rw [HG2.out]; omega
                                      case rel => exact ⟨j + 1, true, rfl, by omega, rfl, by simp, Lib.hid (by rw [HTK.out, anyO_snoc, ← hO.out]; rfl), rfl⟩
                                    | false =>
                                      by_cases hn : t.name = ⟨#[111, 119, 110]⟩
                                      · have hn9 := hn
                                        rw [hn] at t0
                                        by_cases hv : t.value = ⟨#[121, 101, 115]⟩
                                        · have HE : Hid (t = attrO) := Lib.hid (by obtain ⟨_, _⟩ := t; simp only at hn hv; rw [hn, hv]; rfl)
                                          rw [hv] at t1
                                          clear hn hv hn9
                                          go_wp2_with fail
                                          go_roundg (al.length - (j + 1))
                                          case measure => rw [HG2.out]; omega
                                          case rel => exact ⟨j + 1, true, rfl, by omega, rfl, by simp, Lib.hid (by rw [HTK.out, anyO_snoc, ← hO.out]; rw [HE.out]; decide), rfl⟩
                                        · have HE : Hid (t ≠ attrO) := Lib.hid (fun e => hv (by rw [e]; rfl))
                                          have hv1 : (t.value.toList == [121, 101, 115]) = false := by
                                            cases h : (t.value.toList == [121, 101, 115]) with
                                            | false => rfl
                                            | true => exact absurd ((eq_bytes t.value ⟨#[121, 101, 115]⟩).1 (by simpa using eq_of_beq h)) hv
                                          have hv2 : (t.value == ⟨#[121, 101, 115]⟩) = false := by rw [beq_bytes]; simp [hv]
                                          clear hn hv hn9
                                          go_wp2_with fail
                                          go_roundg (al.length - (j + 1))
                                          case measure => rw [HG2.out]; omega
                                          case rel => exact ⟨j + 1, false, rfl, by omega, rfl, by simp, Lib.hid (by rw [HTK.out, anyO_snoc, ← hO.out]; rw [decide_eq_false HE.out]; rfl), rfl⟩
                                      · have HE : Hid (t ≠ attrO) := Lib.hid (fun e => hn (by rw [e]; rfl))
                                        have hn1 : (t.name.toList == [111, 119, 110]) = false := by
                                          cases h : (t.name.toList == [111, 119, 110]) with
                                          | false => rfl
                                          | true => exact absurd ((eq_bytes t.name ⟨#[111, 119, 110]⟩).1 (by simpa using eq_of_beq h)) hn
                                        have hn2 : (t.name == ⟨#[111, 119, 110]⟩) = false := by rw [beq_bytes]; simp [hn]
                                        clear hn
                                        go_wp2_with fail
                                        go_roundg (al.length - (j + 1))
                                        case measure => rw [HG2.out]; omega
                                        case rel => exact ⟨j + 1, false, rfl, by omega, rfl, by simp, Lib.hid (by rw [HTK.out, anyO_snoc, ← hO.out]; rw [decide_eq_false HE.out]; rfl), rfl⟩
                                  · obtain rfl : j = al.length := by omega
                                    have hO2 := hO.out
                                    rw [List.take_length] at hO2
                                    clear hO HG2
                                    by_cases hc1 : cb9 = 1
                                    · have hob : ob9 = true := by rw [hO2]; exact HKEY.out.2 (fun h => by have := h.2; omega) hyg hc1
                                      subst hc1 hob
                                      clear hO2
                                      go_wp2_with fail
                                      go_roundg (l.length - (k + 1))
                                      case measure => rw [HG.out]; omega
                                      case rel => exact ⟨k + 1, rfl, by omega, by rw [hcs]; simp, by simp, HB8.out⟩
                                    · have hc2 : ¬ ((cb9 : Int) = 1) := by omega
                                      clear hO2
                                      go_wp2_with fail
                                      go_roundg (l.length - (k + 1))
                                      case measure => rw [HG.out]; omega
                                      case rel => exact ⟨k + 1, rfl, by omega, by rw [hcs]; simp, by simp, HB8.out⟩
                  · obtain rfl : k = l.length := by omega
                    have hBE := HB7.out.trans (hB.mono HB7.out.size)
                    clear hB HB
                    go_wp2_with fail
                    refine (alive_any _).mono ?_
                    rintro e w6 ⟨rfl, b6⟩
                    have hB6 := hBE.trans (b6.mono hBE.size)
                    clear b6 hBE
                    go_wp2_with fail
                    go_ret
                    exact ⟨rfl, hB6⟩
end Go.Proofs.Ytlfmkoapddihcaa
