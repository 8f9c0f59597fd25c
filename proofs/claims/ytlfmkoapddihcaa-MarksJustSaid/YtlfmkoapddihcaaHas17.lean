/- Layer 17: has: what an element has, by rising names. -/
import Derived.Test.YtlfmkoapddihcaaKeyB
import Derived.Test.YtlfmkoapddihcaaCmpStr
import Derived.Test.YtlfmkoapddihcaaIter
import Derived.Test.YtlfmkoapddihcaaOp17
import Derived.Test.YtlfmkoapddihcaaStepIn
import Derived.Test.YtlfmkoapddihcaaSortOwn
import Derived.Test.YtlfmkoapddihcaaSort
import Derived.Sort.Walk0
import Derived.Deep.LoopGhost
namespace Go.Proofs.Ytlfmkoapddihcaa
open Go.RowKit Go.Sort Go.Shelf
set_option linter.unusedSimpArgs false
set_option linter.unusedVariables false
attribute [local go_sem] MapIs.alloc MapIs.drew MapIs.setCell

/-- A name and its value. -/
structure Atr where
  name : ByteArray
  value : ByteArray
  deriving DecidableEq
instance : Inhabited Atr := ⟨⟨⟨#[]⟩, ⟨#[]⟩⟩⟩
def Atr.cells (x : Atr) : List Value := [.string x.name, .string x.value]
def Atr.val (x : Atr) : Value := .agg #[.string x.name, .string x.value]

theorem swo_name : SWO (ltOf fun x y : Atr => cmpB x.name y.name) where
  irrefl x := by simp only [ltOf, ltB]; simp [List.lt_irrefl]
  trans x y z h1 h2 := by simp only [ltOf, ltB, decide_eq_true_eq] at *; exact List.lt_trans h1 h2
  ntrans x y z h1 h2 := by
    simp only [ltOf, ltB, decide_eq_false_iff_not] at *
    intro h
    exact (List.le_trans h2 h1) h

set_option maxHeartbeats 400000 in
theorem has1_any (x y : Atr) (w : World) :
    Calls Try.prog 35 #[.agg x.cells.toArray, .agg y.cells.toArray] w fun e w' => e = .returned (.int .i64 (cmpB x.name y.name)) ∧ ∃ q os', w' = grow (w.drewN q) os' := by
  unfold Atr.cells
  go_enter Try.func35, Try.ntmps35
  go_wp2_with (go_at_call 36; refine (cmpStr_any _ _ _).mono ?_; rintro e w' ⟨rfl, rfl⟩)
  go_ret
  exact ⟨rfl, 0, _, by rw [alloc_eq_grow, alloc_eq_grow, grow_grow]; rfl⟩

theorem sortAttr_own {base : Nat} {w : World} {v : Value} {l : List Atr} (h : Own Atr.cells 2 51 base w v l) (hl : l.length < 4611686018427387904) :
    Calls Try.prog 34 #[v, .func (.func 35) #[] #[]] w fun e w' => e = .returned (.tuple #[]) ∧ ∃ l', l'.Perm l ∧ l'.Pairwise (fun a b => ltOf (fun x y : Atr => cmpB x.name y.name) b a = false) ∧ Own Atr.cells 2 51 base w' v l' ∧ Ext (fun b => v.ownBlock = some b) w w' := by
  have eg : ∀ args w, (callFunc 35 args).run Try.prog w = .ok (.enter 35 args) w := enters_of Try.func35 (by kernel_rfl) rfl
  refine sort_own (fun _ => rfl) (by omega) (fun blk cap d w hH hb hs => ?_) (fun p cap w => ?_) h hl
  · exact AnyQ.slices_SortFunc Try.sortAttr 2 Try.isAgg51 Try.sizeOf51 Atr.cells (fun _ => rfl) (fun x v hv => by simp [Atr.cells] at hv; rcases hv with rfl | rfl <;> rfl) (fun x y => cmpB x.name y.name) swo_name 35 #[] blk 0 cap d w eg (fun _ _ _ _ x y => has1_any x y _) hH hb hs
  · exact AnyF.slices_SortFunc_none Try.sortAttr p cap _ w

/-- What some marks say of an element, of one name the last one. -/
def hasM (F : List Mark) (i : Int) : List (ByteArray × Atr) := F.foldl (fun h x => if x.lo ≤ i ∧ i < x.hi then aset h x.op.name ⟨x.op.name, x.op.value⟩ else h) []
theorem hasM_snoc (F : List Mark) (x : Mark) (i : Int) : hasM (F ++ [x]) i = if x.lo ≤ i ∧ i < x.hi then aset (hasM F i) x.op.name ⟨x.op.name, x.op.value⟩ else hasM F i := by simp [hasM]
def attrsH (vs : List (ByteArray × Atr)) : List Atr := (vs.map (·.2)).filter fun a => decide (a.value ≠ ⟨#[]⟩)
theorem attrsH_append (a b : List (ByteArray × Atr)) : attrsH (a ++ b) = attrsH a ++ attrsH b := by simp [attrsH]
theorem attrsH_perm {a b : List (ByteArray × Atr)} (h : a.Perm b) : (attrsH a).Perm (attrsH b) := (h.map _).filter _
theorem attrsH_le (a : List (ByteArray × Atr)) : (attrsH a).length ≤ a.length := by
  have := List.length_filter_le (fun a : Atr => decide (a.value ≠ ⟨#[]⟩)) (a.map (·.2))
  rwa [List.length_map] at this
theorem hasM_le_aux (i : Int) : ∀ (F : List Mark) (h : List (ByteArray × Atr)), (F.foldl (fun h x => if x.lo ≤ i ∧ i < x.hi then aset h x.op.name (⟨x.op.name, x.op.value⟩ : Atr) else h) h).length ≤ h.length + F.length
  | [], h => by simp
  | x :: F, h => by
    rw [List.foldl_cons, List.length_cons]
    refine Nat.le_trans (hasM_le_aux i F _) ?_
    split
    · have := aset_length_le h x.op.name (⟨x.op.name, x.op.value⟩ : Atr)
      omega
    · omega
theorem hasM_le (F : List Mark) (i : Int) : (hasM F i).length ≤ F.length := by
  have := hasM_le_aux i F []
  simpa [hasM] using this
theorem perm_erase {α : Type} {l : List α} {i : Nat} {x : α} (h : l[i]? = some x) : l.Perm (x :: l.eraseIdx i) := by
  induction l generalizing i with
  | nil => simp at h
  | cons y l ih =>
    cases i with
    | zero => simp at h; subst h; simp
    | succ i =>
      simp at h
      exact (List.Perm.cons y (ih h)).trans (List.Perm.swap x y _)

theorem und_hasm : Try.prog.underlying 81 = some (.map 9 51) := by kernel_rfl
theorem info_attr : (Try.prog.info? 51).map (fun i => (i.zero, i.size, i.bytes)) = some (some (.agg #[.string ⟨#[]⟩, .string ⟨#[]⟩]), 2, 32) := by kernel_rfl
theorem mark_ty : StructTy Try.prog 78 28 := ⟨fun w => by kernel_rfl, fun w => by kernel_rfl⟩

/-- What the second loop has at its head. -/
def HasRel (w : World) (B it mv : Nat) (vs : List (ByteArray × Atr)) (k : Nat) (v : Value) (wr : World) : Prop :=
  ∃ left dn cur, (dn ++ left).Perm vs ∧ k = left.length ∧ IterIs Value.string Atr.val wr it mv vs left cur ∧ Own Atr.cells 2 51 B wr v (attrsH dn) ∧ Below w.heap.size w wr ∧ B ≤ wr.heap.size

set_option maxRecDepth 100000 in
set_option maxHeartbeats 1000000 in
theorem has_any (v : Value) (F : List Mark) (i : Int) (w : World) (hF : SliceIs Mark.cells 28 w v F) (hn : F.length ≤ 1000) :
    Calls Try.prog 24 #[v, .int .i64 i] w
      fun e w' => ∃ u l', e = .returned u ∧ Own Atr.cells 2 51 w.heap.size w' u l' ∧ l'.Perm (attrsH (hasM F i)) ∧ l'.Pairwise (fun a b => ltOf (fun x y : Atr => cmpB x.name y.name) b a = false) ∧ Below w.heap.size w w' := by
  obtain ⟨va, vc, rfl, hcap, hmax, hcs⟩ := id hF
  unfold maxLen at hmax
  have hmm := @run_makeMap Try.prog
  have HC := Lib.hid hcs
  clear hcs
  have m0 : MapIs Value.string Atr.val (w.alloc (.map #[] 0)) w.heap.size [] := MapIs.made w
  have B0 : Below w.heap.size w (w.alloc (.map #[] 0)) := (Below.refl _ _).alloc (Nat.le_refl _) _
  have z0 : w.heap.size < (w.alloc (.map #[] 0)).heap.size := by simp
  go_enter Try.func24, Try.ntmps24
  go_wp2_with fail
  go_loopg [14] F.length (fun g iv wr => ∃ k : Nat, g = F.length - k ∧ k ≤ F.length ∧ iv = .int .i64 k ∧ MapIs Value.string Atr.val wr w.heap.size (hasM (F.take k) i) ∧ Below w.heap.size w wr)
  case atStart => exact ⟨0, by omega, by omega, rfl, by simpa [hasM] using m0, B0⟩
  case round =>
    clear m0 B0 z0
    obtain ⟨k, hg, hk, rfl, hM, hB⟩ := hrel
    have hMl := hM.lt
    by_cases hkl : k < F.length
    · obtain ⟨x, hx⟩ : ∃ x, F[k]? = some x := ⟨_, List.getElem?_eq_getElem hkl⟩
      have hne : F ≠ [] := by intro e; rw [e] at hx; simp at hx
      obtain ⟨b, o, rfl, hcc⟩ := HC.out hne
      have hb0 : ∀ j u, (Mark.cells x)[j]? = some u → wr.cell? ⟨b, o + k * 28 + j, none⟩ = some u := fun j u h => by
        have h1 := hcc k x hx j u h
        exact (World.cell?_of_block (w := w) (hB.block b (cell_lt h1))).trans h1
      have HLD := Lib.hid (load_of_cells (P := Try.prog) mark_ty (Mark.len x) hb0)
      have hkk : (k : Int) < (F.length : Int) := by omega
      have q18 : (wr.alloc (.cells (Mark.cells x).toArray 78)).cell? ⟨wr.heap.size, 18, none⟩ = some (.string x.op.name) := allocd_cells 18 _ rfl
      have q19 : (wr.alloc (.cells (Mark.cells x).toArray 78)).cell? ⟨wr.heap.size, 19, none⟩ = some (.string x.op.value) := allocd_cells 19 _ rfl
      have q26 : (wr.alloc (.cells (Mark.cells x).toArray 78)).cell? ⟨wr.heap.size, 26, none⟩ = some (.int .i64 x.lo) := allocd_cells 26 _ rfl
      have q27 : (wr.alloc (.cells (Mark.cells x).toArray 78)).cell? ⟨wr.heap.size, 27, none⟩ = some (.int .i64 x.hi) := allocd_cells 27 _ rfl
      have hupd : ∀ W, MapIs Value.string Atr.val W w.heap.size (hasM (F.take k) i) → (Instr.mapUpdate 81 (.map (some w.heap.size)) (.string x.op.name) (.agg #[.string x.op.name, .string x.op.value])).run Try.prog W = .ok () (mapPut W w.heap.size (aidx (hasM (F.take k) i) x.op.name) (.string x.op.name) (.agg #[.string x.op.name, .string x.op.value])) := fun W hW => hW.update key_string und_hasm x.op.name _
      have hsn : hasM (F.take (k + 1)) i = if x.lo ≤ i ∧ i < x.hi then aset (hasM (F.take k) i) x.op.name ⟨x.op.name, x.op.value⟩ else hasM (F.take k) i := by
        rw [List.take_add_one, hx, Option.toList_some, hasM_snoc]
      have HSN := Lib.hid hsn
      have HP := Lib.hid ((hM.alloc (.cells (Mark.cells x).toArray 78)).put x.op.name ⟨x.op.name, x.op.value⟩)
      have HB := Lib.hid (hB.alloc hB.size (.cells (Mark.cells x).toArray 78))
      have HG := Lib.hid hg
      clear hcc hb0 hsn hB hg
      by_cases h1 : x.lo ≤ i
      · by_cases h2 : i < x.hi
        · go_wp2_with (first
            | refine wpList_load_run (o := ⟨some 17, _, _, _, _, _⟩) rfl rfl rfl HLD.out ?_
            | refine wpList_store_run (T := 78) rfl rfl rfl rfl (run_store_fresh mark_ty rfl (Mark.len x) (Mark.one x)) ?_)
          go_roundg (F.length - (k + 1))
          case measure => rw [HG.out]; omega
          case rel => exact ⟨k + 1, rfl, by omega, by simp, by rw [HSN.out, if_pos ⟨h1, h2⟩]; exact HP.out, Ext.new HB.out (mapPut_ext _ _ _ _ _) (fun j hj _ e => by omega) (by simp; omega)⟩
        · go_wp2_with (first
            | refine wpList_load_run (o := ⟨some 17, _, _, _, _, _⟩) rfl rfl rfl HLD.out ?_
            | refine wpList_store_run (T := 78) rfl rfl rfl rfl (run_store_fresh mark_ty rfl (Mark.len x) (Mark.one x)) ?_)
          go_roundg (F.length - (k + 1))
          case measure => rw [HG.out]; omega
          case rel => exact ⟨k + 1, rfl, by omega, by simp, by rw [HSN.out, if_neg (fun h => by obtain ⟨_, _⟩ := h; omega)]; exact hM.alloc _, HB.out⟩
      · go_wp2_with (first
            | refine wpList_load_run (o := ⟨some 17, _, _, _, _, _⟩) rfl rfl rfl HLD.out ?_
            | refine wpList_store_run (T := 78) rfl rfl rfl rfl (run_store_fresh mark_ty rfl (Mark.len x) (Mark.one x)) ?_)
        go_roundg (F.length - (k + 1))
        case measure => rw [HG.out]; omega
        case rel => exact ⟨k + 1, rfl, by omega, by simp, by rw [HSN.out, if_neg (fun h => by obtain ⟨_, _⟩ := h; omega)]; exact hM.alloc _, HB.out⟩
    · obtain rfl : k = F.length := by omega
      rw [List.take_length] at hM
      obtain ⟨w1, hrange, hit, hb1, hz1⟩ := hM.range (P := Try.prog) und_hasm
      have HB := Lib.hid (hB.trans (hb1.mono (hB.size)))
      obtain ⟨it, hit0⟩ : ∃ it, wr.heap.size = it := ⟨_, rfl⟩
      rw [hit0] at hit hrange hz1 hMl
      have HZ := Lib.hid hz1
      clear hM hB hb1 hz1
      have hml := hasM_le F i
      obtain ⟨vs, hvs⟩ : ∃ vs, hasM F i = vs := ⟨_, rfl⟩
      rw [hvs] at hit hml
      have HVS := Lib.hid hvs
      clear hvs
      obtain ⟨i0, hi, hz0, hz1', hz2⟩ := info_parts info_attr
      clear hF HC hcap hmax hmm
      go_wp2_with fail
      go_loopg [8] vs.length (fun g v wx => HasRel w (it + 1) it w.heap.size vs g v wx)
      case atStart => exact ⟨vs, [], none, List.Perm.refl _, rfl, hit, Own.nil, HB.out, by rw [HZ.out]; exact Nat.le_refl _⟩
      case round =>
        clear hit hrange
        obtain ⟨left, dn, cur, hperm, hk2, hiter, hown, hB, hBs⟩ := hrel
        rcases hiter.next (P := Try.prog) (by omega) with ⟨hnil, hnx⟩ | ⟨t, p, w2, hip, hnx, hiter2, hx2, hs2⟩
        · have HN := Lib.hid hnil
          clear hk2 hnil
          go_wp2_with fail
          refine (sortAttr_own hown (by have := attrsH_le dn; have := hperm.length_eq; simp at this; omega)).mono ?_
          rintro e w3 ⟨rfl, l', hl1, hl2, hl3, hx3⟩
          have hb3 : Below w.heap.size w w3 := Ext.new hB hx3 (fun j hj _ e => by have := (hown.blk j e).1; omega) (by omega)
          have hp3 : l'.Perm (attrsH vs) := by
            rw [HN.out, List.append_nil] at hperm
            exact hl1.trans (attrsH_perm hperm)
          have hl4 := hl3.mono (b' := w.heap.size) (by omega)
          have HL2 := Lib.hid hl2
          have HP3 := Lib.hid hp3
          have HB3 := Lib.hid hb3
          have HL4 := Lib.hid hl4
          clear hp3 hb3 hl1 hl2 hl3 hl4 hx3 hown hperm hnx hiter
          go_wp2_with fail
          go_ret
          exact ⟨_, l', rfl, HL4.out, by rw [HVS.out]; exact HP3.out, HL2.out, HB3.out⟩
        · obtain ⟨pn, ⟨xn, xval⟩⟩ := p
          simp only [Atr.val] at hnx
          have hen : ∀ W, IterIs Value.string Atr.val W it w.heap.size vs (left.eraseIdx t) (some (pn, ⟨xn, xval⟩)) → (Instr.entry (.pointer (some ⟨it, 0, none⟩))).run Try.prog W = .ok (.tuple #[.string pn, .agg #[.string xn, .string xval]]) W := fun W hW => hW.entry
          have HK := Lib.hid hk2
          have HS := Lib.hid hs2
          have HI := Lib.hid hip
          clear hk2 hs2 hip
          have hown2 := hown.ext hx2 (fun b hb e => by have := (hown.blk b hb).1; omega)
          have hB2 : Below w.heap.size w w2 := Ext.new hB hx2 (fun j hj _ e => by omega) (by omega)
          have hs2 : it + 1 ≤ w2.heap.size := by rw [HS.out]; exact hBs
          have hlen := attrsH_le dn
          have hlen2 := hperm.length_eq
          rw [List.length_append] at hlen2
          have hlen3 : (attrsH dn).length ≤ 1099511627776 := by omega
          have hper2 : ((dn ++ [((pn, ⟨xn, xval⟩) : ByteArray × Atr)]) ++ left.eraseIdx t).Perm vs := by
            rw [List.append_assoc]
            exact (List.Perm.append_left dn (perm_erase HI.out).symm).trans hperm
          have hk3 : (left.eraseIdx t).length < left.length := by
            rw [List.length_eraseIdx]
            have := (List.getElem?_eq_some_iff.1 HI.out).1
            rw [if_pos this]; omega
          rw [← HK.out] at hk3
          have HK3 := Lib.hid hk3
          have HP := Lib.hid hper2
          clear hlen hlen2 hperm hper2 hown hB hiter hx2 hBs hk3
          by_cases hv : xval = ⟨#[]⟩
          · have ha : attrsH (dn ++ [((pn, ⟨xn, xval⟩) : ByteArray × Atr)]) = attrsH dn := by rw [attrsH_append]; simp [attrsH, hv]
            have HA := Lib.hid ha
            clear ha
            subst hv
            go_wp2_with fail
            go_roundg (left.eraseIdx t).length
            case measure => exact HK3.out
            case rel => exact ⟨left.eraseIdx t, _, _, HP.out, rfl, hiter2.alloc _, by rw [HA.out]; exact hown2.alloc _, hB2.alloc (by omega) _, by simp; omega⟩
          · have ha : attrsH (dn ++ [((pn, ⟨xn, xval⟩) : ByteArray × Atr)]) = attrsH dn ++ [⟨xn, xval⟩] := by rw [attrsH_append]; simp [attrsH, hv]
            have HA := Lib.hid ha
            have hv1 : (xval.toList == []) = false := by
              cases h : (xval.toList == []) with
              | false => rfl
              | true => exact absurd ((eq_bytes xval ⟨#[]⟩).1 (by simpa using eq_of_beq h)) hv
            have hv2 : (xval == ⟨#[]⟩) = false := by rw [beq_bytes]; simp [hv]
            clear ha
            go_wp2_with (at_builtin; refine wpList_append_struct rfl _ _ _ rfl i0 (.agg #[.string ⟨#[]⟩, .string ⟨#[]⟩]) 32 Try.underlying29 hi hz0 hz1' hz2 rfl (by omega) (fun _ => rfl) (fun x u hu => by simp [Atr.cells] at hu; rcases hu with rfl | rfl <;> rfl) rfl ((hown2.alloc _).alloc _) ⟨xn, xval⟩ (w2.heap.size + 1) 1 rfl ?_ (by unfold maxLen; omega) (by omega) (by simp; omega) ?_)
            · intro j u hj
              have hju : (j = 0 ∧ u = .string xn) ∨ (j = 1 ∧ u = .string xval) := by
                match j, hj with
                | 0, hj => simp [Atr.cells] at hj; exact .inl ⟨rfl, hj.symm⟩
                | 1, hj => simp [Atr.cells] at hj; exact .inr ⟨rfl, hj.symm⟩
                | n + 2, hj => simp [Atr.cells] at hj
              rcases hju with ⟨rfl, rfl⟩ | ⟨rfl, rfl⟩ <;> go_simp
            · intro v' w3 hown3 hx3
              go_wp2_with fail
              go_roundg (left.eraseIdx t).length
              case measure => exact HK3.out
              case rel =>
                have hne : ∀ b, u8.ownBlock = some b → it + 1 ≤ b := fun b hb => (hown2.blk b hb).1
                refine ⟨left.eraseIdx t, _, _, HP.out, rfl, ((hiter2.alloc _).alloc _).ext hx3 (fun e => by have := hne _ e; omega) (fun e => by have := hne _ e; omega), by rw [HA.out]; exact hown3, ?_, ?_⟩
                · exact Ext.new ((hB2.alloc (by omega) _).alloc (by simp; omega) _) hx3 (fun b hb _ e => by have := hne _ e; omega) (by simp; omega)
                · have := hx3.size; simp at this; omega

end Go.Proofs.Ytlfmkoapddihcaa
