/- Contract of Disk.Cut. -/
import Derived.Test.YtmlaojfhmaamcaaCutP06
import Derived.Test.YtmlaojfhmaamcaaIter
namespace Go.Proofs.Ytmlaojfhmaamcaa
open Go.RowKit Go.Deep
set_option linter.unusedSimpArgs false
set_option linter.unusedVariables false

theorem upto_mem {safe at_ : Int} {n : ByteArray} {g : Nat} : ∀ {cs : List Chg} {op : Nat} {m : List (ByteArray × Nat)}, (n, g) ∈ upto safe at_ cs op m → (n, g) ∈ m ∨ ∃ c ∈ cs, n = c.name ∧ c.f = some g
  | [], _, _, h => .inl h
  | c :: cs, op, m, h => by
    unfold upto at h
    have key : ∀ {op'}, (n, g) ∈ upto safe at_ cs op' (applyC c m) → (n, g) ∈ m ∨ ∃ c' ∈ c :: cs, n = c'.name ∧ c'.f = some g := fun h => by
      rcases upto_mem h with h | ⟨c', h1, h2⟩
      · rcases applyC_mem h with h | h
        · exact .inl h
        · exact .inr ⟨c, List.mem_cons_self, h⟩
      · exact .inr ⟨c', List.mem_cons_of_mem _ h1, h2⟩
    split at h
    · split at h
      · exact .inl h
      · exact key h
    · exact key h
theorem namesAt_ok {A : DiskA} (h : A.Ok) {at_ names : Int} {n : ByteArray} {f : Nat} (hm : (n, f) ∈ namesAtA A at_ names) : f ∈ A.ids ∧ n.size ≤ 8 := by
  unfold namesAtA at hm
  rcases upto_mem hm with hm | ⟨c, hc, rfl, hf⟩
  · exact h.inb n f hm
  · exact h.inc c hc f hf

/-- A slice of one struct, just made: the call's own. -/
theorem Own.single {α : Type} {ea : α → List Value} {k : Nat} {e : TypeId} {base g : Nat} {w : World} {x : α} (hk : ∀ x, (ea x).length = k) (hb : w.heap[g]? = some (.cells (ea x).toArray e (0, 0))) (hg : base ≤ g) : Own ea k e base w (.slice (some ⟨g, 0, none⟩) 1 1) [x] := by
  refine ⟨by simp [hk], .inr ⟨g, 1, (ea x).toArray, rfl, hg, hb, Nat.le_refl _, by unfold maxLen; omega, by simp [hk], ?_⟩⟩
  simp [hk]
  rw [List.take_of_length_le (by rw [hk]; exact Nat.le_refl _)]

theorem iter_ne {K V : Type} [DecidableEq K] {ek : K → Value} {ev : V → Value} {K2 V2 : Type} [DecidableEq K2] {ek2 : K2 → Value} {ev2 : V2 → Value} {w : World} {r b b2 : Nat} {l left : List (K × V)} {cur : Option (K × V)} {l2 : List (K2 × V2)} (h : IterIs ek ev w r b l left cur) (k : MapIs ek2 ev2 w b2 l2) : r ≠ b2 := by
  rintro rfl
  obtain ⟨hn, es, clock, seen, h1, h2, _⟩ := h
  obtain ⟨_, es2, cl2, h3, _⟩ := k
  rw [h2] at h3
  cases h3
theorem iter_tag {K V : Type} [DecidableEq K] {ek : K → Value} {ev : V → Value} {w : World} {r b : Nat} {l left : List (K × V)} {cur : Option (K × V)} (h : IterIs ek ev w r b l left cur) : tagOf w r = none := by
  obtain ⟨hn, es, clock, seen, h1, h2, _⟩ := h
  simp [tagOf, h2]
theorem perm_erase {α : Type} {l : List α} {i : Nat} {x : α} (h : l[i]? = some x) : l.Perm (x :: l.eraseIdx i) := by
  induction l generalizing i with
  | nil => simp at h
  | cons y l ih =>
    cases i with
    | zero => simp at h; subst h; simp
    | succ i =>
      simp at h
      exact (List.Perm.cons y (ih h)).trans (List.Perm.swap x y _)

/-- A step of an iterator leaves a disk. -/
theorem DiskIs.iter {base : Nat} {w w' : World} {D : DSh} {A : DiskA} (h : DiskIs base w D A) {r : Nat} (hx : Ext (· = r) w w') (ht : tagOf w r = none) (h1 : r ≠ D.mf) (h2 : r ≠ D.mb) : DiskIs base w' D A :=
  h.ext hx (fun b hb e => by
    subst e
    rcases hb with e | e | e | e | e | ⟨f, hf, e | e⟩
    · rw [e, h.tpb] at ht; cases ht
    · exact h1 e
    · exact h2 e
    · rw [tag_own h.ochg e] at ht; cases ht
    · rw [tag_own h.osyn e] at ht; cases ht
    · rw [e, (h.file f hf).tag] at ht; cases ht
    · rw [((h.file f hf).row e).1] at ht; cases ht) (fun b _ hu e => by rw [e, ht] at hu; cases hu)

theorem leftA_le (at_ : Int) (ks : List Bool) (torn : Int) (ps : List PcA) : (leftA at_ ks torn ps).length ≤ sizeP ps := by
  have h := leftS_ok at_ torn ks ps ps.length
  rw [List.take_length] at h
  unfold leftA
  rw [List.length_take]
  omega

/-- What Cut answers, and leaves. -/
def CutPost (w : World) (A : DiskA) (at_ names : Int) (ks : List Bool) (torn : Int) (e : Ending) (w' : World) : Prop :=
  ∃ D' A', e = .returned (.pointer (some ⟨D'.pb, 0, none⟩)) ∧ DiskIs w.heap.size w' D' A' ∧ A'.files = A'.base ∧ CutA A (namesAtA A (pickN at_ (A.now + 1).toNat) names) (pickN at_ (A.now + 1).toNat) ks torn A' ∧ Below w.heap.size w w'

/-- The loop's state. -/
structure CutRel (base : Nat) (w : World) (D : DSh) (A : DiskA) (D0 : DSh) (it m : Nat) (l : List (ByteArray × Nat)) (at_ : Int) (ks : List Bool) (torn : Int) (wr : World) (left dn : List (ByteArray × Nat)) (cur : Option (ByteArray × Nat)) (D' : DSh) (A' : DiskA) : Prop where
  perm : (dn ++ left).Perm l
  iter : IterIs Value.string fptr wr it m l left cur
  new : DiskIs w.heap.size wr D' A'
  cut : CutA A dn at_ ks torn A'
  fil : A'.files = []
  pb : D'.pb = D0.pb
  mf : D'.mf = D0.mf
  mb : D'.mb = D0.mb
  old : DiskIs base wr D A
  frame : Below w.heap.size w wr

set_option maxRecDepth 100000 in
set_option maxHeartbeats 4000000 in
theorem cut_any {base : Nat} {w : World} {D : DSh} {A : DiskA} (h : DiskIs base w D A) (hbw : base ≤ w.heap.size) (at_ names torn : Int) (ks : List Bool) (vk : Value) (hk : SliceIs boolc 1 w vk ks) (ha1 : -9223372036854775808 ≤ at_) (ha2 : at_ ≤ 9223372036854775807) (hn1 : -9223372036854775808 ≤ names) (hn2 : names ≤ 9223372036854775807) (ht1 : -9223372036854775808 ≤ torn) (ht2 : torn ≤ 9223372036854775807)
    {N : Nat} (hsm : A.Small N) (hN : N ≤ 100000) :
    Calls Try.prog 17 #[.pointer (some ⟨D.pb, 0, none⟩), .int .i64 at_, .int .i64 names, vk, .int .i64 torn] w fun e w' => CutPost w A at_ names ks torn e w' := by
  obtain ⟨nn, hnn⟩ : ∃ nn : Nat, A.now = nn := ⟨A.now.toNat, by have := hsm.now0; omega⟩
  have hnN : nn ≤ 100000 := by have := hsm.now; omega
  have c4 := Joins.cell_of_block h.blk 4
  simp only [List.getElem?_toArray, List.getElem?_cons_succ, List.getElem?_cons_zero, hnn] at c4
  have hpk := pick_any at_ (nn + 1) ha1 ha2 (by omega) (by omega)
  obtain ⟨pa, hpa⟩ : ∃ pa, pickN at_ (nn + 1) = pa := ⟨_, rfl⟩
  rw [hpa] at hpk
  have hpae : pickN at_ (A.now + 1).toNat = pa := by rw [← hpa]; congr 1; omega
  have HPA := Lib.hid hpae
  have HPK := Lib.hid hpk
  obtain ⟨ka, kc, rfl, _⟩ := id hk
  have HK := Lib.hid hk
  have HH := Lib.hid h
  have HNN := Lib.hid hnn
  clear hpk hpa hpae h hk hnn
  go_enter Try.func17, Try.ntmps17
  go_wp2_with fail
  refine (HPK.out _).mono ?_
  rintro e w1 ⟨rfl, e1⟩
  have e1' := e1.symm
  subst e1'
  go_wp2_with fail
  refine (new_any (base := w.heap.size) w (Nat.le_refl _)).mono ?_
  rintro e w2 ⟨D0, rfl, hD2, b2, _⟩
  have HD2 := Lib.hid hD2
  have HB2 := Lib.hid b2
  clear hD2 b2
  go_wp2_with fail
  refine (namesAt_any (HH.out.below HB2.out) pa names hn1 hn2 hsm (by omega)).mono ?_
  rintro e w3 ⟨m, rfl, hm3, hmap, b3⟩
  obtain ⟨l, hl⟩ : ∃ l, namesAtA A pa names = l := ⟨_, rfl⟩
  rw [hl] at hmap
  have HLE := Lib.hid hl
  obtain ⟨w4, hrange, hit, hb4, hz4⟩ := hmap.range (P := Try.prog) und_files
  have hm0 : D0.mb < m := by have := HD2.out.lmb; omega
  have hmf0 : D0.mf < m := by have := HD2.out.lmf; omega
  have hrel : CutRel base w D A D0 w3.heap.size m l pa ks torn w4 l [] none D0 disk0 := {
    perm := List.Perm.refl _
    iter := hit
    new := (HD2.out.below b3).below hb4
    cut := cut0 A _ _ _
    fil := rfl
    pb := rfl
    mf := rfl
    mb := rfl
    old := ((HH.out.below HB2.out).below b3).below hb4
    frame := (HB2.out.trans (b3.mono HB2.out.size)).trans (hb4.mono (Nat.le_trans HB2.out.size b3.size)) }
  have hmit : m < w3.heap.size := hmap.lt
  have hw2 : w.heap.size ≤ w2.heap.size := HB2.out.size
  have HREL := Lib.hid hrel
  have HOK : Hid (∀ n f, (n, f) ∈ l → f ∈ A.ids ∧ n.size ≤ 8) := Lib.hid (fun n f hm => namesAt_ok HH.out.ok (by rw [HLE.out]; exact hm))
  have HND := Lib.hid hmap.nodup
  clear hrel hit hb4 hz4 hmap b3 hl
  go_wp2_with fail
  obtain ⟨it, hit⟩ : ∃ it, w3.heap.size = it := ⟨_, rfl⟩
  rw [hit] at HREL hmit ⊢
  clear hrange hit
  go_loopg [14] l.length (fun g bv wr => ∃ left dn cur D' A', g = left.length ∧ Hid (CutRel base w D A D0 it m l pa ks torn wr left dn cur D' A'))
  case atStart => exact ⟨l, [], none, D0, disk0, rfl, HREL⟩
  case round =>
    obtain ⟨left, dn, cur, D', A', hg, hR⟩ := hrel
    have HG := Lib.hid hg
    clear hg
    rcases hR.out.iter.next (P := Try.prog) (by omega) with ⟨hnil, hnx⟩ | ⟨i, p, w5, hip, hnx, hiter2, hx5, hs5⟩
    · have hb := hR.out.new.blk
      rw [hR.out.pb] at hb
      have d1 := Joins.cell_of_block hb 1
      have d0 := Joins.unfrozen_of_block hb 0
      simp only [List.getElem?_toArray, List.getElem?_cons_succ, List.getElem?_cons_zero] at d1
      have hcl := cloneM_any hR.out.new.mbase
      have HCL := Lib.hid hcl
      have HNIL := Lib.hid hnil
      have hlp : D0.pb < wr.heap.size := by have := hR.out.new.lpb; rw [hR.out.pb] at this; exact this
      have d3 := Joins.cell_of_block hb 0
      simp only [List.getElem?_toArray, List.getElem?_cons_succ, List.getElem?_cons_zero] at d3
      clear hcl hb hnil
      go_wp2_with fail
      refine HCL.out.mono ?_
      rintro e w6 ⟨rfl, hm6, b6⟩
      have h6 := hR.out.new.below b6
      have h7 := h6.reMap hm6 hR.out.frame.size (by have := hR.out.new.lmb; omega) hR.out.new.ok.inb
      rw [hR.out.pb] at h7
      have hpost : CutPost w A at_ names ks torn (.returned (.pointer (some ⟨D0.pb, 0, none⟩))) (w6.setCell ⟨D0.pb, 0, none⟩ (.map (some wr.heap.size))) := by
        refine ⟨{ pb := D0.pb, mf := wr.heap.size, mb := D'.mb, vc := D'.vc, vs := D'.vs, rv := D'.rv }, { A' with files := A'.base }, rfl, h7, rfl, ?_, ?_⟩
        · have hc := hR.out.cut
          have hpm := hR.out.perm
          rw [HNIL.out, List.append_nil] at hpm
          rw [HPA.out, HLE.out]
          exact ⟨hc.chg, hc.syn, hc.now, hc.perm.trans (hpm.map _), fun n f hm => hc.has n f (hpm.symm.subset hm), hc.vals, hc.one, hc.ln⟩
        · refine Ext.new (hR.out.frame.trans (b6.mono hR.out.frame.size)) (ext_set _ _ _ _) (fun i hi _ e => ?_) (Nat.le_trans hR.out.frame.size b6.size)
          have := hR.out.new.lo
          rw [hR.out.pb] at this
          omega
      have e6 := keepB b6 d3
      have g6 := (Ext.of_below (S := fun _ => False) b6).frozen (p := ⟨D0.pb, 0, none⟩) hlp (fun e => e)
      rw [d0] at g6
      have HP := Lib.hid hpost
      clear hm6 b6 h6 h7 hpost
      go_wp2
      go_ret
      exact HP.out
    · obtain ⟨n, f⟩ := p
      have hen : ∀ W, IterIs Value.string fptr W it m l (left.eraseIdx i) (some (n, f)) → (Instr.entry (.pointer (some ⟨it, 0, none⟩))).run Try.prog W = .ok (.tuple #[.string n, .pointer (some ⟨f, 0, none⟩)]) W := fun W hW => hW.entry
      simp only [fptr] at hnx
      have hpl : (n, f) ∈ l := hR.out.perm.subset (List.mem_append_right _ (List.mem_of_getElem? hip))
      have hit0 := iter_tag hR.out.iter
      have hold5 := hR.out.old.iter hx5 hit0 (iter_ne hR.out.iter hR.out.old.mfiles) (iter_ne hR.out.iter hR.out.old.mbase)
      have hnew5 := hR.out.new.iter hx5 hit0 (iter_ne hR.out.iter hR.out.new.mfiles) (iter_ne hR.out.iter hR.out.new.mbase)
      have hfr5 : Below w.heap.size w w5 := Ext.new hR.out.frame hx5 (fun j hj _ e => by omega) hR.out.frame.size
      have hfi := (HOK.out n f hpl).1
      have hleft := left_any (hold5.file f hfi) pa ks torn (HK.out.below hfr5) ht1 ht2 (hold5.ok.sz f hfi) (by have := hsm.pcs f hfi; omega)
      have HLEFT := Lib.hid hleft
      have HPL := Lib.hid hpl
      have HOLD := Lib.hid hold5
      have HNEW := Lib.hid hnew5
      have HFR := Lib.hid hfr5
      have HIP := Lib.hid hip
      have HI2 := Lib.hid hiter2
      have hen2 := hen w5 hiter2
      clear hleft hpl hold5 hnew5 hfr5 hip hiter2 hx5 hen hfi hit0
      go_wp2_with fail
      refine HLEFT.out.mono ?_
      rintro e w6 ⟨v6, rfl, own6, b6⟩
      obtain ⟨⟨sa, sn, sc⟩, e6⟩ := own6.sl
      change v6 = .slice sa sn sc at e6
      subst e6
      obtain ⟨esn⟩ : sn = (leftA pa ks torn (A.fs f)).length := by
        obtain ⟨_, _, e, _⟩ := own6.slice u8c_len
        simp only [Value.slice.injEq] at e
        exact e.2.1
      obtain ⟨bs, hbs⟩ : ∃ bs, leftA pa ks torn (A.fs f) = bs := ⟨_, rfl⟩
      rw [hbs] at own6 ⊢
      have hlb : bs.length ≤ 1048576 := by
        rw [← hbs]
        exact Nat.le_trans (leftA_le _ _ _ _) (HOLD.out.ok.sz f (HOK.out n f HPL.out).1)
      have h6 := HNEW.out.below b6
      have hBc : Below w6.heap.size w6 ((w6.alloc (.cells #[.slice sa bs.length sc, .int .i64 0, .int .i64 (-1)] 76)).alloc (.cells #[.slice (some ⟨w6.heap.size, 0, none⟩) 1 1, .int .i64 bs.length] 74)) := ((Below.refl _ _).alloc (Nat.le_refl _) _).alloc (by simp) _
      have hfr6 : Below w.heap.size w w6 := HFR.out.trans (b6.mono HFR.out.size)
      have hp1 : (w6.alloc (.cells #[.slice sa bs.length sc, .int .i64 0, .int .i64 (-1)] 76)).heap[w6.heap.size]? = some (.cells #[.slice sa bs.length sc, .int .i64 0, .int .i64 (-1)] 76 (0, 0)) := (MapKept.heap_alloc w6 _).1
      have hfile : FileIs w.heap.size ((w6.alloc (.cells #[.slice sa bs.length sc, .int .i64 0, .int .i64 (-1)] 76)).alloc (.cells #[.slice (some ⟨w6.heap.size, 0, none⟩) 1 1, .int .i64 bs.length] 74)) (w6.heap.size + 1) (.slice (some ⟨w6.heap.size, 0, none⟩) 1 1) [⟨bs, 0, -1⟩] := by
        refine ⟨by have := hfr6.size; omega, ?_, [⟨⟨sa, bs.length, sc⟩, 0, -1⟩], Own.single Pc.len ?_ hfr6.size, rfl, fun i q p hq hp => ?_⟩
        · have := (MapKept.heap_alloc (w6.alloc (.cells #[.slice sa bs.length sc, .int .i64 0, .int .i64 (-1)] 76)) (.cells #[.slice (some ⟨w6.heap.size, 0, none⟩) 1 1, .int .i64 bs.length] 74)).1
          rw [World.size_alloc] at this
          simpa [sizeP] using this
        · rw [Below.heap_alloc _ _ _ (by simp)]
          exact hp1
        · have hi0 : i = 0 := by
            have := (List.getElem?_eq_some_iff.1 hq).1
            simpa using this
          subst hi0
          simp at hq hp
          subst hq hp
          exact ⟨(own6.ext (Ext.of_below (S := fun _ => False) hBc) (fun _ _ => id)).mono HFR.out.size, rfl, rfl⟩
      have h8 := h6.bornFull hBc hfile (by omega) (fun b hb => by have : w6.heap.size = b := Option.some.inj hb; omega) (by simpa [sizeP] using hlb)
      have hup := h8.mbase.update (P := Try.prog) key_string und_files n (fptr (w6.heap.size + 1))
      have h9 := h8.bases (mapPut_ext _ _ (aidx A'.base n) (.string n) (fptr (w6.heap.size + 1))) (h8.mbase.put n (w6.heap.size + 1)) (fun k g hk => by
        have hsub : (k, g) ∈ A'.base ∨ (k = n ∧ g = w6.heap.size + 1) := by
          cases hi : aidx A'.base n with
          | none =>
            rw [aset_none hi] at hk
            rcases List.mem_append.1 hk with hk | hk
            · exact .inl hk
            · simp at hk; exact .inr hk
          | some j =>
            rw [aset_some hi] at hk
            rcases List.mem_or_eq_of_mem_set hk with hk | hk
            · exact .inl hk
            · cases hk; exact .inr ⟨rfl, rfl⟩
        rcases hsub with hk | ⟨rfl, rfl⟩
        · exact ⟨List.mem_cons_of_mem _ (h6.ok.inb k g hk).1, (h6.ok.inb k g hk).2⟩
        · exact ⟨List.mem_cons_self, (HOK.out k f HPL.out).2⟩)
      have hbk := h6.blk
      rw [hR.out.pb] at hbk
      have d1 := Joins.cell_of_block hbk 1
      simp only [List.getElem?_toArray, List.getElem?_cons_succ, List.getElem?_cons_zero] at d1
      have hperm := hR.out.perm
      have hnd : ((dn ++ left).map (·.1)).Nodup := (hperm.map (·.1)).nodup_iff.2 HND.out
      have hni : n ∉ dn.map (·.1) := fun e => by
        rw [List.map_append, List.nodup_append] at hnd
        exact hnd.2.2 n e n (List.mem_map.2 ⟨(n, f), List.mem_of_getElem? HIP.out, rfl⟩) rfl
      have hfbn : w6.heap.size + 1 ∉ A'.ids := fun e => by have := (h6.file _ e).lt; omega
      have hcut := hR.out.cut.step (f := f) hni hfbn
      rw [hbs] at hcut
      have hmb : D'.mb = D0.mb := hR.out.mb
      have hmb1 : w.heap.size ≤ D'.mb := hR.out.new.lob
      obtain ⟨wc, hwc⟩ : ∃ wc, (w6.alloc (.cells #[.slice sa bs.length sc, .int .i64 0, .int .i64 (-1)] 76)).alloc (.cells #[.slice (some ⟨w6.heap.size, 0, none⟩) 1 1, .int .i64 bs.length] 74) = wc := ⟨_, rfl⟩
      have hsz5 := b6.size
      have hsz6 := hBc.size
      have hit5 := HI2.out.lt
      have hiter : IterIs Value.string fptr (mapPut wc D'.mb (aidx A'.base n) (.string n) (fptr (w6.heap.size + 1))) it m l (left.eraseIdx i) (some (n, f)) := by
        rw [← hwc]
        refine ((HI2.out.ext (Ext.of_below (S := fun _ => False) b6) (fun e => e) (fun e => e)).ext (Ext.of_below (S := fun _ => False) hBc) (fun e => e) (fun e => e)).ext (mapPut_ext _ _ _ _ _) (fun e => ?_) (fun e => ?_)
        · exact iter_ne HI2.out HNEW.out.mbase e
        · omega
      have hold := ((HOLD.out.below b6).below hBc).ext (mapPut_ext _ D'.mb (aidx A'.base n) (.string n) (fptr (w6.heap.size + 1))) (fun b hb e => by
        have h0 : Foot D A b := hb
        have := (HH.out.foot h0).2.1
        omega) (fun b _ hu e => by
        rw [e, tag_map h8.mbase] at hu
        cases hu)
      have hframe := Ext.new (hfr6.trans (hBc.mono hfr6.size)) (mapPut_ext _ D'.mb (aidx A'.base n) (.string n) (fptr (w6.heap.size + 1))) (fun j hj _ e => by omega) (Nat.le_trans hfr6.size hBc.size)
      rw [hwc] at h9 hold hframe hup
      have hrel2 : CutRel base w D A D0 it m l pa ks torn (mapPut wc D'.mb (aidx A'.base n) (.string n) (fptr (w6.heap.size + 1))) (left.eraseIdx i) (dn ++ [(n, f)]) (some (n, f)) _ (cutStep n (w6.heap.size + 1) bs A') := {
        perm := by
          rw [List.append_assoc]
          exact (List.Perm.append_left dn (perm_erase HIP.out).symm).trans hperm
        iter := hiter
        new := h9
        cut := hcut
        fil := hR.out.fil
        pb := hR.out.pb
        mf := hR.out.mf
        mb := hmb
        old := hold
        frame := hframe }
      have HREL2 := Lib.hid hrel2
      have hel : (left.eraseIdx i).length < gk := by
        rw [HG.out, List.length_eraseIdx]
        have := (List.getElem?_eq_some_iff.1 HIP.out).1
        rw [if_pos this]
        omega
      have HN4 := Lib.hid HNEW.out
      have hd1l := cell_lt d1
      clear hmb h6 hBc hp1 hfile h8 h9 hbk hperm hnd hni hfbn hcut hiter hold hframe hrel2 own6 b6 hfr6
      have hup2 : (Instr.mapUpdate 58 (.map (some D'.mb)) (.string n) (.pointer (some ⟨w6.heap.size + 1, 0, none⟩))).run Try.prog wc = .ok () (mapPut wc D'.mb (aidx A'.base n) (.string n) (fptr (w6.heap.size + 1))) := hup
      clear hup
      go_wp2_with fail
      go_roundg (left.eraseIdx i).length
      case measure => exact hel
      case rel => exact ⟨_, _, _, _, _, rfl, HREL2⟩

end Go.Proofs.Ytmlaojfhmaamcaa
