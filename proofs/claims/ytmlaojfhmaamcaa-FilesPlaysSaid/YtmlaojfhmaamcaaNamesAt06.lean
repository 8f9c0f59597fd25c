/- Contract of Disk.namesAt: the names that a loss of power leaves. -/
import Derived.Test.YtmlaojfhmaamcaaPick06
import Derived.Test.YtmlaojfhmaamcaaSync06
namespace Go.Proofs.Ytmlaojfhmaamcaa
open Go.RowKit Go.Deep
set_option linter.unusedSimpArgs false
set_option linter.unusedVariables false

/-- When names became durable last. -/
def safeF (syn : List Int) (at_ : Int) : Int := syn.foldl (fun s n => if n ≤ at_ then n else s) 0
theorem safeF_snoc {syn : List Int} {k : Nat} {n : Int} (at_ : Int) (h : syn[k]? = some n) : safeF (syn.take (k + 1)) at_ = if n ≤ at_ then n else safeF (syn.take k) at_ := by
  unfold safeF
  rw [List.take_add_one, h, Option.toList_some, List.foldl_append]
  rfl
/-- How many changes are open. -/
def openF (chg : List Chg) (safe at_ : Int) : Nat := (chg.filter fun c => decide (safe < c.at_) && decide (c.at_ ≤ at_)).length
theorem openF_snoc {chg : List Chg} {k : Nat} {c : Chg} (safe at_ : Int) (h : chg[k]? = some c) : openF (chg.take (k + 1)) safe at_ = openF (chg.take k) safe at_ + if safe < c.at_ ∧ c.at_ ≤ at_ then 1 else 0 := by
  unfold openF
  rw [List.take_add_one, h, Option.toList_some, List.filter_append, List.length_append]
  by_cases h1 : safe < c.at_ <;> by_cases h2 : c.at_ ≤ at_ <;> simp [h1, h2]
theorem openF_le (chg : List Chg) (safe at_ : Int) (k : Nat) : openF (chg.take k) safe at_ ≤ k := by
  unfold openF
  exact Nat.le_trans (List.length_filter_le _ _) (by rw [List.length_take]; omega)
/-- The changes that are kept. -/
def upto (safe at_ : Int) : List Chg → Nat → List (ByteArray × Nat) → List (ByteArray × Nat)
  | [], _, m => m
  | c :: cs, op, m => if safe < c.at_ then (if op = 0 ∨ at_ < c.at_ then m else upto safe at_ cs (op - 1) (applyC c m)) else upto safe at_ cs op (applyC c m)
/-- The names that are left. -/
def namesAtA (A : DiskA) (at_ names : Int) : List (ByteArray × Nat) := upto (safeF A.syn at_) at_ A.chg (pickN names (openF A.chg (safeF A.syn at_) at_ + 1)) A.base

/-- What namesAt answers, and leaves. -/
def NamesAtPost (w : World) (A : DiskA) (at_ names : Int) (e : Ending) (w' : World) : Prop :=
  ∃ m, e = .returned (.map (some m)) ∧ w.heap.size ≤ m ∧ MapIs Value.string fptr w' m (namesAtA A at_ names) ∧ Below w.heap.size w w'

theorem Own.shape {α : Type} {ea : α → List Value} {k : Nat} {e : TypeId} {base : Nat} {w : World} {v : Value} {l : List α} (h : Own ea k e base w v l) (hk : ∀ x, (ea x).length = k) : ∃ a cap, v = .slice a l.length cap ∧ l.length ≤ cap ∧ cap ≤ maxLen ∧ (l ≠ [] → ∃ g, a = some ⟨g, 0, none⟩ ∧ base ≤ g ∧ g < w.heap.size) := by
  obtain ⟨a, cap, e1, h2, h3, _⟩ := h.slice hk
  refine ⟨a, cap, e1, h2, h3, fun hne => ?_⟩
  rcases h.eq_slice with ⟨_, e⟩ | ⟨g, c, e, hg⟩
  · exact absurd e hne
  · rw [e1] at e
    simp only [Value.slice.injEq] at e
    exact ⟨g, e.1, hg⟩

set_option maxRecDepth 100000 in
set_option maxHeartbeats 4000000 in
theorem namesAt_any {base : Nat} {w : World} {D : DSh} {A : DiskA} (h : DiskIs base w D A) (at_ names : Int) (hn1 : -9223372036854775808 ≤ names) (hn2 : names ≤ 9223372036854775807) {N : Nat} (hsm : A.Small N) (hN : N ≤ 1000000) :
    Calls Try.prog 35 #[.pointer (some ⟨D.pb, 0, none⟩), .int .i64 at_, .int .i64 names] w fun e w' => NamesAtPost w A at_ names e w' := by
  have c1 := Joins.cell_of_block h.blk 1
  have c2 := Joins.cell_of_block h.blk 2
  have c3 := Joins.cell_of_block h.blk 3
  simp only [List.getElem?_toArray, List.getElem?_cons_succ, List.getElem?_cons_zero] at c1 c2 c3
  obtain ⟨sa, scap, hvs, hs1, hs2, hsg⟩ := h.osyn.shape intc_len
  obtain ⟨ca, ccap, hvc, hc1, hc2, hcg⟩ := h.ochg.shape Chg.len
  rw [hvs] at c3
  rw [hvc] at c2
  have hos := h.osyn
  have hoc := h.ochg
  rw [hvs] at hos
  rw [hvc] at hoc
  unfold maxLen at hs2 hc2
  have hls := hsm.syn
  have hlc := hsm.chg
  have HOS := Lib.hid hos
  have HOC := Lib.hid hoc
  have HSG := Lib.hid hsg
  have HCG := Lib.hid hcg
  have HMB := Lib.hid h.mbase
  clear h hos hoc hsg hcg hvs hvc hsm
  go_enter Try.func35, Try.ntmps35
  go_wp2_with fail
  go_loopg [7, 21] A.syn.length (fun g sv iv wr => ∃ k : Nat, g = A.syn.length - k ∧ k ≤ A.syn.length ∧ sv = .int .i64 (safeF (A.syn.take k) at_) ∧ iv = .int .i64 k ∧ wr = w)
  case atStart => exact ⟨0, by omega, by omega, by simp [safeF], rfl, rfl⟩
  case round =>
    obtain ⟨k, hg, hk, rfl, rfl, ew⟩ := hrel
    have ew' := ew.symm
    subst ew'
    have HG := Lib.hid hg
    clear hg
    by_cases hkl : k < A.syn.length
    · obtain ⟨n, hn⟩ : ∃ n, A.syn[k]? = some n := ⟨_, List.getElem?_eq_getElem hkl⟩
      obtain ⟨g, e1, _⟩ := HSG.out (by intro e; rw [e] at hn; simp at hn)
      subst e1
      have n0 := HOS.out.cellAt intc_len hn (j := 0) rfl
      simp only [Nat.add_zero, Nat.mul_one] at n0
      have hkk : (k : Int) < (A.syn.length : Int) := by omega
      have hsn := safeF_snoc at_ hn
      clear hn
      by_cases hle : n ≤ at_
      · rw [if_pos hle] at hsn
        have HSN := Lib.hid hsn
        clear hsn
        go_wp2_with fail
        go_roundg (A.syn.length - (k + 1))
        case measure => rw [HG.out]; omega
        case rel => exact ⟨k + 1, rfl, by omega, by rw [HSN.out], by simp, rfl⟩
      · rw [if_neg hle] at hsn
        have HSN := Lib.hid hsn
        clear hsn
        go_wp2_with fail
        go_roundg (A.syn.length - (k + 1))
        case measure => rw [HG.out]; omega
        case rel => exact ⟨k + 1, rfl, by omega, by rw [HSN.out], by simp, rfl⟩
    · obtain rfl : k = A.syn.length := by omega
      rw [List.take_length]
      obtain ⟨safe, hsafe⟩ : ∃ s, safeF A.syn at_ = s := ⟨_, rfl⟩
      rw [hsafe]
      have HSF := Lib.hid hsafe
      clear hsafe HG
      go_wp2_with fail
      go_loopg [10, 35] A.chg.length (fun g ov iv wr => ∃ k : Nat, g = A.chg.length - k ∧ k ≤ A.chg.length ∧ ov = .int .i64 (openF (A.chg.take k) safe at_) ∧ iv = .int .i64 k ∧ Hid (Below w.heap.size w wr))
      case atStart => exact ⟨0, by omega, by omega, by simp [openF], rfl, Lib.hid (Below.refl _ _)⟩
      case round =>
        obtain ⟨k, hg, hk, rfl, rfl, hU⟩ := hrel
        have HG := Lib.hid hg
        clear hg
        by_cases hkl : k < A.chg.length
        · obtain ⟨c, hc⟩ : ∃ c, A.chg[k]? = some c := ⟨_, List.getElem?_eq_getElem hkl⟩
          obtain ⟨g, e1, _⟩ := HCG.out (by intro e; rw [e] at hc; simp at hc)
          subst e1
          obtain ⟨p0, hp0⟩ : ∃ p0, ptrV c.f = .pointer p0 := ⟨_, rfl⟩
          have q0 := keepB hU.out (HOC.out.cellAt Chg.len hc (j := 0) rfl)
          have q1 := keepB hU.out (HOC.out.cellAt Chg.len hc (j := 1) rfl)
          have q2 := keepB hU.out (HOC.out.cellAt Chg.len hc (j := 2) rfl)
          have q3 := keepB hU.out (HOC.out.cellAt Chg.len hc (j := 3) rfl)
          rw [hp0] at q3
          simp only [Nat.add_zero] at q0
          have hkk : (k : Int) < (A.chg.length : Int) := by omega
          have hsn := openF_snoc safe at_ hc
          have hle := openF_le A.chg safe at_ k
          have HB : Hid (Below w.heap.size w (wr.alloc (.cells #[.int .i64 c.at_, .string c.name, .string c.old, .pointer p0] 92))) := Lib.hid (hU.out.alloc hU.out.size _)
          clear hc hp0 hU
          by_cases h1 : safe < c.at_
          · by_cases h2 : c.at_ ≤ at_
            · rw [if_pos ⟨h1, h2⟩] at hsn
              have HSN := Lib.hid hsn
              clear hsn
              go_wp2_with fail
              go_roundg (A.chg.length - (k + 1))
              case measure => rw [HG.out]; omega
              case rel => exact ⟨k + 1, rfl, by omega, by rw [HSN.out]; simp, by simp, HB⟩
            · rw [if_neg (fun h => h2 h.2)] at hsn
              have HSN := Lib.hid hsn
              clear hsn
              go_wp2_with fail
              go_roundg (A.chg.length - (k + 1))
              case measure => rw [HG.out]; omega
              case rel => exact ⟨k + 1, rfl, by omega, by rw [HSN.out]; simp, by simp, HB⟩
          · rw [if_neg (fun h => h1 h.1)] at hsn
            have HSN := Lib.hid hsn
            clear hsn
            go_wp2_with fail
            go_roundg (A.chg.length - (k + 1))
            case measure => rw [HG.out]; omega
            case rel => exact ⟨k + 1, rfl, by omega, by rw [HSN.out]; simp, by simp, HB⟩
        · obtain rfl : k = A.chg.length := by omega
          rw [List.take_length]
          obtain ⟨op, hop⟩ : ∃ op, openF A.chg safe at_ = op := ⟨_, rfl⟩
          have hle := openF_le A.chg safe at_ A.chg.length
          rw [List.take_length, hop] at hle
          rw [hop]
          have HOP := Lib.hid hop
          have hpk := pick_any names (op + 1) hn1 hn2 (by omega) (by omega)
          have hpl := pickN_lt names (show 0 < op + 1 by omega)
          have HPK := Lib.hid hpk
          obtain ⟨pk, hpke⟩ : ∃ pk, pickN names (op + 1) = pk := ⟨_, rfl⟩
          rw [hpke] at hpl
          have HPE := Lib.hid hpke
          have c1' := keepB hU.out c1
          have c2' := keepB hU.out c2
          have HMB2 := Lib.hid (HMB.out.below hU.out)
          have HB2 := Lib.hid hU.out
          clear hop hpk hpke hU HG
          go_wp2_with fail
          refine (HPK.out wr).mono ?_
          rintro e w2 ⟨rfl, e2⟩
          have e2' := e2.symm
          subst e2'
          rw [HPE.out]
          go_wp2_with fail
          refine (cloneM_any HMB2.out).mono ?_
          rintro e w3 ⟨rfl, hm3, b3⟩
          have c2'' := keepB b3 c2'
          have HM3 := Lib.hid hm3
          have HB3 := Lib.hid (HB2.out.trans (b3.mono HB2.out.size))
          have hmz : w.heap.size ≤ wr.heap.size := HB2.out.size
          clear hm3 b3
          obtain ⟨mb, hmb⟩ : ∃ mb, wr.heap.size = mb := ⟨_, rfl⟩
          rw [hmb] at HM3 hmz ⊢
          clear hmb
          obtain ⟨fin, hfin⟩ : ∃ fin, namesAtA A at_ names = fin := ⟨_, rfl⟩
          have HFIN : Hid (upto safe at_ A.chg pk A.base = fin) := Lib.hid (by rw [← hfin]; unfold namesAtA; rw [HSF.out, HOP.out, HPE.out])
          have HFE := Lib.hid hfin
          clear hfin
          go_wp2_with fail
          go_loopg [10, 66] A.chg.length (fun g ov iv wr => ∃ (k o : Nat) (m : List (ByteArray × Nat)), g = A.chg.length - k ∧ k ≤ A.chg.length ∧ o ≤ op ∧ ov = .int .i64 o ∧ iv = .int .i64 k ∧ Hid (MapIs Value.string fptr wr mb m ∧ upto safe at_ (A.chg.drop k) o m = fin ∧ Below w.heap.size w wr))
          case atStart => exact ⟨0, pk, A.base, by omega, by omega, by omega, rfl, rfl, Lib.hid ⟨HM3.out, by rw [List.drop_zero]; exact HFIN.out, HB3.out⟩⟩
          case round =>
            obtain ⟨k, o, m, hg, hk, hoo, rfl, rfl, hU⟩ := hrel
            have HG := Lib.hid hg
            clear hg
            by_cases hkl : k < A.chg.length
            · obtain ⟨c, hc⟩ : ∃ c, A.chg[k]? = some c := ⟨_, List.getElem?_eq_getElem hkl⟩
              obtain ⟨g, e1, _⟩ := HCG.out (by intro e; rw [e] at hc; simp at hc)
              subst e1
              obtain ⟨p0, hp0⟩ : ∃ p0, ptrV c.f = .pointer p0 := ⟨_, rfl⟩
              have q0 := keepB hU.out.2.2 (HOC.out.cellAt Chg.len hc (j := 0) rfl)
              have q1 := keepB hU.out.2.2 (HOC.out.cellAt Chg.len hc (j := 1) rfl)
              have q2 := keepB hU.out.2.2 (HOC.out.cellAt Chg.len hc (j := 2) rfl)
              have q3 := keepB hU.out.2.2 (HOC.out.cellAt Chg.len hc (j := 3) rfl)
              rw [hp0] at q3
              simp only [Nat.add_zero] at q0
              have hkk : (k : Int) < (A.chg.length : Int) := by omega
              have hup := hU.out.2.1
              rw [List.drop_eq_getElem_cons hkl, show A.chg[k] = c from (List.getElem?_eq_some_iff.1 hc).2] at hup
              unfold upto at hup
              obtain ⟨ob, hob⟩ : ∃ ob : Obj, .cells #[.int .i64 c.at_, .string c.name, .string c.old, .pointer p0] 92 = ob := ⟨_, rfl⟩
              have hap := fun W h => apply_any c mb m W h
              rw [hp0] at hap
              have HAP := Lib.hid hap
              have HM := Lib.hid (hU.out.1.alloc ob)
              have HB := Lib.hid (hU.out.2.2.alloc hU.out.2.2.size ob)
              have HB0 := Lib.hid hU.out.2.2
              subst hob
              clear hc hp0 hap hU
              by_cases h1 : safe < c.at_
              · rw [if_pos h1] at hup
                by_cases ho : o = 0
                · have hoo2 : (o : Int) = 0 := by omega
                  rw [if_pos (.inl ho)] at hup
                  have HN := Lib.hid (show NamesAtPost w A at_ names (.returned (.map (some mb))) _ from ⟨mb, rfl, hmz, by rw [HFE.out, ← hup]; exact HM.out, HB.out⟩)
                  clear hup
                  go_wp2
                  go_ret
                  exact HN.out
                · have hoo2 : ¬ (o : Int) = 0 := by omega
                  by_cases h2 : at_ < c.at_
                  · have htr : True := trivial
                    rw [if_pos (.inr h2)] at hup
                    have HN := Lib.hid (show NamesAtPost w A at_ names (.returned (.map (some mb))) _ from ⟨mb, rfl, hmz, by rw [HFE.out, ← hup]; exact HM.out, HB.out⟩)
                    clear hup
                    go_wp2
                    go_ret
                    exact HN.out
                  · have htr : True := trivial
                    rw [if_neg (by rintro (e | e); exact ho e; exact h2 e)] at hup
                    have HUP := Lib.hid hup
                    clear hup
                    go_wp2_with fail
                    refine (HAP.out _ HM.out).mono ?_
                    rintro e w5 ⟨rfl, hm5, hx5⟩
                    have HN : Hid (MapIs Value.string fptr w5 mb (applyC c m) ∧ upto safe at_ (A.chg.drop (k + 1)) (o - 1) (applyC c m) = fin ∧ Below w.heap.size w w5) := Lib.hid ⟨hm5, HUP.out, Ext.new HB.out hx5 (fun i hi _ e => by omega) HB.out.size⟩
                    clear hm5 hx5
                    go_wp2_with fail
                    go_roundg (A.chg.length - (k + 1))
                    case measure => rw [HG.out]; omega
                    case rel => exact ⟨k + 1, o - 1, applyC c m, rfl, by omega, by omega, by congr 1; omega, by simp, HN⟩
              · rw [if_neg h1] at hup
                have HUP := Lib.hid hup
                clear hup
                go_wp2_with fail
                refine (HAP.out _ HM.out).mono ?_
                rintro e w5 ⟨rfl, hm5, hx5⟩
                have HN : Hid (MapIs Value.string fptr w5 mb (applyC c m) ∧ upto safe at_ (A.chg.drop (k + 1)) (o) (applyC c m) = fin ∧ Below w.heap.size w w5) := Lib.hid ⟨hm5, HUP.out, Ext.new HB.out hx5 (fun i hi _ e => by omega) HB.out.size⟩
                clear hm5 hx5
                go_wp2_with fail
                go_roundg (A.chg.length - (k + 1))
                case measure => rw [HG.out]; omega
                case rel => exact ⟨k + 1, o, applyC c m, rfl, by omega, by omega, rfl, by simp, HN⟩
            · obtain rfl : k = A.chg.length := by omega
              have hup := hU.out.2.1
              rw [List.drop_length] at hup
              have hup2 : m = fin := hup
              have HN := Lib.hid (show NamesAtPost w A at_ names (.returned (.map (some mb))) wr from ⟨mb, rfl, hmz, by rw [HFE.out, ← hup2]; exact hU.out.1, hU.out.2.2⟩)
              clear hU hup hup2
              go_wp2
              go_ret
              exact HN.out

end Go.Proofs.Ytmlaojfhmaamcaa
