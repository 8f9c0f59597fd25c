/- Contracts of stemmaref03.Same, stemmalaw06.alive. -/
import Derived.Test.YtmlaojfhmaamcaaAct06
import Derived.Laws.BytesString
import Derived.Lib.SlBytesConst
namespace Go.Proofs.Ytmlaojfhmaamcaa
open Go.RowKit Go.Deep
set_option linter.unusedSimpArgs false
set_option linter.unusedVariables false

theorem fold_push : ∀ (bs : List UInt8) (s : ByteArray), (bs.map fun x => (x.toNat : Int)).foldl (fun r n => r.push (UInt8.ofNat n.toNat)) s = ⟨(s.data.toList ++ bs).toArray⟩
  | [], s => by cases s; simp
  | b :: bs, s => by
    rw [List.map_cons, List.foldl_cons, fold_push bs]
    congr 1
    simp [ByteArray.push]

/-- string(b). -/
theorem conv_bytes {W : World} {v : Value} {bs : List UInt8} (h : SliceIs u8c 1 W v bs) : (convert 23 9 v).run Try.prog W = .ok (.string ⟨bs.toArray⟩) W := by
  obtain ⟨a, cap, rfl, hcap, hmax, hcs⟩ := h
  rw [run_convert_bytes_string W 23 9 5 a bs.length cap Try.underlying23 (by kernel_rfl) Try.underlying9]
  cases a with
  | none =>
    have hys : bs = [] := Classical.byContradiction fun hn => by obtain ⟨b, o, e, _⟩ := hcs hn; cases e
    subst hys
    simp [Conv.bytesToString]
    rfl
  | some ad =>
    have hl := run_loadCells_list (P := Try.prog) W ad ((bs.map fun x => (x.toNat : Int)).map (Value.int .u8)) (fun j v hj => by
      rw [List.map_map, List.getElem?_map] at hj
      cases hb : bs[j]? with
      | none => rw [hb] at hj; cases hj
      | some x =>
        rw [hb] at hj
        cases hj
        obtain ⟨b, o, e, h4⟩ := hcs (by rintro rfl; simp at hb)
        cases e
        have := h4 j x hb 0 _ rfl
        rw [Nat.mul_one, Nat.add_zero] at this
        rw [show (Addr.add ⟨b, o, none⟩ j) = ⟨b, o + j, none⟩ from by unfold Addr.add; split <;> simp_all]
        exact this)
    have := run_bytesToString (P := Try.prog) W ad bs.length cap (bs.map fun x => (x.toNat : Int)) (by simpa using hl)
    rw [this, fold_push]
    simp

set_option maxRecDepth 20000 in
set_option maxHeartbeats 1000000 in
theorem sameB_any {w : World} {v1 v2 : Value} {l1 l2 : List UInt8} (h1 : SliceIs u8c 1 w v1 l1) (h2 : SliceIs u8c 1 w v2 l2) :
    Calls Try.prog 14 #[v1, v2] w fun e w' => e = .returned (.bool (decide (l1 = l2))) ∧ w' = w := by
  have c1 := conv_bytes h1
  have c2 := conv_bytes h2
  obtain ⟨a1, k1, rfl, _⟩ := id h1
  obtain ⟨a2, k2, rfl, _⟩ := id h2
  clear h1 h2
  by_cases he : l1 = l2
  · subst he
    go_enter Try.func14, Try.ntmps14
    go_wp2
    go_ret
    exact ⟨by simp, rfl⟩
  · have hn : (⟨l1.toArray⟩ : ByteArray) ≠ ⟨l2.toArray⟩ := fun e => he (by cases e; rfl)
    obtain ⟨n1, n2⟩ := beq_names hn
    have hd : decide (l1 = l2) = false := decide_eq_false he
    go_enter Try.func14, Try.ntmps14
    go_wp2
    go_ret
    exact ⟨by first | (rw [hd]; rfl) | simp [he, n1, n2], rfl⟩

/-- The live question's file. -/
def aN : ByteArray := ⟨#[97]⟩
theorem right_a : rightN aN = true := by decide +kernel

set_option maxRecDepth 20000 in
set_option maxHeartbeats 4000000 in
theorem alive_any (w : World) : Calls Try.prog 9 #[] w fun e w' => e = .returned (.bool true) ∧ Below w.heap.size w w' := by
  have hcs := fun (w : World) (C : Array Value) (n c : Nat) => Lib.run_convert_bytes_const (P := Try.prog) w 23 5 C n c Try.underlying23 (by kernel_rfl)
  go_enter Try.func9, Try.ntmps9
  go_wp2_with fail
  refine (new_any (base := w.heap.size) w (Nat.le_refl _)).mono ?_
  rintro e w1 ⟨D1, rfl, h1, b1, _⟩
  have m1 : makeCode disk0 ⟨#[97]⟩ = 0 := by
    have : rightN (⟨#[97]⟩ : ByteArray) = true := right_a
    simp [makeCode, this, disk0, aget]
  have H1 := Lib.hid h1
  have B1 := Lib.hid b1
  have M1 := Lib.hid m1
  clear h1 b1 m1
  go_wp2_with fail
  refine (make_any H1.out B1.out.size ⟨#[97]⟩ (by decide) (by decide) (by decide)).mono ?_
  rintro e w2 ⟨rfl, hq⟩
  rw [M1.out] at hq ⊢
  rcases hq with ⟨h, _⟩ | ⟨_, fb, D2, hfb, hT2⟩
  · exact absurd rfl h
  obtain ⟨A2, hA2⟩ : ∃ A2, stepA ⟨0, ⟨#[97]⟩, ⟨#[]⟩, some fb⟩ (bornA fb disk0) = A2 := ⟨_, rfl⟩
  have e1 : A2.files = [(⟨#[97]⟩, fb)] := by rw [← hA2]; rfl
  have e2 : A2.fs fb = [] := by rw [← hA2]; simp [stepA, bornA]
  have e3 : A2.now = 1 := by rw [← hA2]; rfl
  have e4 : A2.Small 10 := by
    rw [← hA2]
    exact ⟨by simp [stepA, bornA, disk0], by simp [stepA, bornA, disk0], by simp [stepA, bornA, disk0], by simp [stepA, bornA, disk0], fun f hf => by simp [stepA, bornA, disk0], by rw [show (stepA ⟨0, ⟨#[97]⟩, ⟨#[]⟩, some fb⟩ (bornA fb disk0)).files = [(⟨#[97]⟩, fb)] from rfl]; simp⟩
  have e5 : aget A2.files (⟨#[97]⟩ : ByteArray) = some fb := by rw [e1]; simp [aget]
  rw [hA2] at hT2
  have HPB2 := Lib.hid hT2.pb
  have B2 := Lib.hid (hT2.frame H1.out B1.out (Nat.le_refl _) B1.out.size)
  have H2 := Lib.hid hT2.is_
  have E2 := Lib.hid e2
  have E3 := Lib.hid e3
  have E4 := Lib.hid e4
  have E5 := Lib.hid e5
  clear hT2 hA2 e1 e2 e3 e4 e5 hfb
  go_wp2_with fail
  rw [← HPB2.out]
  have hsl : SliceIs u8c 1 (w2.alloc (.cells #[.int .u8 120, .int .u8 121] 5 (2, 3))) (.slice (some ⟨w2.heap.size, 0, none⟩) 2 2) [120, 121] := by
    refine ⟨some ⟨w2.heap.size, 0, none⟩, 2, rfl, by decide, by unfold maxLen; omega, fun _ => ⟨_, 0, rfl, fun i x hi j u hj => ?_⟩⟩
    have hj0 : j = 0 := by
      have := (List.getElem?_eq_some_iff.1 hj).1
      simp [u8c] at this
      exact this
    subst hj0
    have hcell := heap_alloc_new w2 (.cells #[.int .u8 120, .int .u8 121] 5 (2, 3))
    match i, hi with
    | 0, hi => simp at hi; subst hi; simp [u8c] at hj; subst hj; exact (Joins.cell_of_block hcell _).trans rfl
    | 1, hi => simp at hi; subst hi; simp [u8c] at hj; subst hj; exact (Joins.cell_of_block hcell _).trans rfl
    | n + 2, hi => simp at hi
  refine (append_any (H2.out.alloc _) (by have := B2.out.size; simp; omega) ⟨#[97]⟩ _ [120, 121] hsl (by decide) E4.out (by decide)).mono ?_
  intro e w3 hq
  obtain ⟨D3, rfl, hT3⟩ : ∃ D3, e = .returned (.int .i64 0) ∧ Turned w.heap.size (w2.alloc (.cells #[.int .u8 120, .int .u8 121] 5 (2, 3))) D2 A2 w3 D3 (appA fb [120, 121] A2) := by
    rcases hq with ⟨h, _⟩ | ⟨f, h, h', _⟩ | ⟨f, D3, h, _, he, hT⟩
    · rw [E5.out] at h; cases h
    · rw [E5.out] at h; cases h; rw [E2.out] at h'; simp [sizeP] at h'
    · rw [E5.out] at h; cases h; exact ⟨D3, he, hT⟩
  obtain ⟨A3, hA3⟩ : ∃ A3, appA fb [120, 121] A2 = A3 := ⟨_, rfl⟩
  have f1 : aget A3.files (⟨#[97]⟩ : ByteArray) = some fb := by rw [← hA3]; exact E5.out
  have f2 : bytesP (A3.fs fb) = [120, 121] := by rw [← hA3]; simp [appA, E2.out, bytesP]
  have f3 : A3.now = 2 := by rw [← hA3]; simp [appA, E3.out]
  have f4 : A3.Small 20 := by
    rw [← hA3]
    refine ⟨by simp [appA, E3.out], by simp [appA, E3.out], Nat.le_trans E4.out.chg (by decide), Nat.le_trans E4.out.syn (by decide), fun f hf => ?_, Nat.le_trans E4.out.fil (by decide)⟩
    simp only [appA]
    split
    · rw [E2.out]; simp
    · exact Nat.le_trans (E4.out.pcs f hf) (by decide)
  rw [hA3] at hT3
  have HPB3 := Lib.hid hT3.pb
  have B3 := Lib.hid (hT3.frame (H2.out.alloc _) (B2.out.alloc B2.out.size _) (Nat.le_refl _) (by have := B2.out.size; simp; omega))
  have H3 := Lib.hid hT3.is_
  have F1 := Lib.hid f1
  have F2 := Lib.hid f2
  have F3 := Lib.hid f3
  have F4 := Lib.hid f4
  clear hT3 hA3 f1 f2 f3 f4 hsl hq
  go_wp2_with fail
  rw [← HPB3.out]
  refine (read_any H3.out ⟨#[97]⟩ F4.out (by decide)).mono ?_
  intro e w4 hq
  obtain ⟨v4, rfl, ho4, b4⟩ : ∃ v4, e = .returned (.tuple #[v4, .int .i64 0]) ∧ Own u8c 1 5 w3.heap.size w4 v4 [120, 121] ∧ Below w3.heap.size w3 w4 := by
    rcases hq with ⟨h, _⟩ | ⟨f, v4, h, he, ho, hb⟩
    · rw [F1.out] at h; cases h
    · rw [F1.out] at h; cases h; exact ⟨v4, he, by rw [← F2.out]; exact ho, hb⟩
  have H4 := Lib.hid (H3.out.below b4)
  have B4 := Lib.hid (B3.out.trans (b4.mono B3.out.size))
  have hcv := conv_bytes (ho4.slice u8c_len)
  obtain ⟨⟨sa, sn, sc⟩, e4⟩ := ho4.sl
  change v4 = .slice sa sn sc at e4
  subst e4
  clear ho4 b4 hq
  go_wp2_with fail
  refine (changes_any H4.out).mono ?_
  rintro e w5 ⟨rfl, rfl⟩
  rw [F3.out]
  go_wp2
  go_ret
  exact ⟨rfl, B4.out⟩

end Go.Proofs.Ytmlaojfhmaamcaa
