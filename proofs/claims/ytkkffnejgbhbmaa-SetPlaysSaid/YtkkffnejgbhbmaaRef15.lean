/- Contracts of the reference's registers: Set, Get. -/
import Derived.Test.YtkkffnejgbhbmaaRef01
import Derived.Test.YtkkffnejgbhbmaaBox15
import Derived.Deep.RegionLaw
namespace Go.Proofs.Ytkkffnejgbhbmaa
open Go.RowKit
set_option linter.unusedSimpArgs false
set_option linter.unusedVariables false

/-- Block r is the reference's Registers, whose writes lie in a block of its own from B on. -/
def RefIs (w : World) (r B : Nat) (L : List Write) : Prop :=
  ∃ v, w.heap[r]? = some (.cells #[v] 27 (0, 0)) ∧ Own Write.cells 6 32 B w v L

theorem RefIs.below {w w' : World} {r B : Nat} {L : List Write} (h : RefIs w r B L) (hb : Below w.heap.size w w') : RefIs w' r B L := by
  obtain ⟨v, h1, h2⟩ := h
  exact ⟨v, (hb.block r (Array.getElem?_eq_some_iff.1 h1).1).trans h1, h2.ext (Ext.of_below (S := fun _ => False) hb) (fun _ _ h => h)⟩
theorem RefIs.drew {w : World} {r B : Nat} {L : List Write} (h : RefIs w r B L) : RefIs w.drew r B L := h
theorem RefIs.alloc {w : World} {r B : Nat} {L : List Write} (h : RefIs w r B L) (o : Obj) : RefIs (w.alloc o) r B L := h.below ((Below.refl _ _).alloc (Nat.le_refl _) _)

theorem cell_of_block {w : World} {r : Nat} {v : Value} {t : TypeId} (h : w.heap[r]? = some (.cells #[v] t (0, 0))) : w.cell? ⟨r, 0, none⟩ = some v := by simp [World.cell?, h]
theorem free_of_block {w : World} {r : Nat} {v : Value} {t : TypeId} (h : w.heap[r]? = some (.cells #[v] t (0, 0))) : w.frozen? ⟨r, 0, none⟩ = false := by simp [World.frozen?, h]

theorem block_store {w : World} {r : Nat} {u v : Value} {t : TypeId} (h : w.heap[r]? = some (.cells #[u] t (0, 0))) : (w.setCell ⟨r, 0, none⟩ v).heap[r]? = some (.cells #[v] t (0, 0)) := by
  simp [World.setCell, Array.getElem?_modify, h]
theorem ext_store (w : World) (r : Nat) (v : Value) : Ext (· = r) w (w.setCell ⟨r, 0, none⟩ v) := (Ext.refl (· = r) w).setCell (p := ⟨r, 0, none⟩) (.inr rfl) v

theorem info_write : (Try.prog.info? 32).map (fun i => (i.zero, i.size, i.bytes)) = some (some (.agg #[.int .i64 0, .int .i64 0, .int .i64 0, .int .i64 0, .string ⟨#[]⟩, .string ⟨#[]⟩]), 6, 64) := by kernel_rfl

set_option maxHeartbeats 400000 in
theorem rset_bad (r : Nat) (an ar bn br : Int) (nm vl : ByteArray) (w : World) (hr : rightB ⟨an, ar⟩ = false) :
    Calls Try.prog 10 #[.pointer (some ⟨r, 0, none⟩), .agg #[.int .i64 an, .int .i64 ar], .agg #[.int .i64 bn, .int .i64 br], .string nm, .string vl] w
      fun e w' => e = .returned (.int .i64 1) ∧ Below w.heap.size w w' := by
  go_enter Try.func10, Try.ntmps10
  go_wp2_with fail
  refine (rright_any _ _ _).mono ?_
  rintro e w1 ⟨rfl, b1⟩
  rw [hr]
  go_wp2_with fail
  go_ret
  exact ⟨rfl, (((Below.refl _ _).alloc (Nat.le_refl _) _).alloc (by simp) _).trans (b1.mono (by simp <;> omega))⟩

/-- Is there a write of this stamp? -/
def hasAt (L : List Write) (a : St) : Bool := L.any (fun x => decide (x.at_ = a))

set_option maxHeartbeats 2000000 in
theorem rset_ok (r B : Nat) (v : Value) (L : List Write) (an ar bn br : Int) (nm vl : ByteArray) (w : World) (hb : w.heap[r]? = some (.cells #[v] 27 (0, 0))) (hown : Own Write.cells 6 32 B w v L) (hB : B ≤ w.heap.size) (hsz : L.length ≤ 1000) (hr : rightB ⟨an, ar⟩ = true) :
    Calls Try.prog 10 #[.pointer (some ⟨r, 0, none⟩), .agg #[.int .i64 an, .int .i64 ar], .agg #[.int .i64 bn, .int .i64 br], .string nm, .string vl] w
      fun e w' => (hasAt L ⟨an, ar⟩ = true ∧ e = .returned (.int .i64 151) ∧ Below w.heap.size w w') ∨ (hasAt L ⟨an, ar⟩ = false ∧ e = .returned (.int .i64 0) ∧ RefIs w' r B (L ++ [⟨⟨an, ar⟩, ⟨bn, br⟩, nm, vl⟩]) ∧ Ext (fun k => k = r ∨ v.ownBlock = some k) w w') := by
  obtain ⟨va, vc, rfl, hcap, hmax, hcs⟩ := hown.slice (fun _ => rfl)
  unfold maxLen at hmax
  obtain ⟨i0, hi, hz0, hz1', hz2⟩ := info_parts info_write
  go_enter Try.func10, Try.ntmps10
  go_wp2_with fail
  refine (rright_any _ _ _).mono ?_
  rintro e w1 ⟨rfl, b1⟩
  rw [hr]
  have y1 : Below w.heap.size w w1 := (((Below.refl _ _).alloc (Nat.le_refl _) _).alloc (by simp) _).trans (b1.mono (by simp <;> omega))
  have k0 : w1.cell? ⟨w.heap.size, 0, none⟩ = some (.int .i64 an) := keepB b1 (by go_simp)
  have k1 : w1.cell? ⟨w.heap.size, 1, none⟩ = some (.int .i64 ar) := keepB b1 (by go_simp)
  have k2 : w1.cell? ⟨w.heap.size + 1, 0, none⟩ = some (.int .i64 bn) := keepB b1 (by go_simp)
  have k3 : w1.cell? ⟨w.heap.size + 1, 1, none⟩ = some (.int .i64 br) := keepB b1 (by go_simp)
  have hb1 := (y1.block r (Array.getElem?_eq_some_iff.1 hb).1).trans hb
  have c0 := cell_of_block hb1
  have hrl : r < w.heap.size := (Array.getElem?_eq_some_iff.1 hb).1
  have own1 := hown.ext (Ext.of_below (S := fun _ => False) y1) (fun _ _ h => h)
  clear b1 hb hown
  go_wp2_with fail
  go_loopg [12] L.length (fun g i wx => ∃ k : Nat, g = L.length - k ∧ k ≤ L.length ∧ i = .int .i64 k ∧ Hid (∀ j x, j < k → L[j]? = some x → x.at_ ≠ ⟨an, ar⟩) ∧ Below w1.heap.size w1 wx)
  case atStart => exact ⟨0, rfl, Nat.zero_le _, rfl, fun j x hj => absurd hj (by omega), Below.refl _ _⟩
  case round =>
    obtain ⟨k, hg, hk, rfl, hpre, hX⟩ := hrel
    have HG := Lib.hid hg
    clear hg
    have c0' := keepB hX c0
    have k0' := keepB hX k0
    have k1' := keepB hX k1
    by_cases hlt : k < L.length
    · obtain ⟨x, hx⟩ : ∃ x, L[k]? = some x := ⟨_, List.getElem?_eq_getElem hlt⟩
      obtain ⟨bs, os, rfl, hcc⟩ := hcs (by intro e; rw [e] at hlt; simp at hlt)
      have x0 : wr.cell? ⟨bs, os + k * 6, none⟩ = some (.int .i64 x.at_.n) := keepB hX (keepB y1 (hcc k x hx 0 _ rfl))
      have x1 : wr.cell? ⟨bs, os + k * 6 + 1, none⟩ = some (.int .i64 x.at_.r) := keepB hX (keepB y1 (hcc k x hx 1 _ rfl))
      have HX := Lib.hid hx
      clear hx hcc hcs k0 k1 k2 k3 c0
      by_cases hat : x.at_ = ⟨an, ar⟩
      · have e1 : x.at_.n = an := by rw [hat]
        have e2 : x.at_.r = ar := by rw [hat]
        rw [e1] at x0
        rw [e2] at x1
        have hh : hasAt L ⟨an, ar⟩ = true := by
          rw [hasAt, List.any_eq_true]
          exact ⟨x, List.mem_of_getElem? HX.out, by simp [hat]⟩
        have HH := Lib.hid hh
        clear hat e1 e2 hh
        go_wp2_with fail
        go_region_held3 (fun W => W.cell? ⟨r, 0, none⟩ = some (.slice (some ⟨bs, os, none⟩) L.length vc) ∧ W.cell? ⟨bs, os + k * 6, none⟩ = some (.int .i64 an) ∧ W.cell? ⟨bs, os + k * 6 + 1, none⟩ = some (.int .i64 ar) ∧ W.cell? ⟨w.heap.size, 0, none⟩ = some (.int .i64 an) ∧ W.cell? ⟨w.heap.size, 1, none⟩ = some (.int .i64 ar)) (exact ⟨c0', x0, x1, k0', k1'⟩) (fail)
        go_wp2_with fail
        go_ret
        exact .inl ⟨HH.out, rfl, (y1.trans (hX.mono y1.size)).drew⟩
      · have hd : (x.at_.n == an && x.at_.r == ar) = false := by
          rw [Bool.and_eq_false_iff]
          by_cases e1 : x.at_.n = an
          · right; simp; exact fun e2 => hat (st_ext e1 e2)
          · left; simpa using e1
        by_cases e1 : x.at_.n = an
        · have e2 : ¬ x.at_.r = ar := fun e2 => hat (st_ext e1 e2)
          have HA := Lib.hid hat
          clear hat hd
          go_wp2_with fail
          go_region_held3 (fun W => W.cell? ⟨r, 0, none⟩ = some (.slice (some ⟨bs, os, none⟩) L.length vc) ∧ W.cell? ⟨bs, os + k * 6, none⟩ = some (.int .i64 x.at_.n) ∧ W.cell? ⟨bs, os + k * 6 + 1, none⟩ = some (.int .i64 x.at_.r) ∧ W.cell? ⟨w.heap.size, 0, none⟩ = some (.int .i64 an) ∧ W.cell? ⟨w.heap.size, 1, none⟩ = some (.int .i64 ar)) (exact ⟨c0', x0, x1, k0', k1'⟩) (fail)
          go_wp2_with fail
          go_roundg (L.length - (k + 1))
          case measure => rw [HG.out]; omega
          case rel =>
            refine ⟨k + 1, rfl, hlt, by go_num, fun j y hj hy => ?_, hX.drew⟩
            by_cases hjk : j < k
            · exact hpre.out j y hjk hy
            · obtain rfl : j = k := by omega
              rw [HX.out] at hy; cases hy; exact HA.out
        · have HA := Lib.hid hat
          clear hat hd
          go_wp2_with fail
          go_region_held3 (fun W => W.cell? ⟨r, 0, none⟩ = some (.slice (some ⟨bs, os, none⟩) L.length vc) ∧ W.cell? ⟨bs, os + k * 6, none⟩ = some (.int .i64 x.at_.n) ∧ W.cell? ⟨bs, os + k * 6 + 1, none⟩ = some (.int .i64 x.at_.r) ∧ W.cell? ⟨w.heap.size, 0, none⟩ = some (.int .i64 an) ∧ W.cell? ⟨w.heap.size, 1, none⟩ = some (.int .i64 ar)) (exact ⟨c0', x0, x1, k0', k1'⟩) (fail)
          go_wp2_with fail
          go_roundg (L.length - (k + 1))
          case measure => rw [HG.out]; omega
          case rel =>
            refine ⟨k + 1, rfl, hlt, by go_num, fun j y hj hy => ?_, hX.drew⟩
            by_cases hjk : j < k
            · exact hpre.out j y hjk hy
            · obtain rfl : j = k := by omega
              rw [HX.out] at hy; cases hy; exact HA.out
    · have hh : hasAt L ⟨an, ar⟩ = false := by
        rw [Bool.eq_false_iff]
        intro hh
        rw [hasAt, List.any_eq_true] at hh
        obtain ⟨x, hx, he⟩ := hh
        obtain ⟨j, hj⟩ := List.getElem?_of_mem hx
        have := (List.getElem?_eq_some_iff.1 hj).1
        exact hpre.out j x (by omega) hj (by simpa using he)
      have HH := Lib.hid hh
      clear hh hpre
      have k2' := keepB hX k2
      have k3' := keepB hX k3
      have own2 := own1.ext (Ext.of_below (S := fun _ => False) hX) (fun _ _ h => h)
      have hb2 := (hX.block r (by have := y1.size; omega)).trans hb1
      have f0 := free_of_block hb2
      have hzr : w.heap.size + 1 < wr.heap.size := by have := cell_lt k2'; omega
      have hrw : r < wr.heap.size := by omega
      have hBw : B ≤ wr.heap.size := by omega
      have hnb : ∀ j u, (Write.cells ⟨⟨an, ar⟩, ⟨bn, br⟩, nm, vl⟩)[j]? = some u → (wr.alloc (.cells #[.int .i64 an, .int .i64 ar, .int .i64 bn, .int .i64 br, .string nm, .string vl] 32)).cell? ⟨wr.heap.size, j, none⟩ = some u := by
        intro j u hj
        rw [World.cell?_alloc_at _ _ _ _ rfl]
        rw [← hj, Write.cells]
        simp
      have HNB := Lib.hid hnb
      clear hnb
      have hown2 := own2.alloc (.cells #[.int .i64 an, .int .i64 ar, .int .i64 bn, .int .i64 br, .string nm, .string vl] 32)
      have HOW := Lib.hid hown2
      have hnr : ∀ t cur, wr.heap[r]? = some (.cells cur t (0, 0)) → t = 27 := fun t cur h => by rw [hb2] at h; cases h; rfl
      have hnr2 : ¬ (Value.slice va L.length vc).ownBlock = some r := fun e => by
        obtain ⟨cur, hc⟩ := own2.tag e
        have := hnr _ _ hc
        cases this
      have hall : ∀ w5 w6 : World, w5.heap = (wr.alloc (.cells #[.int .i64 an, .int .i64 ar, .int .i64 bn, .int .i64 br, .string nm, .string vl] 32)).heap → Ext (fun b => (Value.slice va L.length vc).ownBlock = some b) w5 w6 → w6.heap[r]? = some (.cells #[.slice va L.length vc] 27 (0, 0)) := fun w5 w6 h5 hx6 => by
        rw [hx6.block r (by rw [h5]; simp; omega) hnr2, h5, Below.heap_alloc _ _ _ hrw]; exact hb2
      have HALL := Lib.hid hall
      clear hnr hnr2 hall
      clear hown2 hcs k0 k1 k2 k3 c0 own1
      go_wp2_with fail
      go_region_law (refine step_append_struct (v := .slice va L.length vc) (l := L) rfl (.tmp 40) (.tmp 46) 22 rfl i0 _ 64 Try.underlying22 hi hz0 hz1' hz2 rfl (by omega) (fun _ => rfl) (fun x u hu => by simp [Write.cells] at hu; rcases hu with rfl | rfl | rfl | rfl | rfl | rfl <;> rfl) rfl HOW.out ⟨⟨an, ar⟩, ⟨bn, br⟩, nm, vl⟩ wr.heap.size 1 rfl HNB.out (by unfold maxLen; omega) (by omega) (by simp; omega) ?_; intro v' w6 hown6 hx6; obtain ⟨g6, cp6, rfl⟩ : ∃ g c, v' = .slice (some ⟨g, 0, none⟩) (L.length + 1) c := (by rcases hown6.eq_slice with ⟨_, h⟩ | ⟨g, c, h, _⟩; (simp at h); exact ⟨g, c, by simpa using h⟩); have hb6 := HALL.out _ w6 (by rfl) hx6; have g1 := cell_of_block hb6; have g2 := free_of_block hb6)
      all_goals
        have hfin : RefIs (w6.setCell ⟨r, 0, none⟩ (.slice (some ⟨g6, 0, none⟩) (L.length + 1) cp6)) r B (L ++ [⟨⟨an, ar⟩, ⟨bn, br⟩, nm, vl⟩]) := by
          refine ⟨_, block_store hb6, hown6.ext (ext_store _ _ _) (fun b hb e => ?_)⟩
          obtain ⟨cur, hc⟩ := hown6.tag hb
          rw [e, hb6] at hc
          cases hc
        have hx1 : Ext (fun k => k = r ∨ (Value.slice va L.length vc).ownBlock = some k) w wr := Ext.of_below (y1.trans (hX.mono y1.size))
        have hx2 : Ext (fun k => k = r ∨ (Value.slice va L.length vc).ownBlock = some k) w (w6.setCell ⟨r, 0, none⟩ (.slice (some ⟨g6, 0, none⟩) (L.length + 1) cp6)) := by
          refine Ext.setCell ?_ (.inr (.inl rfl)) _
          refine (hx1.alloc (.cells #[.int .i64 an, .int .i64 ar, .int .i64 bn, .int .i64 br, .string nm, .string vl] 32)).andThen (T := fun b => (Value.slice va L.length vc).ownBlock = some b) ?_ (fun b _ hb => .inr hb)
          exact ⟨hx6.os, hx6.tape, hx6.output, hx6.size, hx6.block⟩
        have HF := Lib.hid hfin
        have HF2 := Lib.hid hx2
        clear hfin hx1 hx2 hown6 hx6 hb6 g1 g2 hX y1 own2 hb2 f0 hb1 c0' k0' k1' k2' k3'
        go_wp2_with fail
        go_ret
        exact .inr ⟨HH.out, rfl, HF.out, HF2.out⟩

/-- What the reference's Set answers, and what it leaves. -/
def rsetCode (L : List Write) (a : St) : Int := if rightB a = false then 1 else if hasAt L a = true then 151 else 0
def rsetL (L : List Write) (x : Write) : List Write := if rsetCode L x.at_ = 0 then L ++ [x] else L

theorem rset_any (r B : Nat) (v : Value) (L : List Write) (x : Write) (w : World) (hb : w.heap[r]? = some (.cells #[v] 27 (0, 0))) (hown : Own Write.cells 6 32 B w v L) (hB : B ≤ w.heap.size) (hsz : L.length ≤ 1000) :
    Calls Try.prog 10 #[.pointer (some ⟨r, 0, none⟩), .agg #[.int .i64 x.at_.n, .int .i64 x.at_.r], .agg #[.int .i64 x.blk.n, .int .i64 x.blk.r], .string x.name, .string x.value] w
      fun e w' => e = .returned (.int .i64 (rsetCode L x.at_)) ∧ RefIs w' r B (rsetL L x) ∧ Ext (fun k => k = r ∨ v.ownBlock = some k) w w' := by
  by_cases hr : rightB x.at_ = true
  · refine (rset_ok r B v L x.at_.n x.at_.r x.blk.n x.blk.r x.name x.value w hb hown hB hsz hr).mono ?_
    rintro e w' (⟨h1, rfl, h2⟩ | ⟨h1, rfl, h2, h3⟩)
    · have h1' : hasAt L x.at_ = true := h1
      have e1 : rsetCode L x.at_ = 151 := by simp [rsetCode, hr, h1']
      rw [rsetL, e1]
      exact ⟨rfl, RefIs.below ⟨v, hb, hown⟩ h2, Ext.of_below h2⟩
    · have h1' : hasAt L x.at_ = false := h1
      have e1 : rsetCode L x.at_ = 0 := by simp [rsetCode, hr, h1']
      rw [rsetL, e1]
      exact ⟨rfl, h2, h3⟩
  · have hr' : rightB x.at_ = false := by simpa using hr
    refine (rset_bad r x.at_.n x.at_.r x.blk.n x.blk.r x.name x.value w hr').mono ?_
    rintro e w' ⟨rfl, h2⟩
    have e1 : rsetCode L x.at_ = 1 := by simp [rsetCode, hr']
    rw [rsetL, e1]
    exact ⟨rfl, RefIs.below ⟨v, hb, hown⟩ h2, Ext.of_below h2⟩

end Go.Proofs.Ytkkffnejgbhbmaa
