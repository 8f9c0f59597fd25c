/- Slices cut; append of truths and of numbers. -/
import Derived.Test.YtgmdimbiipemhaaGreatDoorAppB08
import Derived.Test.YtgmdimbiipemhaaGreatDoorRep08
import Derived.Test.YtgmdimbiipemhaaGreatDoorRBools08
import Derived.Test.YtgmdimbiipemhaaGreatDoorDecP08
namespace Go.Proofs.YtgmdimbiipemhaaGreatDoor
open Go.RowKit Go.Deep
set_option linter.unusedSimpArgs false
set_option linter.unusedVariables false

theorem size_u8 : (Tryz.prog.info? 5).map (·.size) = some 1 := by kernel_rfl
theorem size_int : (Tryz.prog.info? 3).map (·.size) = some 1 := by kernel_rfl
theorem size_bool : (Tryz.prog.info? 4).map (·.size) = some 1 := by kernel_rfl
theorem addr_add8 (b o j : Nat) : (⟨b, o, none⟩ : Addr).add j = ⟨b, o + j, none⟩ := by unfold Addr.add; split <;> simp_all
/-- x[p:]. -/
theorem slice_from {P : Program} {α : Type} {ea : α → List Value} {q : Nat} {t e : TypeId} (ht : P.underlying t = some (.slice e)) (hsz : (P.info? e).map (·.size) = some q) (a : Option Addr) (n cap p : Nat) (hn : n ≤ cap) (hp : p ≤ n) :
    ∃ a' c', (∀ W, (Instr.slice t (.slice a n cap) (some (.int .i64 (p : Int))) none none).run P W = .ok (.slice a' (n - p) c') W) ∧ (∀ W (l : List α), l.length = n → SliceIs ea q W (.slice a n cap) l → SliceIs ea q W (.slice a' (n - p) c') (l.drop p)) ∧ (∀ ad, a' = some ad → ∃ ad0, a = some ad0 ∧ ad.block = ad0.block) := by
  obtain ⟨i, hi, hq⟩ : ∃ i, P.info? e = some i ∧ i.size = q := by
    cases h : P.info? e with
    | none => rw [h] at hsz; cases hsz
    | some i => rw [h] at hsz; exact ⟨i, rfl, Option.some.inj hsz⟩
  refine ⟨if cap = p then a else a.map (·.add (p * q)), cap - p, fun W => ?_, fun W l hl h => ?_, fun ad h => ?_⟩
  · simp [Instr.slice, Instr.sliceBounds, Instr.sliceBound, asIntOf, run_underlying ht, sizeOf, typeInfo, hi, hq, hp, hn]
  · obtain ⟨a2, c2, e2, h1, h2, h3⟩ := h
    cases e2
    refine ⟨_, _, by rw [List.length_drop], by rw [List.length_drop]; omega, by omega, fun hne => ?_⟩
    have hlt : p < l.length := by
      rcases Nat.lt_or_ge p l.length with h | h
      · exact h
      · exact absurd (List.drop_eq_nil_of_le (by omega)) hne
    have hl0 : l ≠ [] := by rintro rfl; simp at hne
    obtain ⟨b, off, rfl, h4⟩ := h3 hl0
    rw [if_neg (by omega)]
    refine ⟨b, off + p * q, by simp [addr_add8], fun i x hi' j u hj => ?_⟩
    rw [List.getElem?_drop] at hi'
    have h5 := h4 (p + i) x hi' j u hj
    rw [Nat.add_mul] at h5
    rw [show off + p * q + i * q + j = off + (p * q + i * q) + j by omega]
    exact h5
  · split at h
    · exact ⟨ad, h, rfl⟩
    · cases a with
      | none => cases h
      | some a0 => cases h; exact ⟨a0, rfl, by unfold Addr.add; split <;> rfl⟩
theorem below_keep1 {B : Nat} {w w' : World} (h : Below B w w') {b o : Nat} {v : Value} (hc : w.cell? ⟨b, o, none⟩ = some v) (hb : b < B) : w'.cell? ⟨b, o, none⟩ = some v := (World.cell?_of_block (h.block b hb)).trans hc
theorem ext_of_below9 {B : Nat} {w w' : World} (h : Below B w w') : Ext (fun k => B ≤ k) w w' := ⟨h.os, h.tape, h.output, h.size, fun k hk hn => h.block k (by omega)⟩
theorem SliceIs.of1 {α : Type} {ea : α → List Value} {q : Nat} {w w' : World} {bb oo n cap : Nat} {l : List α} (h : SliceIs ea q w (.slice (some ⟨bb, oo, none⟩) n cap) l) (hb : ∀ o u, w.cell? ⟨bb, o, none⟩ = some u → w'.cell? ⟨bb, o, none⟩ = some u) : SliceIs ea q w' (.slice (some ⟨bb, oo, none⟩) n cap) l := by
  obtain ⟨a, c, e, h2, h3, h4⟩ := h
  cases e
  exact ⟨_, _, rfl, h2, h3, fun hl => by obtain ⟨b, off, e5, h6⟩ := h4 hl; cases e5; exact ⟨_, _, rfl, fun i x hi j u hj => hb _ _ (h6 i x hi j u hj)⟩⟩
theorem SliceIs.nil_any {α : Type} {ea : α → List Value} {q : Nat} {W : World} (a : Option Addr) (c : Nat) (hc : c ≤ 9223372036854775807) : SliceIs ea q W (.slice a 0 c) ([] : List α) := ⟨a, c, rfl, Nat.zero_le _, by unfold maxLen; omega, fun h => absurd rfl h⟩

theorem bools_append {base : Nat} {w0 w : World} {v vx : Value} {out ys : List Bool} (ho : Own btc 1 4 base w v out) (hb : Below base w0 w) (hx : SliceIs btc 1 w vx ys) (hbase : base ≤ w.heap.size) (hl : out.length + ys.length ≤ 1000000000000) :
    ∃ (s : Sl) (w' : World), (Builtin.append_ #[75, 75] 75 #[v, vx]).run Tryz.prog w = .ok (.slice s.a s.n s.cap) w' ∧ Own btc 1 4 base w' (.slice s.a s.n s.cap) (out ++ ys) ∧ Below base w0 w' ∧ base ≤ w'.heap.size := by
  obtain ⟨i0, hi, hz0, hz1, hz2⟩ := info_parts info_bt
  obtain ⟨v', w', hr, ho2, hx2⟩ := append_structs (P := Tryz.prog) 75 75 i0 _ 1 Tryz.underlying75 hi hz0 hz1 hz2 rfl (by omega) btc_len btc_one ho hx (by unfold maxLen; omega) (by omega) hbase
  obtain ⟨s, rfl⟩ := ho2.sl
  exact ⟨s, w', hr, ho2, Ext.new hb hx2 (fun i hi _ e => by have := (ho.blk i e).1; omega) hbase, Nat.le_trans hbase hx2.size⟩

theorem ints_append {base : Nat} {w0 w : World} {v vx : Value} {out ys : List Int} (ho : Own intc 1 3 base w v out) (hb : Below base w0 w) (hx : SliceIs intc 1 w vx ys) (hbase : base ≤ w.heap.size) (hl : out.length + ys.length ≤ 1000000000000) :
    ∃ (s : Sl) (w' : World), (Builtin.append_ #[100, 100] 100 #[v, vx]).run Tryz.prog w = .ok (.slice s.a s.n s.cap) w' ∧ Own intc 1 3 base w' (.slice s.a s.n s.cap) (out ++ ys) ∧ Below base w0 w' ∧ base ≤ w'.heap.size := by
  obtain ⟨i0, hi, hz0, hz1, hz2⟩ := info_parts info_int
  obtain ⟨v', w', hr, ho2, hx2⟩ := append_structs (P := Tryz.prog) 100 100 i0 _ 8 Tryz.underlying100 hi hz0 hz1 hz2 rfl (by omega) intc_len intc_one ho hx (by unfold maxLen; omega) (by omega) hbase
  obtain ⟨s, rfl⟩ := ho2.sl
  exact ⟨s, w', hr, ho2, Ext.new hb hx2 (fun i hi _ e => by have := (ho.blk i e).1; omega) hbase, Nat.le_trans hbase hx2.size⟩

/-- What TakeBools answers. -/
def TbPost (w : World) (b : List UInt8) (n : Nat) (e : Ending) (w' : World) : Prop := (∃ l u v, decT n false true b = some (l, u) ∧ e = .returned (.tuple #[v, .int .i64 (u : Nat), .int .i64 0]) ∧ Own btc 1 4 w.heap.size w' v l ∧ Below w.heap.size w w') ∨
  (decT n false true b = none ∧ e = .returned (.tuple #[.slice none 0 0, .int .i64 0, .int .i64 41]) ∧ Below w.heap.size w w')
/-- What TakeRuns answers. -/
def TrPost (w : World) (b : List UInt8) (n : Nat) (e : Ending) (w' : World) : Prop := (∃ l u v, decR n none b = some (l, u) ∧ e = .returned (.tuple #[v, .int .i64 (u : Nat), .int .i64 0]) ∧ Own intc 1 3 w.heap.size w' v l ∧ Below w.heap.size w w') ∨
  (decR n none b = none ∧ e = .returned (.tuple #[.slice none 0 0, .int .i64 0, .int .i64 41]) ∧ Below w.heap.size w w')
theorem takeV_nil : takeV [] = none := takeV_none.2 (fun n h => putB_ne n (List.prefix_nil.1 h.2))
theorem SliceIs.drop1 {w : World} {ad : Addr} {cap p : Nat} {l : List UInt8} (h : SliceIs u8c 1 w (.slice (some ad) l.length cap) l) (hp : p ≤ l.length) : SliceIs u8c 1 w (.slice (some (ad.add p)) (l.length - p) (cap - p)) (l.drop p) := by
  obtain ⟨a', cap', e, h1, h2, h3⟩ := h
  cases e
  refine ⟨_, cap - p, by rw [List.length_drop], by rw [List.length_drop]; omega, by unfold maxLen at h2 ⊢; omega, fun hne => ?_⟩
  obtain ⟨b, off, e, h4⟩ := h3 (fun e => hne (by rw [e]; simp))
  cases e
  refine ⟨b, off + p, by unfold Addr.add; split <;> simp_all, fun i x hi j u hj => ?_⟩
  rw [List.getElem?_drop] at hi
  have := h4 (p + i) x hi j u hj
  rw [show off + p + i * 1 + j = off + (p + i) * 1 + j by omega]
  exact this


end Go.Proofs.YtgmdimbiipemhaaGreatDoor
