/- Layer 14: the reference's Same and SameStamps at one list. -/
import Derived.Test.YtilonmpcifohiaaKidsIn14
import Derived.Test.YtilonmpcifohiaaEnds14
import Derived.BigQuiet
import Derived.Deep.QuietTactic
import Derived.Deep.LoopGhost
namespace Go.Proofs.Ytilonmpcifohiaa
open Go.RowKit
set_option linter.unusedSimpArgs false
set_option linter.unusedVariables false

theorem beq_bytes_self (a : ByteArray) : (a == a) = true := by
  rw [show (a == a) = (a.data == a.data) from by cases a; rfl, beq_iff_eq]
set_option maxHeartbeats 2000000 in
theorem sameStamps_any (va vb : Value) (l : List St) (w : World) (ha : SliceIs St.cells 2 w va l) (hb : SliceIs St.cells 2 w vb l) (hl : l.length ≤ 100000) :
    Calls Try.prog 22 #[va, vb] w fun e w' => e = .returned (.bool true) ∧ Below w.heap.size w w' := by
  obtain ⟨aa, ac, rfl, _, _, _⟩ := id ha
  obtain ⟨ba, bc, rfl, _, _, _⟩ := id hb
  have HA := Lib.hid ha
  have HB := Lib.hid hb
  clear ha hb
  go_enter Try.func22, Try.ntmps22
  go_wp2_with fail
  go_loopg [5] l.length (fun g iv wx => ∃ i : Nat, g = l.length - i ∧ i ≤ l.length ∧ iv = .int .i64 i ∧ Below w.heap.size w wx)
  case atStart => exact ⟨0, rfl, Nat.zero_le _, rfl, Below.refl _ _⟩
  case round =>
    obtain ⟨i, hg, hi, rfl, hB⟩ := hrel
    have HG := Lib.hid hg
    clear hg
    by_cases hlt : i < l.length
    · obtain ⟨x, hx⟩ : ∃ x, l[i]? = some x := ⟨_, List.getElem?_eq_getElem hlt⟩
      have hne : l ≠ [] := by intro e; rw [e] at hlt; simp at hlt
      obtain ⟨b1, o1, c1, e1, h1⟩ := (HA.out.below hB).scells hne
      obtain ⟨b2, o2, c2, e2, h2⟩ := (HB.out.below hB).scells hne
      cases e1
      cases e2
      obtain ⟨x0, x1⟩ := h1 i x hx
      obtain ⟨y0, y1⟩ := h2 i x hx
      clear h1 h2 hx hne
      go_wp2_with fail
      go_quiet (fail)
      have hB2 := below_drewN hB nq
      go_wp2_with fail
      go_roundg (l.length - (i + 1))
      case measure => rw [HG.out]; omega
      case rel => exact ⟨i + 1, rfl, hlt, by go_num, hB2⟩
    · go_wp2_with fail
      go_ret
      exact ⟨rfl, hB⟩

set_option maxHeartbeats 2000000 in
theorem same_any (va vb : Value) (l : List Ch) (w : World) (ha : SliceIs Ch.cells 5 w va l) (hb : SliceIs Ch.cells 5 w vb l) (hl : l.length ≤ 100000) :
    Calls Try.prog 19 #[va, vb] w fun e w' => e = .returned (.bool true) ∧ Below w.heap.size w w' := by
  obtain ⟨aa, ac, rfl, _, _, _⟩ := id ha
  obtain ⟨ba, bc, rfl, _, _, _⟩ := id hb
  have HA := Lib.hid ha
  have HB := Lib.hid hb
  clear ha hb
  go_enter Try.func19, Try.ntmps19
  go_wp2_with fail
  go_loopg [5] l.length (fun g iv wx => ∃ i : Nat, g = l.length - i ∧ i ≤ l.length ∧ iv = .int .i64 i ∧ Below w.heap.size w wx)
  case atStart => exact ⟨0, rfl, Nat.zero_le _, rfl, Below.refl _ _⟩
  case round =>
    obtain ⟨i, hg, hi, rfl, hB⟩ := hrel
    have HG := Lib.hid hg
    clear hg
    by_cases hlt : i < l.length
    · obtain ⟨x, hx⟩ : ∃ x, l[i]? = some x := ⟨_, List.getElem?_eq_getElem hlt⟩
      have hne : l ≠ [] := by intro e; rw [e] at hlt; simp at hlt
      obtain ⟨b1, o1, c1, e1, h1⟩ := (HA.out.below hB).dcells hne
      obtain ⟨b2, o2, c2, e2, h2⟩ := (HB.out.below hB).dcells hne
      cases e1
      cases e2
      obtain ⟨x0, x1, x2, x3, x4⟩ := h1 i x hx
      obtain ⟨y0, y1, y2, y3, y4⟩ := h2 i x hx
      have hk := beq_bytes_self x.key
      clear h1 h2 hx hne
      go_wp2_with fail
      go_quiet (fail)
      have hB2 := below_drewN hB nq
      go_wp2_with fail
      go_roundg (l.length - (i + 1))
      case measure => rw [HG.out]; omega
      case rel => exact ⟨i + 1, rfl, hlt, by go_num, hB2⟩
    · go_wp2_with fail
      go_ret
      exact ⟨rfl, hB⟩

/-- A call as one operation of a region. -/
theorem op_call {P : Program} {ops : Array Oper} {Q : Exit → Act → World → Prop} {i : Nat} {o : Oper} {d : Option Tmp} {f : FuncId} {args : Array Value} {K : Act → World → Prop} {a : Act} {w w' : World} (ho : ops[i]? = some o) (hd : o.dst = d) (hw : Region.wanted o (yielded ops a.tmps) = true)
    (hv : (execOp a.eval o).run P w = .ok (.enter f args) w') (h : Calls P f args w' fun e w'' => ∃ v, e = .returned v ∧ K (a.put d v) w'') : wpOp P ops Q i K a w := by
  subst hd
  exact wpOp_step ho fun K' hK => by
    rw [if_pos hw, Oper.wp, hv, Oper.upon_enter]
    refine Calls.mono h ?_
    rintro e w'' ⟨v, rfl, h1⟩
    exact hK _ _ h1

theorem SliceIs.drop {α : Type} {ea : α → List Value} {q : Nat} {w : World} {l : List α} {g o cap n : Nat} (h : SliceIs ea q w (.slice (some ⟨g, o, none⟩) l.length cap) l) (hn : n ≤ l.length) :
    SliceIs ea q w (.slice (some ⟨g, o + n * q, none⟩) (l.length - n) (cap - n)) (l.drop n) := by
  obtain ⟨a', cap', e, h1, h2, h3⟩ := h
  cases e
  refine ⟨_, cap - n, by rw [List.length_drop], by rw [List.length_drop]; omega, by unfold maxLen at h2 ⊢; omega, fun hne => ?_⟩
  obtain ⟨b, off, e, h4⟩ := h3 (fun e => hne (by rw [e]; simp))
  cases e
  refine ⟨g, o + n * q, rfl, fun i x hi j u hj => ?_⟩
  rw [List.getElem?_drop] at hi
  have := h4 (n + i) x hi j u hj
  rw [Nat.add_mul] at this
  rw [show o + n * q + i * q + j = o + (n * q + i * q) + j by omega]
  exact this
/-- append by an equation of its run. -/
theorem wpList_append_run {P : Program} {ops : Array Oper} {rest : List Oper} {o : Oper} {a : Act} {w : World} {Q : Exit → Act → World → Prop} (hgd : o.guard = none) (s x : Operand) (t : TypeId)
    (ho : o.op = .call { callee := .builtin .append, args := #[s, x], argTypes := #[t, t] }) {v vx v' : Value} {w' : World} (hs : a.eval s = v) (hx : a.eval x = vx)
    (hr : (Builtin.append_ #[t, t] o.type #[v, vx]).run P w = .ok v' w') (h : wpList P ops Q rest (a.put o.dst v') w') : wpList P ops Q (o :: rest) a w :=
  wpList_plain hgd fun _ hK => by
    have hv : (execOp a.eval o).run P w = .ok (.value v') w' := by
      unfold execOp
      simp only [ho, resolve, invoke, builtin, Sem.run_bind, Sem.run_pure, Result.andThen_ok, List.map_toArray, List.map_cons, List.map_nil, hs, hx, hr]
    rw [Oper.wp, hv]
    exact hK _ _ h

/-- One set of moves comes to one tree. -/
theorem kept_unique {c d : List (St × Ch)} {a b : List RMv} (hc : Kept c a) (hd : Kept d b) (h : a.Perm b) : c = d :=
  sorted_unique (R := fun x y : St × Ch => stLt x.1 y.1) (fun x => stLt_irrefl x.1) (fun _ _ _ h k => stLt_trans h k) hc.ris hd.ris fun z => by
    rw [hc.mem, hd.mem]
    constructor
    · rintro ⟨x, hx, rfl⟩; exact ⟨x, h.mem_iff.1 hx, rfl⟩
    · rintro ⟨x, hx, rfl⟩; exact ⟨x, h.mem_iff.2 hx, rfl⟩
theorem kept_next {c : List (St × Ch)} {D L : List RMv} {call : List (St × Ch)} {all : List RMv} {x : RMv} {k : Nat} (ha : Kept call all) (hp : (D ++ L).Perm all) (hc : Kept c D) (hx : L[k]? = some x) :
    moveCode c x.at_ x.block x.under = 0 ∧ Kept (addC c x.at_ x.ch) (D ++ [x]) ∧ ((D ++ [x]) ++ L.eraseIdx k).Perm all := by
  have hpe : (x :: L.eraseIdx k).Perm L := by
    have hl := (List.getElem?_eq_some_iff.1 hx)
    exact (perm_erase hx).symm
  have hp2 : ((D ++ [x]) ++ L.eraseIdx k).Perm all := by
    rw [List.append_assoc]
    exact (List.Perm.append_left D hpe).trans hp
  have hxa : x ∈ all := hp2.mem_iff.1 (by simp)
  have hg := ha.good x hxa
  have hap : ((D ++ [x]) ++ L.eraseIdx k).Pairwise (fun x y => x.at_ ≠ y.at_) := (hp2.pairwise_iff (fun h => Ne.symm h)).2 ha.apart
  have hap2 := (List.pairwise_append.1 hap).1
  have hap3 := List.pairwise_append.1 hap2
  have hfree : ∀ z ∈ c, z.1 ≠ x.at_ := fun z hz => by
    obtain ⟨y, hy, rfl⟩ := (hc.mem z).1 hz
    exact hap3.2.2 y hy x (by simp)
  have hm : moveCode c x.at_ x.block x.under = 0 := by
    unfold moveCode
    rw [if_pos hg, if_neg (by rintro ⟨z, hz, e⟩; exact hfree z hz e)]
  refine ⟨hm, ?_, hp2⟩
  have ha2 : addC c x.at_ x.ch = insC c (x.at_, x.ch) := by
    unfold addC
    rw [if_pos (show moveCode c x.at_ x.ch.block x.ch.under = 0 from hm)]
  rw [ha2]
  refine ⟨insC_ris hc.ris hfree, fun z => ?_, fun y hy => ?_, hap2, by rw [insC_length, hc.len, List.length_append]; rfl⟩
  · rw [mem_insC, hc.mem]
    constructor
    · rintro (rfl | ⟨y, hy, rfl⟩)
      · exact ⟨x, by simp, rfl⟩
      · exact ⟨y, by simp [hy], rfl⟩
    · rintro ⟨y, hy, rfl⟩
      rcases List.mem_append.1 hy with h | h
      · exact .inr ⟨y, h, rfl⟩
      · rw [List.mem_singleton.1 h]; exact .inl rfl
  · rcases List.mem_append.1 hy with h | h
    · exact hc.good y h
    · rw [List.mem_singleton.1 h]; exact hg

end Go.Proofs.Ytilonmpcifohiaa
