/- Layer 14: do. -/
import Derived.Test.YtilonmpcifohiaaUp14
import Derived.Test.YtilonmpcifohiaaInsert14
import Derived.Test.YtilonmpcifohiaaRange
namespace Go.Proofs.Ytilonmpcifohiaa
open Go.RowKit
set_option linter.unusedSimpArgs false
set_option linter.unusedVariables false
attribute [local go_sem] Oper.semAt_some
attribute [local go_sem] MapIs.alloc MapIs.drew MapIs.setCell

/-- What is noted of where a block hung. -/
def WasIs (x : Option Ch) (wb : Option Nat) (n : Nat) (W : World) : Prop :=
  match x with
  | none => wb = none
  | some c => ∃ b, wb = some b ∧ n ≤ b ∧ BoxC W b c

theorem do_tail {mh g N : Nat} {hl : List (St × Ch)} {h : Hang} {c : Ch} {wb : Option Nat} {w WA : World} {X : Obj} (hag : Agree hl h) (hup : ¬ Up h c.under c.block) (ah : MapIs St.val Ch.val WA mh hl)
    (ag : WA.heap[g]? = some X) (aK : WA.heap[N]? = some (.deferred (some []))) (ax : Ext (· = g) w WA) (hN : w.heap.size ≤ N) (hgl : g < w.heap.size) (hmg : mh ≠ g) (hwas : WasIs (h c.block) wb w.heap.size WA)
    (W1 : World) (hW1 : W1 = mapPut WA.drew mh (aidx hl c.block) c.block.val c.val) :
    W1.heap[N]? = some (.deferred (some [])) ∧ MapIs St.val Ch.val (W1.putObj N (.deferred none)) mh (aset hl c.block c) ∧ Agree (aset hl c.block c) (stepH h c) ∧ (W1.putObj N (.deferred none)).heap[g]? = some X ∧
      WasIs (h c.block) wb w.heap.size (W1.putObj N (.deferred none)) ∧ Ext (fun k => k = g ∨ k = mh) w (W1.putObj N (.deferred none)) := by
  have hmN : mh ≠ N := fun e => by
    obtain ⟨_, es, cl, h1, _⟩ := ah
    rw [e, aK] at h1; cases h1
  have hxp := ext_putObj W1 N (.deferred none)
  have hb : ∀ k, k ≠ mh → W1.heap[k]? = WA.heap[k]? := fun k hk => by rw [hW1]; exact mapPut_block WA.drew mh _ _ _ k hk
  have hsz : W1.heap.size = WA.heap.size := by rw [hW1]; exact mapPut_size _ _ _ _ _
  have hm1 : MapIs St.val Ch.val W1 mh (aset hl c.block c) := by rw [hW1]; exact ah.drew.put c.block c
  refine ⟨(hb N (fun e => hmN e.symm)).trans aK, hm1.ext hxp hmN, ?_, ?_, ?_, ?_⟩
  · rw [stepH_took (tookH_of_not hup)]; exact hag.set _ _
  · have hgA := (Array.getElem?_eq_some_iff.1 ag).1
    exact (hxp.block g (by omega) (by omega)).trans ((hb g (fun e => hmg e.symm)).trans ag)
  · revert hwas
    unfold WasIs
    cases h c.block with
    | none => exact id
    | some d =>
      rintro ⟨b, e, hnb, hbx⟩
      have hbl : b < WA.heap.size := (Array.getElem?_eq_some_iff.1 (show WA.heap[b]? = _ from hbx)).1
      have hbm : b ≠ mh := fun e => by
        obtain ⟨_, es, cl, h1, _⟩ := ah
        rw [← e, show WA.heap[b]? = _ from hbx] at h1; cases h1
      have hbN : b ≠ N := fun e => by
        have h2 := show WA.heap[b]? = _ from hbx
        rw [e, aK] at h2; cases h2
      exact ⟨b, e, hnb, ((hxp.block b (by omega) hbN).trans (hb b hbm)).trans hbx⟩
  · have h1 : Ext (fun k => k = g ∨ k = mh) w W1 := by
      rw [hW1]
      exact (ax.mono (fun k _ e => .inl e)).drew.mapPut (.inl (.inr rfl)) _ _ _
    exact h1.andThen hxp (fun k hk e => by omega)

set_option maxRecDepth 100000 in
set_option maxHeartbeats 2000000 in
theorem do_any (t mh g o : Nat) (m : Mv) (cur : Array Value) (hl : List (St × Ch)) (h : Hang) (hag : Agree hl h) (hac : Acyc h) (w : World) (hc : w.cell? ⟨t, 1, none⟩ = some (.map (some mh))) (hh : MapIs St.val Ch.val w mh hl)
    (hg : w.heap[g]? = some (.cells cur 66 (0, 0))) (hm : MvAt w g o m) (htg : t ≠ g) :
    Calls Try.prog 31 #[.pointer (some ⟨t, 0, none⟩), .pointer (some ⟨g, o, none⟩)] w
      fun e w' => (∃ v, e = .returned v) ∧ ∃ wb hl', MapIs St.val Ch.val w' mh hl' ∧ Agree hl' (stepH h m.child) ∧
        w'.heap[g]? = some (.cells ((cur.setIfInBounds (o + 7) (.bool (tookH h m.child))).setIfInBounds (o + 8) (ptr wb)) 66 (0, 0)) ∧
        (tookH h m.child = true → WasIs (h m.child.block) wb w.heap.size w') ∧ Ext (fun k => k = g ∨ k = mh) w w' := by
  obtain ⟨c0, c1, c2, c3, c4, c5, c6, c7, c8⟩ := id hm
  refine (callsIn_wide (n := 4)).1 ?_
  refine callsIn_of_wp_marks Try.func31 rfl trivial ?_ rfl
  simp only [Try.ntmps31, List.size_toArray, List.length_cons, List.length_nil, Nat.reduceAdd, Nat.reduceSub, Array.replicate_succ, Array.replicate_zero, List.push_toArray, List.append_toArray, List.nil_append, List.cons_append]
  have hgl : g < w.heap.size := (Array.getElem?_eq_some_iff.1 hg).1
  have f7 : w.frozen? ⟨g, o + 7, none⟩ = false := by simp [World.frozen?, hg]
  have f8 : w.frozen? ⟨g, o + 8, none⟩ = false := by simp [World.frozen?, hg]
  have hgn : ¬ g = w.heap.size := by omega
  gi_wp2
  gi_region
  gi_wp2
  have hx0 : Ext (· = g) w (((w.setCell ⟨g, o + 7, none⟩ (.bool true)).setCell ⟨g, o + 8, none⟩ (.pointer none)).alloc (.cells #[.pointer (some ⟨g, o, none⟩)] 63)).drew :=
    ((((Ext.refl (· = g) w).setCell (p := ⟨g, o + 7, none⟩) (.inr rfl) _).setCell (p := ⟨g, o + 8, none⟩) (.inr rfl) _).alloc _).drew
  have d2 : (((w.setCell ⟨g, o + 7, none⟩ (.bool true)).setCell ⟨g, o + 8, none⟩ (.pointer none)).alloc (.cells #[.pointer (some ⟨g, o, none⟩)] 63)).drew.cell? ⟨g, o + 2, none⟩ = some (.int .i64 m.child.block.n) := by go_simp
  have d3 : (((w.setCell ⟨g, o + 7, none⟩ (.bool true)).setCell ⟨g, o + 8, none⟩ (.pointer none)).alloc (.cells #[.pointer (some ⟨g, o, none⟩)] 63)).drew.cell? ⟨g, o + 3, none⟩ = some (.int .i64 m.child.block.r) := by go_simp
  have d4 : (((w.setCell ⟨g, o + 7, none⟩ (.bool true)).setCell ⟨g, o + 8, none⟩ (.pointer none)).alloc (.cells #[.pointer (some ⟨g, o, none⟩)] 63)).drew.cell? ⟨g, o + 4, none⟩ = some (.int .i64 m.child.under.n) := by go_simp
  have d5 : (((w.setCell ⟨g, o + 7, none⟩ (.bool true)).setCell ⟨g, o + 8, none⟩ (.pointer none)).alloc (.cells #[.pointer (some ⟨g, o, none⟩)] 63)).drew.cell? ⟨g, o + 5, none⟩ = some (.int .i64 m.child.under.r) := by go_simp
  have d6 : (((w.setCell ⟨g, o + 7, none⟩ (.bool true)).setCell ⟨g, o + 8, none⟩ (.pointer none)).alloc (.cells #[.pointer (some ⟨g, o, none⟩)] 63)).drew.cell? ⟨g, o + 6, none⟩ = some (.string m.child.key) := by go_simp
  have d7 : (((w.setCell ⟨g, o + 7, none⟩ (.bool true)).setCell ⟨g, o + 8, none⟩ (.pointer none)).alloc (.cells #[.pointer (some ⟨g, o, none⟩)] 63)).drew.cell? ⟨g, o + 7, none⟩ = some (.bool true) := by go_simp
  have dbx : (((w.setCell ⟨g, o + 7, none⟩ (.bool true)).setCell ⟨g, o + 8, none⟩ (.pointer none)).alloc (.cells #[.pointer (some ⟨g, o, none⟩)] 63)).drew.cell? ⟨w.heap.size, 0, none⟩ = some (.pointer (some ⟨g, o, none⟩)) := by go_simp
  have dsz : (((w.setCell ⟨g, o + 7, none⟩ (.bool true)).setCell ⟨g, o + 8, none⟩ (.pointer none)).alloc (.cells #[.pointer (some ⟨g, o, none⟩)] 63)).drew.heap.size = w.heap.size + 1 := by simp
  have dg : (((w.setCell ⟨g, o + 7, none⟩ (.bool true)).setCell ⟨g, o + 8, none⟩ (.pointer none)).alloc (.cells #[.pointer (some ⟨g, o, none⟩)] 63)).drew.heap[g]? = some (.cells ((cur.setIfInBounds (o + 7) (.bool true)).setIfInBounds (o + 8) (.pointer none)) 66 (0, 0)) :=
    (Below.heap_alloc ((w.setCell ⟨g, o + 7, none⟩ (.bool true)).setCell ⟨g, o + 8, none⟩ (.pointer none)) _ g (by simp [World.setCell]; omega)).trans (heap_setCell_same _ g (o + 8) _ _ _ (heap_setCell_same w g (o + 7) cur _ _ hg))
  have dc := hx0.keep hc htg
  have hmg : mh ≠ g := fun e => by
    obtain ⟨_, es, cl, h1, _⟩ := hh
    rw [e, hg] at h1; cases h1
  have dh := hh.ext hx0 hmg
  have HX0 := Lib.hid hx0
  have HDG := Lib.hid dg
  clear hx0 dg c0 c1 c2 c3 c4 c5 c6 c7 c8 f7 f8 hc hh
  generalize (((w.setCell ⟨g, o + 7, none⟩ (.bool true)).setCell ⟨g, o + 8, none⟩ (.pointer none)).alloc (.cells #[.pointer (some ⟨g, o, none⟩)] 63)).drew = W0 at *
  refine ⟨trivial, ?_⟩
  refine (callsIn_wide.2 (up_any t m.child.under W0)).mono ?_
  rintro e w' ⟨rfl, rfl⟩
  gi_wp2
  obtain ⟨k0, hk0⟩ := hac m.child.under
  have hbB := ((Below.refl W0.heap.size W0).alloc (Nat.le_refl _) (.cells #[.pointer (some ⟨t, 0, none⟩)] 27)).alloc (by simp) (.cells #[.int .i64 m.child.under.n, .int .i64 m.child.under.r] 24)
  have e2 := keepB hbB d2
  have e3 := keepB hbB d3
  have e4 := keepB hbB d4
  have e5 := keepB hbB d5
  have e6 := keepB hbB d6
  have e7 := keepB hbB d7
  have ebx := keepB hbB dbx
  have ec := keepB hbB dc
  have eh := dh.below hbB
  have ebt : ((W0.alloc (.cells #[.pointer (some ⟨t, 0, none⟩)] 27)).alloc (.cells #[.int .i64 m.child.under.n, .int .i64 m.child.under.r] 24)).cell? ⟨w.heap.size + 1, 0, none⟩ = some (.pointer (some ⟨t, 0, none⟩)) := by rw [← dsz]; go_simp
  have eb0 : ((W0.alloc (.cells #[.pointer (some ⟨t, 0, none⟩)] 27)).alloc (.cells #[.int .i64 m.child.under.n, .int .i64 m.child.under.r] 24)).cell? ⟨w.heap.size + 1 + 1, 0, none⟩ = some (.int .i64 m.child.under.n) := by rw [← dsz]; go_simp
  have eb1 : ((W0.alloc (.cells #[.pointer (some ⟨t, 0, none⟩)] 27)).alloc (.cells #[.int .i64 m.child.under.n, .int .i64 m.child.under.r] 24)).cell? ⟨w.heap.size + 1 + 1, 1, none⟩ = some (.int .i64 m.child.under.r) := by rw [← dsz]; go_simp
  have ef0 : ((W0.alloc (.cells #[.pointer (some ⟨t, 0, none⟩)] 27)).alloc (.cells #[.int .i64 m.child.under.n, .int .i64 m.child.under.r] 24)).frozen? ⟨w.heap.size + 1 + 1, 0, none⟩ = false := by rw [← dsz]; go_simp
  have ef1 : ((W0.alloc (.cells #[.pointer (some ⟨t, 0, none⟩)] 27)).alloc (.cells #[.int .i64 m.child.under.n, .int .i64 m.child.under.r] 24)).frozen? ⟨w.heap.size + 1 + 1, 1, none⟩ = false := by rw [← dsz]; go_simp
  have esz : ((W0.alloc (.cells #[.pointer (some ⟨t, 0, none⟩)] 27)).alloc (.cells #[.int .i64 m.child.under.n, .int .i64 m.child.under.r] 24)).heap.size = w.heap.size + 3 := by simp [dsz]
  have eg : ((W0.alloc (.cells #[.pointer (some ⟨t, 0, none⟩)] 27)).alloc (.cells #[.int .i64 m.child.under.n, .int .i64 m.child.under.r] 24)).heap[g]? = _ := (hbB.block g (by omega)).trans HDG.out
  have hxB : Ext (· = g) w ((W0.alloc (.cells #[.pointer (some ⟨t, 0, none⟩)] 27)).alloc (.cells #[.int .i64 m.child.under.n, .int .i64 m.child.under.r] 24)) := HX0.out.then_below hbB
  clear hbB d2 d3 d4 d5 d6 d7 dbx dc dh HDG HX0
  generalize (W0.alloc (.cells #[.pointer (some ⟨t, 0, none⟩)] 27)).alloc (.cells #[.int .i64 m.child.under.n, .int .i64 m.child.under.r] 24) = WB at *
  have hmw : mh < WB.heap.size := eh.lt
  have htw : t < WB.heap.size := cell_lt ec
  have htne : t ≠ w.heap.size + 1 + 1 := fun e => by
    have h1 := ec
    rw [e, eb1] at h1; cases h1
  have hmne : mh ≠ w.heap.size + 1 + 1 := fun e => by
    obtain ⟨_, es, cl, h1, _⟩ := eh
    rw [e] at h1
    have h2 := eb0
    simp only [World.cell?, h1] at h2
    cases h2
  refine range_ext (U := St) (by omega) (gf := 57) (lb := #[.pointer (some ⟨w.heap.size + 1 + 1, 0, none⟩), .pointer (some ⟨w.heap.size + 1, 0, none⟩)]) rfl (enters_of Try.func57 (by kernel_rfl) rfl)
    (fun u => #[.agg #[.int .i64 u.n, .int .i64 u.r]]) (fun _ => rfl) (· = w.heap.size + 1 + 1) (fun k e => by omega)
    (fun W => Ext (fun k => k = w.heap.size + 1 + 1) WB W)
    (fun c W => c = .ret ∧ Ext (fun k => k = w.heap.size + 1 + 1 ∨ k = g) WB W ∧ W.heap[g]? = some (.cells ((cur.setIfInBounds (o + 7) (.bool false)).setIfInBounds (o + 8) (.pointer none)) 66 (0, 0)))
    (fun W W' hW hx => hW.andThen hx (fun k hk e => by rcases e with e | e; exact e; omega))
    ?_
    (fun u => u ≠ m.child.block) (fun u => u = m.child.block) (¬ Up h m.child.under m.child.block) (Up h m.child.under m.child.block)
    (fun l I X W hl0 hB hI hY hW => up1_in 3 (by omega) l (w.heap.size + 1 + 1) (w.heap.size + 1) t mh hl h hag m.child.block I X hI hY ⟨by omega, by omega, by omega, by omega, by omega, fun e => htne e.symm, fun e => hmne e.symm⟩ W m.child.under k0 hk0 (keepB hB eb0) (keepB hB eb1) ?_ ?_ (keepB hB ebt) (keepB hB ec) (eh.below hB) hW)
    (Ext.refl _ _) ?_ ?_ ?_
  · rintro c W W' ⟨rfl, hx, hgw⟩ hx'
    exact ⟨rfl, hx.andThen hx' (fun k hk e => by omega), (hx'.block g (Array.getElem?_eq_some_iff.1 hgw).1 (by omega)).trans hgw⟩
  · exact ((Ext.of_below (S := fun _ => False) hB).frozen (p := ⟨w.heap.size + 1 + 1, 0, none⟩) (by simp; omega) id).trans ef0
  · exact ((Ext.of_below (S := fun _ => False) hB).frozen (p := ⟨w.heap.size + 1 + 1, 1, none⟩) (by simp; omega) id).trans ef1
  · intro l x W hJ hlt
    gi_wp2
    refine ⟨(Ext.refl _ _).alloc _, hJ.alloc _, fun W2 hJ2 hx2 => ?_⟩
    have b0 : W2.cell? ⟨W.heap.size, 0, none⟩ = some (.int .i64 x.n) := hx2.keep (by go_simp) (by omega)
    have b1 : W2.cell? ⟨W.heap.size, 1, none⟩ = some (.int .i64 x.r) := hx2.keep (by go_simp) (by omega)
    have z2 := hJ2.keep e2 (by omega)
    have z3 := hJ2.keep e3 (by omega)
    have zbx := hJ2.keep ebx (by omega)
    have zg := (hJ2.block g (by omega) (by omega)).trans eg
    have HJ2 := Lib.hid hJ2
    have hgW : g < WB.heap.size := by omega
    have HZG := Lib.hid zg
    have z7 : W2.frozen? ⟨g, o + 7, none⟩ = false := by simp [World.frozen?, zg]
    have z7c := hJ2.keep e7 (by omega)
    clear hx2 hJ2 zg
    by_cases hxb : x = m.child.block
    · have a1 : x.n = m.child.block.n := by rw [hxb]
      have a2 : x.r = m.child.block.r := by rw [hxb]
      rw [a1] at b0
      rw [a2] at b1
      gi_wp2
      gi_region
      all_goals gi_wp2
      all_goals
        refine ⟨hxb, ⟨rfl, ?_, ?_⟩, ?_⟩
        · have hx := HJ2.out
          have hx' : Ext (fun k => k = w.heap.size + 1 + 1 ∨ k = g) WB W2 := ⟨hx.os, hx.tape, hx.output, hx.size, fun k hk hn => hx.block k hk (fun e => hn (.inl e))⟩
          exact (hx'.setCell (p := ⟨g, o + 7, none⟩) (.inr (.inr rfl)) _).drew
        · have h1 := heap_setCell_same W2 g (o + 7) _ _ (.bool false) HZG.out
          refine h1.trans ?_
          rw [Array.setIfInBounds_comm _ _ (by omega), Array.setIfInBounds_setIfInBounds]
        · exact ((Ext.refl (fun k => k < WB.heap.size) W2).setCell (p := ⟨g, o + 7, none⟩) (.inr hgW) _).drew
    · by_cases a1 : x.n = m.child.block.n
      · have a2 : ¬ x.r = m.child.block.r := fun a2 => hxb (by cases x; simp_all)
        gi_wp2
        gi_region
        all_goals gi_wp2
        all_goals exact ⟨hxb, HJ2.out.drew, (Ext.refl _ _).drew⟩
      · gi_wp2
        gi_region
        all_goals gi_wp2
        all_goals exact ⟨hxb, HJ2.out.drew, (Ext.refl _ _).drew⟩
  · intro W hup hJ hK
    have z2 := hJ.keep e2 (by omega)
    have z3 := hJ.keep e3 (by omega)
    have z4 := hJ.keep e4 (by omega)
    have z5 := hJ.keep e5 (by omega)
    have z6 := hJ.keep e6 (by omega)
    have z7 := hJ.keep e7 (by omega)
    have zbx := hJ.keep ebx (by omega)
    have zc := hJ.keep ec (by omega)
    have zh := eh.ext hJ (by omega)
    have zg := (hJ.block g (by omega) (by omega)).trans eg
    have hWs := hJ.size
    have ho8 : o + 8 < cur.size := by
      have h8 := hm.c8
      simp only [World.cell?, hg] at h8
      exact (Array.getElem?_eq_some_iff.1 (by simpa using h8)).1
    have z8 : W.cell? ⟨g, o + 8, none⟩ = some (.pointer none) := by simp [World.cell?, zg, ho8]
    have y8 : W.frozen? ⟨g, o + 8, none⟩ = false := by simp [World.frozen?, zg]
    have htk := tookH_of_not hup
    have hupd : ∀ W, MapIs St.val Ch.val W mh hl → (Instr.mapUpdate 55 (.map (some mh)) (.agg #[.int .i64 m.child.block.n, .int .i64 m.child.block.r]) (.agg #[.int .i64 m.child.block.n, .int .i64 m.child.block.r, .int .i64 m.child.under.n, .int .i64 m.child.under.r, .string m.child.key])).run Try.prog W = .ok () (mapPut W mh (aidx hl m.child.block) (.agg #[.int .i64 m.child.block.n, .int .i64 m.child.block.r]) (.agg #[.int .i64 m.child.block.n, .int .i64 m.child.block.r, .int .i64 m.child.under.n, .int .i64 m.child.under.r, .string m.child.key])) := fun W hW => hW.update key_stamp und_hang m.child.block _
    have HUPD := Lib.hid hupd
    clear e2 e3 e4 e5 e6 e7 ec eh eg ebt eb0 eb1 ef0 ef1 ebx hupd
    cases hu : h m.child.block with
    | none =>
      have hlk : ∀ W, MapIs St.val Ch.val W mh hl → (Instr.lookup 55 (.map (some mh)) (.agg #[.int .i64 m.child.block.n, .int .i64 m.child.block.r]) true).run Try.prog W = .ok (.tuple #[.agg #[.int .i64 0, .int .i64 0, .int .i64 0, .int .i64 0, .string ⟨#[]⟩], .bool false]) W := fun W hW => by
        have := hW.lookupOk key_stamp und_hang zero_child m.child.block
        rw [hag m.child.block, hu] at this
        exact this
      have HU := Lib.hid hu
      have hbA : Below W.heap.size W (W.alloc (.cells #[.int .i64 0, .int .i64 0, .int .i64 0, .int .i64 0, .string ⟨#[]⟩] 36)).drew := ((Below.refl _ _).alloc (Nat.le_refl _) _).drew
      have a2 := keepB hbA z2
      have a3 := keepB hbA z3
      have a4 := keepB hbA z4
      have a5 := keepB hbA z5
      have a6 := keepB hbA z6
      have a7 := keepB hbA z7
      have abx := keepB hbA zbx
      have ac := keepB hbA zc
      have a8 := keepB hbA z8
      have f8 : (W.alloc (.cells #[.int .i64 0, .int .i64 0, .int .i64 0, .int .i64 0, .string ⟨#[]⟩] 36)).drew.frozen? ⟨g, o + 8, none⟩ = false := (hbA.frozen (p := ⟨g, o + 8, none⟩) (Array.getElem?_eq_some_iff.1 zg).1).trans y8
      have ah := zh.below hbA
      have ag := (hbA.block g (Array.getElem?_eq_some_iff.1 zg).1).trans zg
      have aK := (hbA.block _ (Array.getElem?_eq_some_iff.1 hK).1).trans hK
      have aJ : Ext (fun k => k = w.heap.size + 1 + 1) WB (W.alloc (.cells #[.int .i64 0, .int .i64 0, .int .i64 0, .int .i64 0, .string ⟨#[]⟩] 36)).drew := hJ.then_below hbA
      have aB : BoxC (W.alloc (.cells #[.int .i64 0, .int .i64 0, .int .i64 0, .int .i64 0, .string ⟨#[]⟩] 36)).drew W.heap.size ⟨⟨0, 0⟩, ⟨0, 0⟩, ⟨#[]⟩⟩ := World.alloc_heap_new W _
      have HAG := Lib.hid ag
      have HAK := Lib.hid aK
      have HAJ := Lib.hid aJ
      have HAB := Lib.hid aB
      clear hu ag aK aJ aB hbA
      gi_wp2
      refine wpIn_wide.2 ?_
      go_region_held3 (fun W => W.cell? ⟨t, 1, none⟩ = some (.map (some mh)) ∧ W.cell? ⟨w.heap.size, 0, none⟩ = some (.pointer (some ⟨g, o, none⟩)) ∧ W.cell? ⟨g, o + 2, none⟩ = some (.int .i64 m.child.block.n) ∧ W.cell? ⟨g, o + 3, none⟩ = some (.int .i64 m.child.block.r) ∧ MapIs St.val Ch.val W mh hl) (first | exact ⟨zc, zbx, z2, z3, zh.drew⟩ | exact ⟨cell_alloc zc _, cell_alloc zbx _, cell_alloc z2 _, cell_alloc z3 _, (zh.alloc _).drew⟩) (fail)
      all_goals
        clear z2 z3 z4 z5 z6 z7 z8 y8 zbx zc zh zg hlk hJ hK
        generalize hWA : (W.alloc (.cells #[.int .i64 0, .int .i64 0, .int .i64 0, .int .i64 0, .string ⟨#[]⟩] 36)).drew = WA at *
        gi_wp2
        have hupd := HUPD.out
        have HWA := Lib.hid hWA
        clear hWA
        refine wpIn_wide.2 ?_
        go_region_held3 (fun W => W.cell? ⟨t, 1, none⟩ = some (.map (some mh)) ∧ W.cell? ⟨w.heap.size, 0, none⟩ = some (.pointer (some ⟨g, o, none⟩)) ∧ W.cell? ⟨g, o + 2, none⟩ = some (.int .i64 m.child.block.n) ∧ W.cell? ⟨g, o + 3, none⟩ = some (.int .i64 m.child.block.r) ∧ W.cell? ⟨g, o + 4, none⟩ = some (.int .i64 m.child.under.n) ∧ W.cell? ⟨g, o + 5, none⟩ = some (.int .i64 m.child.under.r) ∧ W.cell? ⟨g, o + 6, none⟩ = some (.string m.child.key)) (first | exact ⟨ac, abx, a2, a3, a4, a5, a6⟩ | exact ⟨(mapPut_cell _ _ _ _ _ _).trans ac, (mapPut_cell _ _ _ _ _ _).trans abx, (mapPut_cell _ _ _ _ _ _).trans a2, (mapPut_cell _ _ _ _ _ _).trans a3, (mapPut_cell _ _ _ _ _ _).trans a4, (mapPut_cell _ _ _ _ _ _).trans a5, (mapPut_cell _ _ _ _ _ _).trans a6⟩) (fail)
        gi_wp2
        obtain ⟨t1, t2, t3, t4, t5, t6⟩ := do_tail (wb := none) hag hup ah HAG.out HAK.out (hxB.andThen HAJ.out (fun k hk e => by omega)) (N := WB.heap.size) (by omega) hgl hmg (by rw [HU.out]; rfl) _ rfl
        rw [esz] at t1 t2 t4 t5 t6
        refine ⟨by simp, .inl ⟨_, _, rfl, run_takeDeferred t1, ?_⟩⟩
        exact ⟨_, results_none rfl _ _ _, ⟨_, rfl⟩, _, _, t2, t3, by rw [htk]; exact t4, fun _ => t5, t6⟩
    | some c =>
      have hlk : ∀ W, MapIs St.val Ch.val W mh hl → (Instr.lookup 55 (.map (some mh)) (.agg #[.int .i64 m.child.block.n, .int .i64 m.child.block.r]) true).run Try.prog W = .ok (.tuple #[.agg #[.int .i64 c.block.n, .int .i64 c.block.r, .int .i64 c.under.n, .int .i64 c.under.r, .string c.key], .bool true]) W := fun W hW => by
        have := hW.lookupOk key_stamp und_hang zero_child m.child.block
        rw [hag m.child.block, hu] at this
        exact this
      have HU := Lib.hid hu
      have hbA : Below W.heap.size W (W.alloc (.cells #[.int .i64 c.block.n, .int .i64 c.block.r, .int .i64 c.under.n, .int .i64 c.under.r, .string c.key] 36)).drew := ((Below.refl _ _).alloc (Nat.le_refl _) _).drew
      have a2 := keepB hbA z2
      have a3 := keepB hbA z3
      have a4 := keepB hbA z4
      have a5 := keepB hbA z5
      have a6 := keepB hbA z6
      have a7 := keepB hbA z7
      have abx := keepB hbA zbx
      have ac := keepB hbA zc
      have a8 := keepB hbA z8
      have f8 : (W.alloc (.cells #[.int .i64 c.block.n, .int .i64 c.block.r, .int .i64 c.under.n, .int .i64 c.under.r, .string c.key] 36)).drew.frozen? ⟨g, o + 8, none⟩ = false := (hbA.frozen (p := ⟨g, o + 8, none⟩) (Array.getElem?_eq_some_iff.1 zg).1).trans y8
      have ah := zh.below hbA
      have ag := (hbA.block g (Array.getElem?_eq_some_iff.1 zg).1).trans zg
      have aK := (hbA.block _ (Array.getElem?_eq_some_iff.1 hK).1).trans hK
      have aJ : Ext (fun k => k = w.heap.size + 1 + 1) WB (W.alloc (.cells #[.int .i64 c.block.n, .int .i64 c.block.r, .int .i64 c.under.n, .int .i64 c.under.r, .string c.key] 36)).drew := hJ.then_below hbA
      have aB : BoxC (W.alloc (.cells #[.int .i64 c.block.n, .int .i64 c.block.r, .int .i64 c.under.n, .int .i64 c.under.r, .string c.key] 36)).drew W.heap.size c := World.alloc_heap_new W _
      have HAG := Lib.hid ag
      have HAK := Lib.hid aK
      have HAJ := Lib.hid aJ
      have HAB := Lib.hid aB
      clear hu ag aK aJ aB hbA
      gi_wp2
      refine wpIn_wide.2 ?_
      go_region_held3 (fun W => W.cell? ⟨t, 1, none⟩ = some (.map (some mh)) ∧ W.cell? ⟨w.heap.size, 0, none⟩ = some (.pointer (some ⟨g, o, none⟩)) ∧ W.cell? ⟨g, o + 2, none⟩ = some (.int .i64 m.child.block.n) ∧ W.cell? ⟨g, o + 3, none⟩ = some (.int .i64 m.child.block.r) ∧ MapIs St.val Ch.val W mh hl) (first | exact ⟨zc, zbx, z2, z3, zh.drew⟩ | exact ⟨cell_alloc zc _, cell_alloc zbx _, cell_alloc z2 _, cell_alloc z3 _, (zh.alloc _).drew⟩) (fail)
      all_goals
        clear z2 z3 z4 z5 z6 z7 z8 y8 zbx zc zh zg hlk hJ hK
        generalize hWA : (W.alloc (.cells #[.int .i64 c.block.n, .int .i64 c.block.r, .int .i64 c.under.n, .int .i64 c.under.r, .string c.key] 36)).drew = WA at *
        gi_wp2
        have hxs : Ext (· = g) WA (WA.setCell ⟨g, o + 8, none⟩ (.pointer (some ⟨W.heap.size, 0, none⟩))) := (Ext.refl (· = g) WA).setCell (p := ⟨g, o + 8, none⟩) (.inr rfl) _
        have b2 := (World.cell?_setCell_other WA ⟨g, o + 8, none⟩ ⟨g, o + 2, none⟩ (.pointer (some ⟨W.heap.size, 0, none⟩)) (by simp)).trans a2
        have b3 := (World.cell?_setCell_other WA ⟨g, o + 8, none⟩ ⟨g, o + 3, none⟩ (.pointer (some ⟨W.heap.size, 0, none⟩)) (by simp)).trans a3
        have b4 := (World.cell?_setCell_other WA ⟨g, o + 8, none⟩ ⟨g, o + 4, none⟩ (.pointer (some ⟨W.heap.size, 0, none⟩)) (by simp)).trans a4
        have b5 := (World.cell?_setCell_other WA ⟨g, o + 8, none⟩ ⟨g, o + 5, none⟩ (.pointer (some ⟨W.heap.size, 0, none⟩)) (by simp)).trans a5
        have b6 := (World.cell?_setCell_other WA ⟨g, o + 8, none⟩ ⟨g, o + 6, none⟩ (.pointer (some ⟨W.heap.size, 0, none⟩)) (by simp)).trans a6
        have b7 := (World.cell?_setCell_other WA ⟨g, o + 8, none⟩ ⟨g, o + 7, none⟩ (.pointer (some ⟨W.heap.size, 0, none⟩)) (by simp)).trans a7
        have bbx := hxs.keep abx (by omega)
        have bc := hxs.keep ac htg
        have bh := ah.setCell ⟨g, o + 8, none⟩ (.pointer (some ⟨W.heap.size, 0, none⟩))
        have bg := heap_setCell_same WA g (o + 8) _ _ (.pointer (some ⟨W.heap.size, 0, none⟩)) HAG.out
        rw [Array.setIfInBounds_setIfInBounds] at bg
        have bK := (hxs.block WB.heap.size (Array.getElem?_eq_some_iff.1 HAK.out).1 (by omega)).trans HAK.out
        have bB : BoxC (WA.setCell ⟨g, o + 8, none⟩ (.pointer (some ⟨W.heap.size, 0, none⟩))) W.heap.size c := (hxs.block W.heap.size (Array.getElem?_eq_some_iff.1 (show WA.heap[W.heap.size]? = _ from HAB.out)).1 (by omega)).trans HAB.out
        have bx := (hxB.andThen HAJ.out (fun k hk e => by omega)).trans hxs
        have HBG := Lib.hid bg
        have HBK := Lib.hid bK
        have HBB := Lib.hid bB
        have HBX := Lib.hid bx
        have HWA := Lib.hid hWA
        clear hWA hxs bg bK bB bx a2 a3 a4 a5 a6 a7 a8 f8 abx ac ah HAG HAK HAB HAJ
        generalize WA.setCell ⟨g, o + 8, none⟩ (.pointer (some ⟨W.heap.size, 0, none⟩)) = WC at *
        have hupd := HUPD.out
        refine wpIn_wide.2 ?_
        go_region_held3 (fun W => W.cell? ⟨t, 1, none⟩ = some (.map (some mh)) ∧ W.cell? ⟨w.heap.size, 0, none⟩ = some (.pointer (some ⟨g, o, none⟩)) ∧ W.cell? ⟨g, o + 2, none⟩ = some (.int .i64 m.child.block.n) ∧ W.cell? ⟨g, o + 3, none⟩ = some (.int .i64 m.child.block.r) ∧ W.cell? ⟨g, o + 4, none⟩ = some (.int .i64 m.child.under.n) ∧ W.cell? ⟨g, o + 5, none⟩ = some (.int .i64 m.child.under.r) ∧ W.cell? ⟨g, o + 6, none⟩ = some (.string m.child.key)) (first | exact ⟨bc, bbx, b2, b3, b4, b5, b6⟩ | exact ⟨(mapPut_cell _ _ _ _ _ _).trans bc, (mapPut_cell _ _ _ _ _ _).trans bbx, (mapPut_cell _ _ _ _ _ _).trans b2, (mapPut_cell _ _ _ _ _ _).trans b3, (mapPut_cell _ _ _ _ _ _).trans b4, (mapPut_cell _ _ _ _ _ _).trans b5, (mapPut_cell _ _ _ _ _ _).trans b6⟩) (fail)
        gi_wp2
        obtain ⟨t1, t2, t3, t4, t5, t6⟩ := do_tail (wb := some W.heap.size) hag hup bh HBG.out HBK.out HBX.out (N := WB.heap.size) (by omega) hgl hmg (by rw [HU.out]; exact ⟨_, rfl, by omega, HBB.out⟩) _ rfl
        rw [esz] at t1 t2 t4 t5 t6
        refine ⟨by simp, .inl ⟨_, _, rfl, run_takeDeferred t1, ?_⟩⟩
        exact ⟨_, results_none rfl _ _ _, ⟨_, rfl⟩, _, _, t2, t3, by rw [htk]; exact t4, fun _ => t5, t6⟩
  · rintro c W hup ⟨rfl, hx, hgw⟩ hK
    gi_wp2
    refine ⟨by simp, .inl ⟨_, _, rfl, run_takeDeferred hK, ?_⟩⟩
    have hxp := ext_putObj W WB.heap.size (.deferred none)
    have htk := tookH_of hup
    have hxa : Ext (fun k => (k = w.heap.size + 1 + 1 ∨ k = g) ∨ WB.heap.size ≤ k) WB (W.putObj WB.heap.size (.deferred none)) := by
      refine Ext.andThen (S := fun k => (k = w.heap.size + 1 + 1 ∨ k = g) ∨ WB.heap.size ≤ k) ⟨hx.os, hx.tape, hx.output, hx.size, fun k hk hn => hx.block k hk (fun e => hn (.inl e))⟩ hxp (fun k hk e => .inr (by omega))
    refine ⟨_, results_none rfl _ _ _, ⟨_, rfl⟩, none, hl, eh.ext hxa (by omega), by rw [stepH_not htk]; exact hag, ?_, fun e => (by rw [htk] at e; cases e), ?_⟩
    · rw [htk]
      exact (hxp.block g (Array.getElem?_eq_some_iff.1 hgw).1 (by omega)).trans hgw
    · refine Ext.andThen (S := fun k => k = g ∨ k = mh) ⟨hxB.os, hxB.tape, hxB.output, hxB.size, fun k hk hn => hxB.block k hk (fun e => hn (.inl e))⟩ hxa (fun k hk e => ?_)
      rcases e with (e | e) | e
      · omega
      · exact .inl e
      · omega

end Go.Proofs.Ytilonmpcifohiaa
