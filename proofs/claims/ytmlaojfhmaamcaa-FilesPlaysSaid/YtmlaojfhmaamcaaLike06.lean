/- Contract of stemmalaw06.alike: alike disks tell the same. -/
import Derived.Test.YtmlaojfhmaamcaaRefS06
import Derived.Test.YtmlaojfhmaamcaaSimD06
import Derived.Test.YtmlaojfhmaamcaaAlive06
namespace Go.Proofs.Ytmlaojfhmaamcaa
open Go.RowKit Go.Deep
set_option linter.unusedSimpArgs false
set_option linter.unusedVariables false

set_option maxRecDepth 100000 in
set_option maxHeartbeats 4000000 in
theorem alike_any {base base2 : Nat} {w : World} {D : DSh} {A : DiskA} {rb : Nat} {v : Value} {R : RefA} {F : List Nat} {pre : List StepA} {J : List (StepA × Option Chg)} (hd : DiskIs base w D A) (hr : RefIs base2 w rb v R) (hsim : Sim F A R pre J)
    {N : Nat} (hs : R.Small N) (hsa : A.Small N) (hN : N ≤ 100000) (hhl : ∀ f, (heldR R.L f).length ≤ 1048576) :
    Calls Try.prog 19 #[.pointer (some ⟨D.pb, 0, none⟩), .pointer (some ⟨rb, 0, none⟩)] w fun e w' => e = .returned (.bool true) ∧ Below w.heap.size w w' := by
  obtain ⟨t1, t2, t3⟩ := hsim.tells
  have hfl : A.files.length ≤ 100000 := by have := hsa.fil; omega
  have hnm := names_any hd (by omega)
  have hlen : (namesA A).length = A.files.length := namesA_len A
  have hmem : ∀ n ∈ namesA A, ∃ f, aget A.files n = some f := fun n hn => by
    have := (namesA_perm A).subset hn
    cases h : aget A.files n with
    | some f => exact ⟨f, rfl⟩
    | none => exact absurd this ((aget_none_iff A.files n).1 h)
  have hb0 : 0 ≤ R.bse := by rw [hsim.bse]; omega
  have hb1 : R.bse ≤ R.L.length := by rw [hsim.bse, hsim.L, List.length_append]; push_cast; omega
  obtain ⟨names, hnames⟩ : ∃ names, namesA A = names := ⟨_, rfl⟩
  rw [hnames] at hnm hlen hmem t2
  have hnl : names.length ≤ 100000 := by omega
  have HNM := Lib.hid hnm
  have HMEM := Lib.hid hmem
  have HT1 := Lib.hid t1
  have HT2 := Lib.hid t2
  have HT3 := Lib.hid t3
  have HD := Lib.hid hd
  have HR := Lib.hid hr
  have HHL := Lib.hid hhl
  have HS := Lib.hid hs
  have HSA := Lib.hid hsa
  have HB0 := Lib.hid (And.intro hb0 hb1)
  clear hnm hmem t1 t2 t3 hd hr hhl hs hsa hb0 hb1 hsim hlen hnames hfl
  go_enter Try.func19, Try.ntmps19
  go_wp2_with fail
  refine HNM.out.mono ?_
  rintro e w1 ⟨v1, rfl, hown1, b1⟩
  obtain ⟨a1, c1, e1, hc1, hm1, _⟩ := hown1.slice strc_len
  subst e1
  unfold maxLen at hm1
  have HO1 := Lib.hid hown1
  have HB1 := Lib.hid b1
  have HNM2 := Lib.hid (rnames_any (HR.out.below b1) HS.out hN)
  rw [← HT2.out] at HNM2
  clear hown1 b1
  go_wp2_with fail
  refine HNM2.out.mono ?_
  rintro e w2 ⟨v2, rfl, hown2, b2⟩
  obtain ⟨a2, c2, e2, hc2, hm2, _⟩ := hown2.slice strc_len
  subst e2
  unfold maxLen at hm2
  have HO2 := Lib.hid hown2
  have HB2 := Lib.hid b2
  have HB12 := Lib.hid (HB1.out.trans (b2.mono HB1.out.size))
  clear hown2 b2 HNM2
  have HCH := Lib.hid (changes_any (HD.out.below HB12.out))
  have HRC := Lib.hid (rchanges_any (HR.out.below HB12.out) HS.out hN HB0.out.1 HB0.out.2)
  rw [HT1.out] at HCH
  obtain ⟨cc, hcc⟩ : ∃ cc, (R.L.length : Int) - R.bse = cc := ⟨_, rfl⟩
  rw [hcc] at HCH HRC
  clear hcc
  go_wp2_with fail
  refine HCH.out.mono ?_
  rintro e w3 ⟨rfl, e3⟩
  have e3' := e3.symm
  subst e3'
  go_wp2_with fail
  refine HRC.out.mono ?_
  rintro e w3 ⟨rfl, b3⟩
  have HB3 := Lib.hid b3
  have HB123 := Lib.hid (HB12.out.trans (b3.mono HB12.out.size))
  clear b3
  go_wp2_with fail
  go_loopg [7] names.length (fun g iv wr => ∃ (k : Nat), g = names.length - k ∧ k ≤ names.length ∧ iv = .int .i64 k ∧ Hid (Below w3.heap.size w3 wr))
  case atStart => exact ⟨0, by omega, by omega, rfl, Lib.hid (Below.refl _ _)⟩
  case round =>
    obtain ⟨k, hg, hk, rfl, hU⟩ := hrel
    have HG := Lib.hid hg
    clear hg
    by_cases hkl : k < names.length
    · obtain ⟨n, hn⟩ : ∃ n, names[k]? = some n := ⟨_, List.getElem?_eq_getElem hkl⟩
      obtain ⟨_, _, e1, _, _, hh⟩ := HO1.out.slice strc_len
      cases e1
      obtain ⟨b, o, e2, hcc⟩ := hh (by intro e; rw [e] at hn; simp at hn)
      subst e2
      obtain ⟨_, _, e3, _, _, hh3⟩ := HO2.out.slice strc_len
      cases e3
      obtain ⟨b3, o3, e4, hcc3⟩ := hh3 (by intro e; rw [e] at hn; simp at hn)
      subst e4
      have n0 := keepB hU.out (keepB HB3.out (keepB HB2.out (hcc k n hn 0 _ rfl)))
      have m0 := keepB hU.out (keepB HB3.out (hcc3 k n hn 0 _ rfl))
      simp only [Nat.add_zero, Nat.mul_one] at n0 m0
      have hkk : (k : Int) < (names.length : Int) := by omega
      obtain ⟨f, hf⟩ := HMEM.out n (List.mem_of_getElem? hn)
      obtain ⟨hfn, hby, hpd⟩ := HT3.out n f hf
      have hDr := (HD.out.below HB123.out).below hU.out
      have hRr := (HR.out.below HB123.out).below hU.out
      have HR1 := Lib.hid (read_any hDr n HSA.out (by omega))
      have HF2 := Lib.hid hf
      have HBY := Lib.hid hby
      have HPD := Lib.hid (show pendA A n = (pendR R.L (findR (nowR R.L) n) : Int) by unfold pendA; rw [hf]; simp [hpd])
      have HFN := Lib.hid hfn
      have HDr := Lib.hid hDr
      have HRr := Lib.hid hRr
      have htr : True := trivial
      clear hn hh hh3 hcc hcc3 hf hby hpd hfn hDr hRr
      go_wp2_with fail
      refine HR1.out.mono ?_
      intro e w12 hq
      obtain ⟨v12, rfl, ho12, b12⟩ : ∃ v12, e = .returned (.tuple #[v12, .int .i64 0]) ∧ Own u8c 1 5 wr.heap.size w12 v12 (bytesP (A.fs f)) ∧ Below wr.heap.size wr w12 := by
        rcases hq with ⟨h0, _⟩ | ⟨f', v7, h0, he, ho, hb⟩
        · rw [HF2.out] at h0; cases h0
        · rw [HF2.out] at h0; cases h0; exact ⟨v7, he, ho, hb⟩
      have HR2 := Lib.hid (rread_any (HRr.out.below b12) n HS.out hN HHL.out)
      have HO12 := Lib.hid ho12
      have HB12' := Lib.hid b12
      obtain ⟨⟨ta, tn, tc⟩, e12⟩ := ho12.sl
      change v12 = .slice ta tn tc at e12
      subst e12
      have n1 := keepB b12 n0
      have m1 := keepB b12 m0
      clear hq ho12 b12 n0 m0
      go_wp2_with fail
      refine HR2.out.mono ?_
      intro e w13 hq
      obtain ⟨v13, rfl, ho13, b13⟩ : ∃ v13, e = .returned (.tuple #[v13, .int .i64 0]) ∧ Own u8c 1 5 w12.heap.size w13 v13 (bytesP (A.fs f)) ∧ Below w12.heap.size w12 w13 := by
        obtain ⟨v13, he, ho, hb⟩ := hq
        rw [if_neg (by have := HFN.out; omega)] at he ho
        rw [HBY.out]
        exact ⟨v13, he, ho, hb⟩
      have hs1 := (HO12.out.slice u8c_len).below b13
      have hs2 := ho13.slice u8c_len
      obtain ⟨⟨ua, un, uc⟩, e13⟩ := ho13.sl
      change v13 = .slice ua un uc at e13
      subst e13
      have HSB := Lib.hid (sameB_any hs1 hs2)
      have n2 := keepB b13 n1
      have m2 := keepB b13 m1
      have hBt : Below wr.heap.size wr w13 := HB12'.out.trans (b13.mono HB12'.out.size)
      obtain ⟨pn, hpn⟩ : ∃ pn, pendR R.L (findR (nowR R.L) n) = pn := ⟨_, rfl⟩
      have hpd2 := pending_any (HDr.out.below hBt).drew n HSA.out (by omega)
      rw [HPD.out, hpn] at hpd2
      have HPD2 := Lib.hid hpd2
      have hpx2 := fun W (hW : Below w13.heap.size w13 W) => rpending_any ((HRr.out.below hBt).below hW) n HS.out hN HFN.out
      rw [hpn] at hpx2
      have HPX2 := Lib.hid hpx2
      have HBT := Lib.hid (hU.out.trans (hBt.mono hU.out.size))
      clear hq ho13 b13 hs1 hs2 n1 m1 hBt hpx2 hpd2 hU hpn
      go_wp2_with fail
      refine HSB.out.mono ?_
      rintro e w14 ⟨rfl, e14⟩
      have e14' := e14.symm
      subst e14'
      go_upto_region 11 with fail
      go_region_held3 (fun W => W.cell? ⟨b, o + k, none⟩ = some (.string n) ∧ W.cell? ⟨b3, o3 + k, none⟩ = some (.string n)) (first | exact ⟨n2, m2⟩ | exact ⟨keepB b15 n2, keepB b15 m2⟩ | exact ⟨keepB (b15.trans (b16.mono b15.size)) n2, keepB (b15.trans (b16.mono b15.size)) m2⟩) (first | (go_at_call 20; ((with_reducible refine HPD2.out.mono ?_); rintro e w15 ⟨rfl, b15⟩; simp only [heap_drew, below_drew] at b15)) | (go_at_call 44; ((with_reducible refine (HPX2.out _ b15).mono ?_); rintro e w16 ⟨rfl, b16⟩)))
      have HE := Lib.hid (HBT.out.trans ((b15.trans (b16.mono b15.size)).mono HBT.out.size))
      clear b15 b16
      go_wp2_with fail
      go_roundg (names.length - (k + 1))
      case measure => rw [HG.out]; omega
      case rel => exact ⟨k + 1, rfl, by omega, by simp, HE⟩
    · have hkk : ¬ (k : Int) < (names.length : Int) := by omega
      have HN := Lib.hid (HB123.out.trans (hU.out.mono HB123.out.size))
      clear hU
      go_wp2
      go_ret
      exact ⟨rfl, HN.out⟩

end Go.Proofs.Ytmlaojfhmaamcaa
