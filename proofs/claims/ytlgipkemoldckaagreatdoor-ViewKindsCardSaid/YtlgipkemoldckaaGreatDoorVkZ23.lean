/- ViewKinds, part 23 of what the proof leans on (made short by a program). -/
import Derived.Test.YtlgipkemoldckaaGreatDoorVkZ22
import Derived.LaidMore
import Derived.Lay
import Derived.Test.YtlgipkemoldckaaGreatDoorTie
import Derived.Test.YtlgipkemoldckaaGreatDoorCards
set_option linter.unusedSimpArgs false
set_option linter.unusedVariables false
set_option linter.unusedSectionVars false
set_option maxRecDepth 20000
set_option maxHeartbeats 30000000
namespace Go.Proofs.YtlgipkemoldckaaGreatDoor
open Go.RowKit
def ZD (x:Atr):Bool:=decide (x.name≠ZV∧x.value≠⟨#[]⟩)
theorem Z19 {l:List Atr} {k:Nat} {x:Atr} (h:l[k]?=some x):(l.take (k+1)).filter ZD=(l.take k).filter ZD++(if ZD x=true then [x] else []):=by
 rw[List.take_add_one,h,Option.toList_some,List.filter_append]
 congr 1
 by_cases hs:ZD x=true
 ·rw[if_pos hs];simp[hs]
 ·rw[if_neg hs];simp[hs]
theorem Z38 (l:List Atr) (k:Nat):((l.take k).filter ZD).length≤l.length:=by
 have h1:=List.length_filter_le ZD (l.take k)
 rw[List.length_take] at h1
 omega
noncomputable def S6 (vs:List (Pl × Wr)) (u:St):Option ByteArray:=(Z3 vs ⟨u,ZV⟩).map Wr.value
structure Sa (r:Nat) (vs:List (Pl × Wr)) (w:World):Prop where
 get:∀ W',Below w.heap.size w W'→∀ (u:St) (nm:ByteArray),Calls Tryz.prog 43 #[.pointer (some ⟨r,0,none⟩),.agg #[.int .i64 u.n,.int .i64 u.r],.string nm] W' fun e w'=>e=.returned (.tuple #[.string (Vi (Z3 vs ⟨u,nm⟩)),.bool (Z3 vs ⟨u,nm⟩).isSome])∧Below W'.heap.size W' w'
 all:∀ W',Below w.heap.size w W'→∀ u:St,Calls Tryz.prog 44 #[.pointer (some ⟨r,0,none⟩),.agg #[.int .i64 u.n,.int .i64 u.r]] W' fun e w'=>XQ W' (Xl vs u) e w'
theorem Sa.below {r:Nat} {vs:List (Pl × Wr)} {w w':World} (h:Sa r vs w) (hb:Below w.heap.size w w'):Sa r vs w':=⟨fun W hW=>h.get W (hb.trans (hW.mono hb.size)),fun W hW=>h.all W (hb.trans (hW.mono hb.size))⟩
def Z32 (r:Nat) (vs:List (Pl × Wr)) (n:Nd):Prop:=∀ (D:Nat→Prop) (x:NdV) (w:World),Zv D w x n→Sa r vs w→WT (S6 vs) (Xl vs) n →
 Calls Tryz.prog 26 #[x.val,.pointer (some ⟨r,0,none⟩)] w fun e w'=>e=.returned (.bool true)∧Below w.heap.size w w'
theorem Z08 (r:Nat) (vr:List (Pl × Wr)) (D:Nat→Prop) (xn xr:Int) (xk:ByteArray) (aa ta sa:Option Addr) (an ac tn tc sn sc:Nat) (az:List Atr) (vs:List NdV) (ks:List Nd) (w:World) (ha:Zx D Atr.cells 2 w (.slice aa an ac) az)
  (hs:Zx D NdV.cells 6 w (.slice sa sn sc) vs) (hn:Zc D w vs ks) (hw:Sa r vr w) (hk:(⟨xn,xr⟩:St)≠⟨0,0⟩→UO (S6 vr) (Xl vr) ⟨xn,xr⟩ xk az) (hkk:∀ m∈ks,WT (S6 vr) (Xl vr) m) (ih:∀ n∈ks,Z32 r vr n) :
  Calls Tryz.prog 26 #[.agg #[.int .i64 xn,.int .i64 xr,.string xk,.slice aa an ac,.slice ta tn tc,.slice sa sn sc],.pointer (some ⟨r,0,none⟩)] w fun e w'=>e=.returned (.bool true)∧Below w.heap.size w w':=by
 have hsn:sn=vs.length∧vs.length≤9223372036854775807:=by
  obtain ⟨⟨a,c,e,h1,h2,_⟩,_⟩:=hs
  injection e with _ e2 _
  unfold maxLen at h2
  exact ⟨e2,Nat.le_trans h1 h2⟩
 have hsnn:sn≤9223372036854775807:=by omega
 have hB0:Below w.heap.size w (w.alloc (.cells #[.int .i64 xn,.int .i64 xr,.string xk,.slice aa an ac,.slice ta tn tc,.slice sa sn sc] 28)):=(Below.refl _ _).alloc (Nat.le_refl _) _
 have x0:(w.alloc (.cells #[.int .i64 xn,.int .i64 xr,.string xk,.slice aa an ac,.slice ta tn tc,.slice sa sn sc] 28)).cell? ⟨w.heap.size,0,none⟩=some (.int .i64 xn):=by go_simp
 have x1:(w.alloc (.cells #[.int .i64 xn,.int .i64 xr,.string xk,.slice aa an ac,.slice ta tn tc,.slice sa sn sc] 28)).cell? ⟨w.heap.size,1,none⟩=some (.int .i64 xr):=by go_simp
 have x2:(w.alloc (.cells #[.int .i64 xn,.int .i64 xr,.string xk,.slice aa an ac,.slice ta tn tc,.slice sa sn sc] 28)).cell? ⟨w.heap.size,2,none⟩=some (.string xk):=by go_simp
 have x3:(w.alloc (.cells #[.int .i64 xn,.int .i64 xr,.string xk,.slice aa an ac,.slice ta tn tc,.slice sa sn sc] 28)).cell? ⟨w.heap.size,3,none⟩=some (.slice aa an ac):=by go_simp
 have x5:(w.alloc (.cells #[.int .i64 xn,.int .i64 xr,.string xk,.slice aa an ac,.slice ta tn tc,.slice sa sn sc] 28)).cell? ⟨w.heap.size,5,none⟩=some (.slice sa sn sc):=by go_simp
 have HZ1:=Lib.hid hsn
 have HB0:=Lib.hid hB0
 have HI:=Jh (And.intro hs (And.intro hn ha.1))
 have HW:=Lib.hid hw
 have HK:=Lib.hid hk
 have HKK:=Lib.hid hkk
 have HIH:=Lib.hid ih
 clear hsn hB0 hs hn ha hw hk hkk ih
 go_enter Tryz.func26,Tryz.ntmps26
 go_upto_region 1 with fail
 generalize (w.alloc (.cells #[.int .i64 xn,.int .i64 xr,.string xk,.slice aa an ac,.slice ta tn tc,.slice sa sn sc] 28))=w1 at *
 go_cut [16] from 13 to 16 (fun v wx=>v=.bool (!decide ((⟨xn,xr⟩:St)=⟨0,0⟩))∧wx=w1)
 case first =>
  by_cases e1:xn=0
  ·by_cases e2:xr=0
   ·subst e1
    subst e2
    go_wp2_with fail
    go_meet
    exact ⟨rfl,rfl⟩
   ·subst e1
    go_wp2_with fail
    go_meet
    exact ⟨by simp[e2],rfl⟩
  ·go_wp2_with fail
   go_meet
   exact ⟨by simp[e1],rfl⟩
 case rest =>
  obtain ⟨rfl,hwc⟩:=hcut
  subst wc
  obtain ⟨sb,hsb⟩:=Je ((!decide ((⟨xn,xr⟩:St)=⟨0,0⟩)))
  rw[hsb]
  have HSB:=Lib.hid hsb
  clear hsb
  go_upto_if 16 with fail
  go_cut [5,6,7,8,9,10] from 17 to 72 (fun _ _ _ _ _ _ wx=>Hid (Below w1.heap.size w1 wx))
  case first=>as_aux_lemma =>
   cases sb with
   | false =>
    go_wp2_with fail
    go_meet
    exact Jh (Below.refl _ _)
   | true =>
    have hne:(⟨xn,xr⟩:St)≠⟨0,0⟩:=by have:=HSB.out;rw[Bool.not_eq_true',decide_eq_false_iff_not] at this;exact this
    have HKO:=Jh (HK.out hne)
    clear hne
    have HG:=Jh (HW.out.get w1 HB0.out ⟨xn,xr⟩ ZV)
    unfold ZV at HG
    obtain ⟨gv,gb,hgv⟩:∃ (gv:ByteArray) (gb:Bool),Vi (Z3 vr ⟨⟨xn,xr⟩,⟨#[107,105,110,100]⟩⟩)=gv∧(Z3 vr ⟨⟨xn,xr⟩,⟨#[107,105,110,100]⟩⟩).isSome=gb∧(gb=true→gv≠⟨#[]⟩→xk=gv)∧((gb=false∨gv=⟨#[]⟩)→xk=Zs):=by
     have hk1:=HKO.out.1
     unfold S6 ZV at hk1
     cases ha:Z3 vr ⟨⟨xn,xr⟩,⟨#[107,105,110,100]⟩⟩ with
     | none=>rw[ha] at hk1;exact ⟨_,_,rfl,rfl,(fun h=>by cases h),(fun _=>hk1)⟩
     | some y =>
      rw[ha] at hk1
      simp only[Option.map_some] at hk1
      refine ⟨_,_,rfl,rfl,fun _ h=>?_,fun h=>?_⟩
      ·have h9:¬ y.value=⟨#[]⟩:=h
       rwa [if_neg h9] at hk1
      ·rcases h with h|h
       ·cases h
       ·have h9:y.value=⟨#[]⟩:=h
        rwa [if_pos h9] at hk1
    rw[hgv.1,hgv.2.1] at HG
    have HGV:=Lib.hid hgv
    clear hgv
    go_wp2_with fail
    refine HG.out.mono ?_
    rintro e w2 ⟨rfl,b2⟩
    replace x0:=Z0 b2 x0
    replace x1:=Z0 b2 x1
    replace x2:=Z0 b2 x2
    replace x3:=Z0 b2 x3
    have HB2:=Jh (HB0.out.trans (b2.mono HB0.out.size))
    have HC2:=Lib.hid b2
    clear b2 HG
    go_upto_region 3 with fail
    go_cut [29] from 24 to 29 (fun v wx=>v=.bool (!gb || decide (gv=⟨#[]⟩))∧wx=w2)
    case first =>
     cases gb with
     | false=>go_wp2_with fail;go_meet;exact ⟨rfl,rfl⟩
     | true =>
      by_cases hg:gv=⟨#[]⟩
      ·subst hg
       go_wp2_with fail
       go_meet
       exact ⟨rfl,rfl⟩
      ·have hg2:(gv.toList == [])=false:=by
        cases h:(gv.toList == []) with
        | false=>rfl
        | true=>exact absurd ((ZO gv ⟨#[]⟩).1 (by simpa using eq_of_beq h)) hg
       go_wp2_with fail
       go_meet
       exact ⟨by simp[hg],rfl⟩
    case rest =>
     obtain ⟨rfl,hwc⟩:=hcut
     subst wc
     obtain ⟨gz,hgz⟩:=Je ((!gb || decide (gv=⟨#[]⟩)))
     rw[hgz]
     have HGZ:=Lib.hid hgz
     clear hgz
     go_upto_if 29 with fail
     go_cut [5] from 30 to 30 (fun v wx=>v=.string xk∧wx=w2)
     case first =>
      cases gz with
      | false =>
       have hxk:xk=gv:=HGV.out.2.2.1 (by have:=HGZ.out;cases gb;simp at this;rfl) (by have:=HGZ.out;cases gb;simp at this;simpa using this)
       have HXK:=Lib.hid hxk
       clear hxk
       go_wp2_with fail
       go_meet
       exact ⟨by rw[HXK.out],rfl⟩
      | true =>
       have hxk:xk=Zs:=HGV.out.2.2.2 (by have:=HGZ.out;cases gb;exact .inl rfl;right;simpa using this)
       have HXK:=Lib.hid hxk
       clear hxk
       go_wp2_with fail
       go_meet
       exact ⟨by rw[HXK.out];rfl,rfl⟩
     case rest =>
      obtain ⟨rfl,hwc⟩:=hcut
      subst wc
      clear HGZ HGV
      have HALL:=Jh (HW.out.all w2 HB2.out ⟨xn,xr⟩)
      go_wp2_with fail
      refine HALL.out.mono ?_
      rintro e w3 ⟨v3,rfl,ho3,hl3,b3⟩
      obtain ⟨a3,c3,rfl,-,-,-⟩:=ho3.slice (fun _=>rfl)
      replace x2:=Z0 b3 x2
      replace x3:=Z0 b3 x3
      have HA3:=Jh (ho3.slice (fun _=>rfl))
      have HB3:=Jh (HB2.out.trans (b3.mono HB2.out.size))
      have HC3:=Jh (HC2.out.trans (b3.mono HC2.out.size))
      have hzz:az=(Xl vr ⟨xn,xr⟩).filter ZD:=HKO.out.2
      have HZZ:=Lib.hid hzz
      generalize Xl vr ⟨xn,xr⟩=R at *
      clear ho3 b3 HALL HK HKO hzz
      obtain ⟨i0,hi,hz0,hz1q,hz2q⟩:=info_parts W5
      go_wp2_with fail
      go_loopg [7,9] R.length (fun g v iv wr=>∃ (k:Nat) (a4:Option Addr) (c4:Nat),g=R.length - k∧k≤R.length∧iv=.int .i64 k∧v=.slice a4 ((R.take k).filter ZD).length c4∧Hid (Own Atr.cells 2 73 w3.heap.size wr (.slice a4 ((R.take k).filter ZD).length c4) ((R.take k).filter ZD))∧Hid (Below w3.heap.size w3 wr))
      case atStart=>exact ⟨0,none,0,by omega,Nat.zero_le _,rfl,rfl,Lib.hid Own.nil,Jh (Below.refl _ _)⟩
      case round =>
       obtain ⟨k,a4,c4,hg,hk,rfl,rfl,HO,HB⟩:=hrel
       have HG:=Lib.hid hg
       clear hg
       have hfl:=Z38 R k
       by_cases hkl:k<R.length
       ·obtain ⟨⟨nm,vl⟩,hx⟩:∃ x,R[k]?=some x:=⟨_,List.getElem?_eq_getElem hkl⟩
        obtain ⟨b,o,rfl,u0,u1⟩:=(show Zx (fun _=>True) Atr.cells 2 wr (.slice a3 R.length c3) R from ⟨HA3.out.below HB.out,fun _ _ _ _ _ _=>trivial⟩).atr2 hx
        simp only at u0 u1
        have hft:=Z19 hx
        have HFT:=Lib.hid hft
        have hkk:(k:Int)<(R.length:Int):=by omega
        clear hx hft
        have HLL:Hid (((R.take k).filter ZD).length≤R.length):=Lib.hid hfl
        clear hfl
        by_cases h1:nm=⟨#[107,105,110,100]⟩
        ·subst h1
         have hfe:(R.take (k+1)).filter ZD=(R.take k).filter ZD:=by rw[HFT.out,if_neg (by simp[ZD,ZV]),List.append_nil]
         have HFE:=Lib.hid hfe
         clear hfe
         have HOE:Hid (Own Atr.cells 2 73 w3.heap.size wr (.slice a4 ((R.take (k+1)).filter ZD).length c4) ((R.take (k+1)).filter ZD)):=Jh (by rw[HFE.out];exact HO.out)
         have HLE2:Hid (((R.take (k+1)).filter ZD).length=((R.take k).filter ZD).length):=Jh (by rw[HFE.out])
         generalize ((R.take k).filter ZD).length=ln at *
         go_wp2_with fail
         go_roundg (R.length - (k+1))
         case measure=>rw[HG.out];omega
         case rel=>exact ⟨k+1,a4,c4,rfl,hkl,by go_num,by rw[HLE2.out],HOE,HB⟩
        ·have h1b:(nm.toList == [107,105,110,100])=false:=by
          cases h:(nm.toList == [107,105,110,100]) with
          | false=>rfl
          | true=>exact absurd ((ZO nm ZV).1 (by simpa [ZV] using eq_of_beq h)) h1
         by_cases h2:vl=⟨#[]⟩
         ·subst h2
          have HH1:=Lib.hid h1
          clear h1
          have hfe:(R.take (k+1)).filter ZD=(R.take k).filter ZD:=by rw[HFT.out,if_neg (by simp[ZD]),List.append_nil]
          have HFE:=Lib.hid hfe
          clear hfe
          have HOE:Hid (Own Atr.cells 2 73 w3.heap.size wr (.slice a4 ((R.take (k+1)).filter ZD).length c4) ((R.take (k+1)).filter ZD)):=Jh (by rw[HFE.out];exact HO.out)
          have HLE2:Hid (((R.take (k+1)).filter ZD).length=((R.take k).filter ZD).length):=Jh (by rw[HFE.out])
          generalize ((R.take k).filter ZD).length=ln at *
          go_wp2_with fail
          go_roundg (R.length - (k+1))
          case measure=>rw[HG.out];omega
          case rel=>exact ⟨k+1,a4,c4,rfl,hkl,by go_num,by rw[HLE2.out],HOE,HB⟩
         ·have h2b:(vl.toList == [])=false:=by
           cases h:(vl.toList == []) with
           | false=>rfl
           | true=>exact absurd ((ZO vl ⟨#[]⟩).1 (by simpa using eq_of_beq h)) h2
          have hfe:(R.take (k+1)).filter ZD=(R.take k).filter ZD++[⟨nm,vl⟩]:=by rw[HFT.out,if_pos (by simp only[ZD,decide_eq_true_eq];exact ⟨h1,h2⟩)]
          have HFE:=Lib.hid hfe
          clear hfe h1 h2
          have hll:((R.take k).filter ZD).length≤1000000:=by have:=HLL.out;omega
          generalize hQ:(R.take k).filter ZD=Q at *
          clear hQ
          go_wp2_with (at_builtin;refine Zn (ea:=Atr.cells) (k:=2) rfl _ _ _ rfl i0 (.agg #[.string ⟨#[]⟩,.string ⟨#[]⟩]) 32 Tryz.underlying24 hi hz0 hz1q hz2q rfl (by omega) (fun _=>rfl) (fun x u hu=>by simp[Atr.cells] at hu;rcases hu with rfl|rfl <;> rfl) rfl (HO.out.alloc _) (⟨nm,vl⟩:Atr) wr.heap.size 1 rfl ?_ (by unfold maxLen;omega) (by omega) (by have:=HB.out.size;simp;omega) ?_)
          ·intro j u hj
           match j,hj with
           | 0,hj=>simp[Atr.cells] at hj;subst hj;go_simp
           | 1,hj=>simp[Atr.cells] at hj;subst hj;go_simp
           | m+2,hj=>simp[Atr.cells] at hj
          ·intro v8 w8 hown8 hx8 hfr8
           obtain ⟨a8,c8,rfl,-,-,-⟩:=hown8.slice (fun _=>rfl)
           have HOB:=Jh (HO.out.blk)
           have HO8:Hid (Own Atr.cells 2 73 w3.heap.size w8 (.slice a8 ((R.take (k+1)).filter ZD).length c8) ((R.take (k+1)).filter ZD)):=Jh (by rw[HFE.out];exact hown8)
           have HB8:Hid (Below w3.heap.size w3 w8):=Jh (Ext.new (HB.out.alloc HB.out.size _) hx8 (fun i hi _ h=>by have:=(HOB.out i h).1;omega) (by have:=HB.out.size;simp;omega))
           rw[←HFE.out]
           clear hown8 hx8 hfr8
           generalize hlj:((R.take (k+1)).filter ZD).length=lj at *
           have HLJ:=Lib.hid hlj
           clear hlj
           go_wp2_with fail
           go_roundg (R.length - (k+1))
           case measure=>rw[HG.out];omega
           case rel=>exact ⟨k+1,a8,c8,rfl,hkl,by go_num,by rw[HLJ.out],by rw[HLJ.out];exact HO8,HB8⟩
       ·have hkk:¬ ((k:Int)<(R.length:Int)):=by omega
        have hto:R.take k=R:=List.take_of_length_le (by omega)
        have HOF:=HO.out
        rw[hto] at HOF ⊢
        have HOF:=Lib.hid HOF
        replace x2:=Z0 HB.out x2
        replace x3:=Z0 HB.out x3
        have HBW:=Jh (HB3.out.trans (HB.out.mono HB3.out.size))
        have HCW:=Jh (HC3.out.trans (HB.out.mono HC3.out.size))
        have HSM:=Jh (Tp (.slice aa an ac) (.slice a4 (R.filter ZD).length c4) az (R.filter ZD) wr (HI.out.2.2.below HBW.out) (HOF.out.slice (fun _=>rfl)))
        rw[show decide (az=R.filter ZD)=true from by rw[decide_eq_true_eq];exact HZZ.out] at HSM
        clear hto HO HOF HA3 hfl
        generalize (R.filter ZD).length=lf at *
        go_wp2_with fail
        refine HSM.out.mono ?_
        rintro e w5 ⟨rfl,b5⟩
        replace x2:=Z0 b5 x2
        have HC5:=Jh (HCW.out.trans (b5.mono HCW.out.size))
        clear b5 HSM
        go_wp2_with fail
        go_meet
        exact HC5
  case rest =>
   have HBC:=Lib.hid hcut.out
   have x50:=x5
   replace x5:=Z0 HBC.out x5
   clear HSB
   go_wp2_with fail
   go_loopg [11] sn (fun g iv wr=>∃ k:Nat,g=sn - k∧k≤sn∧iv=.int .i64 k∧Hid (Below w1.heap.size w1 wr))
   case atStart=>exact ⟨0,by omega,Nat.zero_le _,rfl,HBC⟩
   case round =>
    obtain ⟨k,hg,hk,rfl,HB⟩:=hrel
    have HG:=Lib.hid hg
    clear hg
    replace x5:=Z0 HB.out x50
    have HBW:=Jh (HB0.out.trans (HB.out.mono HB0.out.size))
    by_cases hkl:k<sn
    ·obtain ⟨⟨⟨zn,zr⟩,zk,⟨b1,b2,b3⟩,⟨b4,b5,b6⟩,⟨d1,d2,d3⟩⟩,hx⟩:∃ x,vs[k]?=some x:=⟨_,List.getElem?_eq_getElem (by have:=HZ1.out;omega)⟩
     obtain ⟨m,hm⟩:∃ x,ks[k]?=some x:=⟨_,List.getElem?_eq_getElem (by have:=HZ1.out;have:=HI.out.2.1.1;omega)⟩
     obtain ⟨q,o,c7,e5,u0,u1,u2,u3,u4,u5⟩:=(HI.out.1.below HBW.out (fun _=>Nat.zero_lt_succ 5)).node6 hx
     injection e5 with e5 e6 e7
     clear e6 e7
     subst e5
     simp only at u0 u1 u2 u3 u4 u5
     have hnd:=(HI.out.2.1.2 k _ m hx hm).belowW HBW.out
     have hkk:(k:Int)<(sn:Int):=by omega
     have HC:Hid (Calls Tryz.prog 26 #[.agg #[.int .i64 zn,.int .i64 zr,.string zk,.slice b1 b2 b3,.slice b4 b5 b6,.slice d1 d2 d3],.pointer (some ⟨r,0,none⟩)] wr fun e w'=>e=.returned (.bool true)∧Below wr.heap.size wr w'):=Jh (HIH.out m (List.mem_of_getElem? hm) D ⟨⟨zn,zr⟩,zk,⟨b1,b2,b3⟩,⟨b4,b5,b6⟩,⟨d1,d2,d3⟩⟩ wr hnd (HW.out.below HBW.out) (HKK.out m (List.mem_of_getElem? hm)))
     clear hnd hx hm
     go_wp2_with fail
     refine HC.out.mono ?_
     rintro e w9 ⟨rfl,b9⟩
     have HB9:=Jh (HB.out.trans (b9.mono HB.out.size))
     clear b9 HC
     go_wp2_with fail
     go_roundg (sn - (k+1))
     case measure=>rw[HG.out];omega
     case rel=>exact ⟨k+1,rfl,hkl,by go_num,HB9⟩
    ·have hkk:¬ ((k:Int)<(sn:Int)):=by omega
     go_wp2_with fail
     go_ret
     exact ⟨rfl,HBW.out⟩
theorem Z1F (r:Nat) (vr:List (Pl × Wr)) (n:Nd):Z32 r vr n:=by
 induction n using Nd.ind with
 | _ i k az t ks ih =>
  intro D x w hn hw hk
  obtain ⟨e1,e2,ha,hp,vs,hs,hkk⟩:=hn.parts
  obtain ⟨⟨xn,xr⟩,xk,⟨aa,an,ac⟩,⟨ta,tn,tc⟩,⟨sa,sn,sc⟩⟩:=x
  simp only[Nd.id,Nd.kind,Nd.kids,Nd.attrs] at e1 e2 hkk ha
  subst e1 e2
  cases hk with
  | mk _ _ _ _ _ h1 h2=>exact Z08 r vr D xn xr xk aa ta sa an ac tn tc sn sc az vs ks w ha hs hkk hw h1 h2 ih
theorem Qc (ws:List Z8):((Zg ws).1.map (·.1)).Nodup:=by
 refine WB (p:=fun ws=>((Zg ws).1.map (·.1)).Nodup) List.nodup_nil ?_ ws
 intro ws x h
 rw[XD]
 show ((YI _ _ _ _ _).map (·.1)).Nodup
 unfold YI
 split
 ·exact U7 _ _ _ h
 ·exact h
theorem Z3I {vs:List (Pl × Wr)} (hn:(vs.map (·.1)).Nodup) (u:St):XE vs u (Xl vs u):=by
 have S:=Tx
 have hs:=List.pairwise_mergeSort (le:=fun a b=>!(Go.Proofs.ltOf (fun x y:Atr=>Yv x.name y.name) b a)) (l:=ZM vs u) (fun a b c h1 h2=>by
  rw[Bool.not_eq_true'] at *
  exact S.ntrans _ _ _ h2 h1) (fun a b=>by
  rw[Bool.or_eq_true,Bool.not_eq_true',Bool.not_eq_true']
  cases h1:Go.Proofs.ltOf (fun x y:Atr=>Yv x.name y.name) b a with
  | false=>exact .inl rfl
  | true =>
   refine .inr ?_
   cases h2:Go.Proofs.ltOf (fun x y:Atr=>Yv x.name y.name) a b with
   | false=>rfl
   | true =>
    have:=S.trans _ _ _ h1 h2
    rw[S.irrefl] at this
    cases this)
 have:=Ug (vs:=vs) hn (b:=u) (List.mergeSort_perm _ _) (hs.imp (fun {a b} h=>by rwa [Bool.not_eq_true'] at h))
 rw[UY this]
 exact this
theorem Rd (l:List El) (mv:List RMv) (ws:List Z8) (ms:List OpD) (A:List Ch) (N:Nat):WT (S6 (Zg ws).1) (Xl (Zg ws).1) (Vh l mv ws ms A N) :=
 Z0b (V:=Ye l ms (Xl (Zg ws).1) (Y1 (ZQ mv)) A) (gt:=S6 (Zg ws).1) (fun s=>Qf (Z3I (Qc ws) s) _ _ rfl rfl) _ _
theorem Z3k {r mv ma:Nat} {ws:List Z8} {w:World} (h:Ys w r mv ma (Zg ws).1 (Zg ws).2) (hl:ws.length≤60):Sa r (Zg ws).1 w:=by
 have hlen:=Uf ws
 refine ⟨fun W hW u nm=>Z3o r mv ma _ _ u.n u.r nm W (h.below hW),fun W hW u=>?_⟩
 refine (RF r mv ma _ _ u.n u.r W (h.below hW) (by omega)).mono ?_
 rintro e w' ⟨v,l,rfl,ho,hp,hs,hb⟩
 have hal:=Ug (h.below hW).hv.nodup hp hs
 rw[show (⟨u.n,u.r⟩:St)=u from rfl] at hal hp
 rw[UY hal]
 exact ⟨v,rfl,ho,by have:=hp.length_eq;have:=Vj (Zg ws).1 u;omega,hb⟩
theorem Z0o (v:Value) (l:List El) (mv:List RMv) (ws:List Z8) (ms:List OpD) (w:World) (hm:Z1M w v l mv ws ms) (ht:Xf w) :
  Calls Tryz.prog 9 #[v] w fun e w'=>e=.returned (.bool true)∧Below w.heap.size w w':=by
 obtain ⟨⟨a0,n0,c0⟩,⟨a1,n1,c1⟩,⟨a2,n2,c2⟩,⟨a3,n3,c3⟩,rfl,h0,h1,h2,h3⟩:=hm.ex
 simp only at h0 h1 h2 h3
 have e0:=h0.len
 have e1:=h1.len
 have e2:=h2.len
 have e3:=h3.len
 have hB0:Below w.heap.size w (w.alloc (.cells #[.slice a0 n0 c0,.slice a1 n1 c1,.slice a2 n2 c2,.slice a3 n3 c3] 39)):=(Below.refl _ _).alloc (Nat.le_refl _) _
 have hz1:(w.alloc (.cells #[.slice a0 n0 c0,.slice a1 n1 c1,.slice a2 n2 c2,.slice a3 n3 c3] 39)).heap.size=w.heap.size+1:=by simp
 have x0:(w.alloc (.cells #[.slice a0 n0 c0,.slice a1 n1 c1,.slice a2 n2 c2,.slice a3 n3 c3] 39)).cell? ⟨w.heap.size,0,none⟩=some (.slice a0 n0 c0):=by go_simp
 have x1:(w.alloc (.cells #[.slice a0 n0 c0,.slice a1 n1 c1,.slice a2 n2 c2,.slice a3 n3 c3] 39)).cell? ⟨w.heap.size,1,none⟩=some (.slice a1 n1 c1):=by go_simp
 have x2:(w.alloc (.cells #[.slice a0 n0 c0,.slice a1 n1 c1,.slice a2 n2 c2,.slice a3 n3 c3] 39)).cell? ⟨w.heap.size,2,none⟩=some (.slice a2 n2 c2):=by go_simp
 have x3:(w.alloc (.cells #[.slice a0 n0 c0,.slice a1 n1 c1,.slice a2 n2 c2,.slice a3 n3 c3] 39)).cell? ⟨w.heap.size,3,none⟩=some (.slice a3 n3 c3):=by go_simp
 have HIN:=Jh (And.intro h0 (And.intro h1 (And.intro h2 h3)))
 have HLN:=Jh (And.intro e0 (And.intro e1 (And.intro e2 e3)))
 have HB0:=Lib.hid hB0
 have HT:=Lib.hid ht
 have HZ1:=Lib.hid hz1
 have HASK:=Jh (Z1f a0 a1 a2 a3 n0 n1 n2 n3 c0 c1 c2 c3 l (w.alloc (.cells #[.slice a0 n0 c0,.slice a1 n1 c1,.slice a2 n2 c2,.slice a3 n3 c3] 39)) (h0.below hB0) (by omega) (by omega) (by omega))
 have HAL:Hid (∀ W,Below w.heap.size w W→Calls Tryz.prog 11 #[] W fun e w'=>e=.returned (.bool true)∧Below W.heap.size W w'):=Jh (fun W hW=>Z1z W (ht.below hW))
 clear h0 h1 h2 h3 e0 e1 e2 e3 hB0 hz1 ht hm
 go_enter Tryz.func9,Tryz.ntmps9
 go_upto_region 1 with fail
 generalize (w.alloc (.cells #[.slice a0 n0 c0,.slice a1 n1 c1,.slice a2 n2 c2,.slice a3 n3 c3] 39))=w1 at *
 go_wp2_with fail
 refine HASK.out.mono ?_
 rintro e w2 ⟨r,rfl,hr,b2⟩
 have HB2:=Jh (HB0.out.trans (b2.mono HB0.out.size))
 have HR:=Lib.hid hr
 replace x0:=Z0 b2 x0
 replace x1:=Z0 b2 x1
 replace x2:=Z0 b2 x2
 replace x3:=Z0 b2 x3
 clear hr HASK b2
 cases r with
 | false =>
  go_wp2_with fail
  refine (HAL.out w2 HB2.out).mono ?_
  rintro e w3 ⟨rfl,b3⟩
  have HB3:=Jh (HB2.out.trans (b3.mono HB2.out.size))
  clear b3
  go_wp2_with fail
  go_ret
  exact ⟨rfl,HB3.out⟩
 | true =>
  have HOK:=Jh (HR.out rfl)
  have HLE:Hid (l.length≤60∧mv.length≤60∧ws.length≤60∧ms.length≤30):=Lib.hid ⟨HOK.out.el,by rw[←HLN.out.2.1.1];exact HOK.out.mv,by rw[←HLN.out.2.2.1.1];exact HOK.out.ws,by rw[←HLN.out.2.2.2.1];exact HOK.out.ms⟩
  have HBU:=Jh (Z1r a0 a1 a2 a3 n0 n1 n2 n3 c0 c1 c2 c3 l mv ws ms w2 (HIN.out.1.below HB2.out) (HIN.out.2.1.below HB2.out) (HIN.out.2.2.1.below HB2.out) (HIN.out.2.2.2.below HB2.out) HLE.out.1 HOK.out.unlike HLE.out.2.1 HLE.out.2.2.1 HLE.out.2.2.2)
  go_wp2_with fail
  refine HBU.out.mono ?_
  rintro e w3 ⟨A,D,N,⟨⟨xn,xr⟩,xk,⟨xa,xb,xc⟩,⟨xd,xe,xf⟩,⟨xg,xh,xi⟩⟩,⟨⟨yn,yr⟩,yk,⟨ya,yb,yc⟩,⟨yd,ye,yf⟩,⟨yg,yh,yi⟩⟩,rfl,hA,hD,hN,hx,hy,b3⟩
  simp only[NdV.val]
  have hz3:=b3.size
  replace x0:=Z1 (Z1 (Z0 b3 x0) (.cells #[.int .i64 xn,.int .i64 xr,.string xk,.slice xa xb xc,.slice xd xe xf,.slice xg xh xi] 28)) (.cells #[.int .i64 yn,.int .i64 yr,.string yk,.slice ya yb yc,.slice yd ye yf,.slice yg yh yi] 28)
  replace x1:=Z1 (Z1 (Z0 b3 x1) (.cells #[.int .i64 xn,.int .i64 xr,.string xk,.slice xa xb xc,.slice xd xe xf,.slice xg xh xi] 28)) (.cells #[.int .i64 yn,.int .i64 yr,.string yk,.slice ya yb yc,.slice yd ye yf,.slice yg yh yi] 28)
  replace x2:=Z1 (Z1 (Z0 b3 x2) (.cells #[.int .i64 xn,.int .i64 xr,.string xk,.slice xa xb xc,.slice xd xe xf,.slice xg xh xi] 28)) (.cells #[.int .i64 yn,.int .i64 yr,.string yk,.slice ya yb yc,.slice yd ye yf,.slice yg yh yi] 28)
  replace x3:=Z1 (Z1 (Z0 b3 x3) (.cells #[.int .i64 xn,.int .i64 xr,.string xk,.slice xa xb xc,.slice xd xe xf,.slice xg xh xi] 28)) (.cells #[.int .i64 yn,.int .i64 yr,.string yk,.slice ya yb yc,.slice yd ye yf,.slice yg yh yi] 28)
  have p0:((w3.alloc (.cells #[.int .i64 xn,.int .i64 xr,.string xk,.slice xa xb xc,.slice xd xe xf,.slice xg xh xi] 28)).alloc (.cells #[.int .i64 yn,.int .i64 yr,.string yk,.slice ya yb yc,.slice yd ye yf,.slice yg yh yi] 28)).cell? ⟨w3.heap.size,0,none⟩=some (.int .i64 xn):=by go_simp
  have q0:((w3.alloc (.cells #[.int .i64 xn,.int .i64 xr,.string xk,.slice xa xb xc,.slice xd xe xf,.slice xg xh xi] 28)).alloc (.cells #[.int .i64 yn,.int .i64 yr,.string yk,.slice ya yb yc,.slice yd ye yf,.slice yg yh yi] 28)).cell? ⟨w3.heap.size+1,0,none⟩=some (.int .i64 yn):=by go_simp
  have p1:((w3.alloc (.cells #[.int .i64 xn,.int .i64 xr,.string xk,.slice xa xb xc,.slice xd xe xf,.slice xg xh xi] 28)).alloc (.cells #[.int .i64 yn,.int .i64 yr,.string yk,.slice ya yb yc,.slice yd ye yf,.slice yg yh yi] 28)).cell? ⟨w3.heap.size,1,none⟩=some (.int .i64 xr):=by go_simp
  have q1:((w3.alloc (.cells #[.int .i64 xn,.int .i64 xr,.string xk,.slice xa xb xc,.slice xd xe xf,.slice xg xh xi] 28)).alloc (.cells #[.int .i64 yn,.int .i64 yr,.string yk,.slice ya yb yc,.slice yd ye yf,.slice yg yh yi] 28)).cell? ⟨w3.heap.size+1,1,none⟩=some (.int .i64 yr):=by go_simp
  have p2:((w3.alloc (.cells #[.int .i64 xn,.int .i64 xr,.string xk,.slice xa xb xc,.slice xd xe xf,.slice xg xh xi] 28)).alloc (.cells #[.int .i64 yn,.int .i64 yr,.string yk,.slice ya yb yc,.slice yd ye yf,.slice yg yh yi] 28)).cell? ⟨w3.heap.size,2,none⟩=some (.string xk):=by go_simp
  have q2:((w3.alloc (.cells #[.int .i64 xn,.int .i64 xr,.string xk,.slice xa xb xc,.slice xd xe xf,.slice xg xh xi] 28)).alloc (.cells #[.int .i64 yn,.int .i64 yr,.string yk,.slice ya yb yc,.slice yd ye yf,.slice yg yh yi] 28)).cell? ⟨w3.heap.size+1,2,none⟩=some (.string yk):=by go_simp
  have p3:((w3.alloc (.cells #[.int .i64 xn,.int .i64 xr,.string xk,.slice xa xb xc,.slice xd xe xf,.slice xg xh xi] 28)).alloc (.cells #[.int .i64 yn,.int .i64 yr,.string yk,.slice ya yb yc,.slice yd ye yf,.slice yg yh yi] 28)).cell? ⟨w3.heap.size,3,none⟩=some (.slice xa xb xc):=by go_simp
  have q3:((w3.alloc (.cells #[.int .i64 xn,.int .i64 xr,.string xk,.slice xa xb xc,.slice xd xe xf,.slice xg xh xi] 28)).alloc (.cells #[.int .i64 yn,.int .i64 yr,.string yk,.slice ya yb yc,.slice yd ye yf,.slice yg yh yi] 28)).cell? ⟨w3.heap.size+1,3,none⟩=some (.slice ya yb yc):=by go_simp
  have p4:((w3.alloc (.cells #[.int .i64 xn,.int .i64 xr,.string xk,.slice xa xb xc,.slice xd xe xf,.slice xg xh xi] 28)).alloc (.cells #[.int .i64 yn,.int .i64 yr,.string yk,.slice ya yb yc,.slice yd ye yf,.slice yg yh yi] 28)).cell? ⟨w3.heap.size,4,none⟩=some (.slice xd xe xf):=by go_simp
  have q4:((w3.alloc (.cells #[.int .i64 xn,.int .i64 xr,.string xk,.slice xa xb xc,.slice xd xe xf,.slice xg xh xi] 28)).alloc (.cells #[.int .i64 yn,.int .i64 yr,.string yk,.slice ya yb yc,.slice yd ye yf,.slice yg yh yi] 28)).cell? ⟨w3.heap.size+1,4,none⟩=some (.slice yd ye yf):=by go_simp
  have p5:((w3.alloc (.cells #[.int .i64 xn,.int .i64 xr,.string xk,.slice xa xb xc,.slice xd xe xf,.slice xg xh xi] 28)).alloc (.cells #[.int .i64 yn,.int .i64 yr,.string yk,.slice ya yb yc,.slice yd ye yf,.slice yg yh yi] 28)).cell? ⟨w3.heap.size,5,none⟩=some (.slice xg xh xi):=by go_simp
  have q5:((w3.alloc (.cells #[.int .i64 xn,.int .i64 xr,.string xk,.slice xa xb xc,.slice xd xe xf,.slice xg xh xi] 28)).alloc (.cells #[.int .i64 yn,.int .i64 yr,.string yk,.slice ya yb yc,.slice yd ye yf,.slice yg yh yi] 28)).cell? ⟨w3.heap.size+1,5,none⟩=some (.slice yg yh yi):=by go_simp
  have hb4:Below w3.heap.size w3 ((w3.alloc (.cells #[.int .i64 xn,.int .i64 xr,.string xk,.slice xa xb xc,.slice xd xe xf,.slice xg xh xi] 28)).alloc (.cells #[.int .i64 yn,.int .i64 yr,.string yk,.slice ya yb yc,.slice yd ye yf,.slice yg yh yi] 28)):=((Below.refl _ _).alloc (Nat.le_refl _) _).alloc (by simp) _
  have HB4:=Jh ((HB2.out.trans (b3.mono HB2.out.size)).trans (hb4.mono (by have:=HB2.out.size;omega)))
  have HX:=Jh (hx.belowW hb4)
  have HY:=Jh (hy.belowW hb4)
  have HTR:=Jh (And.intro hA (And.intro hD hN))
  skip
  clear b3 hb4 hx hy hA hD hN hz3 HBU
  go_upto_region 5 with fail
  generalize ((w3.alloc (.cells #[.int .i64 xn,.int .i64 xr,.string xk,.slice xa xb xc,.slice xd xe xf,.slice xg xh xi] 28)).alloc (.cells #[.int .i64 yn,.int .i64 yr,.string yk,.slice ya yb yc,.slice yd ye yf,.slice yg yh yi] 28))=w4 at *
  have HKO:=Jh (Rd l mv ws ms A N)
  obtain ⟨TT,hTT⟩:=Je (Vh l mv ws ms A N)
  rw[hTT] at HX HKO
  clear hTT HY HTR q0 q1 q2 q3 q4 q5
  have HX4:=HX
  have x20:=x2
  have p00:=p0
  have p10:=p1
  have p20:=p2
  have p30:=p3
  have p40:=p4
  have p50:=p5
  go_wp2_with fail
  refine (QO w4).mono ?_
  rintro e w5 ⟨rfl,hreg,b5,hz5⟩
  have HRG:Hid (Ys w5 (w4.heap.size+2) w4.heap.size (w4.heap.size+1) (Zg (ws.take 0)).1 (Zg (ws.take 0)).2):=Lib.hid hreg
  have HB5:=Jh (HB4.out.trans (b5.mono HB4.out.size))
  have HX5:=Jh (HX.out.belowW b5)
  have HZ5:=Lib.hid hz5
  replace p0:=Z0 b5 p0
  replace p1:=Z0 b5 p1
  replace p2:=Z0 b5 p2
  replace p3:=Z0 b5 p3
  replace p4:=Z0 b5 p4
  replace p5:=Z0 b5 p5
  replace x2:=Z0 b5 x2
  have hn2:n2≤60:=by have:=HLE.out.2.2.1;have:=HLN.out.2.2.1.1;omega
  have HN2:Hid (n2=ws.length):=Lib.hid HLN.out.2.2.1.1
  obtain ⟨s0,hs0⟩:=Je (w4.heap.size)
  rw[hs0] at HRG HZ5 ⊢
  have HS0:=Lib.hid hs0
  have HBS:Hid (Below s0 w4 w5):=Jh (by rw[←hs0];exact b5)
  clear hreg b5 hz5 HX x0 x1 x3 hs0
  go_wp2_with fail
  go_loopg [7] n2 (fun g iv wr=>∃ k:Nat,g=n2 - k∧k≤n2∧iv=.int .i64 k∧Hid (Ys wr (s0+2) s0 (s0+1) (Zg (ws.take k)).1 (Zg (ws.take k)).2)∧Hid (Below s0 w4 wr)∧Hid (s0+3≤wr.heap.size))
  case atStart=>exact ⟨0,by omega,Nat.zero_le _,rfl,HRG,HBS,Jh (by have:=HZ5.out;omega)⟩
  case round =>
   obtain ⟨k,hg,hk,rfl,HR,HB,HZ⟩:=hrel
   have HG:=Lib.hid hg
   clear hg
   have HB6:Hid (Below w4.heap.size w4 wr):=Jh (by rw[HS0.out];exact HB.out)
   have HBW:=Jh (HB4.out.trans (HB6.out.mono HB4.out.size))
   replace x2:=Z0 HB6.out x20
   replace p0:=Z0 HB6.out p00
   replace p1:=Z0 HB6.out p10
   replace p2:=Z0 HB6.out p20
   replace p3:=Z0 HB6.out p30
   replace p4:=Z0 HB6.out p40
   replace p5:=Z0 HB6.out p50
   by_cases hkl:k<n2
   ·obtain ⟨⟨⟨an,ar⟩,⟨bn,br⟩,nm,vl⟩,hx⟩:∃ x,ws[k]?=some x:=⟨_,List.getElem?_eq_getElem (by have:=HN2.out;omega)⟩
    obtain ⟨b,o,rfl,z0,z1,z2,z3,z4,z5⟩:=Q7 HIN.out.2.2.1 hx
    replace z0:=Z0 HBW.out z0
    replace z1:=Z0 HBW.out z1
    replace z2:=Z0 HBW.out z2
    replace z3:=Z0 HBW.out z3
    replace z4:=Z0 HBW.out z4
    replace z5:=Z0 HBW.out z5
    simp only at z0 z1 z2 z3 z4 z5
    have HXX:=Lib.hid hx
    have hkk:(k:Int)<(n2:Int):=by omega
    clear hx
    have y0:(wr.alloc (.cells #[.int .i64 an,.int .i64 ar,.int .i64 bn,.int .i64 br,.string nm,.string vl] 58)).cell? ⟨wr.heap.size,0,none⟩=some (.int .i64 an):=by go_simp
    have y1:(wr.alloc (.cells #[.int .i64 an,.int .i64 ar,.int .i64 bn,.int .i64 br,.string nm,.string vl] 58)).cell? ⟨wr.heap.size,1,none⟩=some (.int .i64 ar):=by go_simp
    have y2:(wr.alloc (.cells #[.int .i64 an,.int .i64 ar,.int .i64 bn,.int .i64 br,.string nm,.string vl] 58)).cell? ⟨wr.heap.size,2,none⟩=some (.int .i64 bn):=by go_simp
    have y3:(wr.alloc (.cells #[.int .i64 an,.int .i64 ar,.int .i64 bn,.int .i64 br,.string nm,.string vl] 58)).cell? ⟨wr.heap.size,3,none⟩=some (.int .i64 br):=by go_simp
    have y4:(wr.alloc (.cells #[.int .i64 an,.int .i64 ar,.int .i64 bn,.int .i64 br,.string nm,.string vl] 58)).cell? ⟨wr.heap.size,4,none⟩=some (.string nm):=by go_simp
    have y5:(wr.alloc (.cells #[.int .i64 an,.int .i64 ar,.int .i64 bn,.int .i64 br,.string nm,.string vl] 58)).cell? ⟨wr.heap.size,5,none⟩=some (.string vl):=by go_simp
    have HR9:=Jh (HR.out.below ((Below.refl wr.heap.size wr).alloc (Nat.le_refl _) (.cells #[.int .i64 an,.int .i64 ar,.int .i64 bn,.int .i64 br,.string nm,.string vl] 58)))
    have HB9:Hid (Below s0 w4 (wr.alloc (.cells #[.int .i64 an,.int .i64 ar,.int .i64 bn,.int .i64 br,.string nm,.string vl] 58))):=Jh (HB.out.alloc (by have:=HZ.out;omega) _)
    have HZ9:Hid (s0+3≤(wr.alloc (.cells #[.int .i64 an,.int .i64 ar,.int .i64 bn,.int .i64 br,.string nm,.string vl] 58)).heap.size):=Jh (by have:=HZ.out;rw[World.size_alloc];omega)
    go_upto_region 12 with fail
    generalize wr.alloc (.cells #[.int .i64 an,.int .i64 ar,.int .i64 bn,.int .i64 br,.string nm,.string vl] 58)=w9 at *
    clear z0 z1 z2 z3 z4 z5
    have HSET:=Jh (QH (s0+2) s0 (s0+1) (Zg (ws.take k)).1 (Zg (ws.take k)).2 an ar bn br nm vl w9 HR9.out)
    go_wp2_with fail
    refine HSET.out.mono ?_
    rintro e w10 ⟨rfl,hr10,hx10⟩
    have HRF:Hid (Ys w10 (s0+2) s0 (s0+1) (Zg (ws.take (k+1))).1 (Zg (ws.take (k+1))).2):=Jh (by rw[T5 HXX.out];exact hr10)
    have HB10:Hid (Below s0 w4 w10):=Jh (Ext.new HB9.out hx10 (fun i hi _ h=>by omega) (by have:=HZ9.out;omega))
    have HZ10:Hid (s0+3≤w10.heap.size):=Jh (by have:=hx10.size;have:=HZ9.out;omega)
    clear hr10 hx10 HSET
    go_wp2_with fail
    go_roundg (n2 - (k+1))
    case measure=>rw[HG.out];omega
    case rel=>exact ⟨k+1,rfl,hkl,by go_num,HRF,HB10,HZ10⟩
   ·have hkk:¬ ((k:Int)<(n2:Int)):=by omega
    have hto:ws.take k=ws:=List.take_of_length_le (by have:=HN2.out;omega)
    have hrw:=HR.out
    rw[hto] at hrw
    have HKA:=Jh (Z1F (s0+2) (Zg ws).1 TT _ ⟨⟨xn,xr⟩,xk,⟨xa,xb,xc⟩,⟨xd,xe,xf⟩,⟨xg,xh,xi⟩⟩ wr (HX4.out.belowW HB6.out) (Z3k hrw HLE.out.2.2.1) HKO.out)
    simp only[NdV.val] at HKA
    clear hto hrw
    go_wp2_with fail
    refine HKA.out.mono ?_
    rintro e w6 ⟨rfl,b6⟩
    have HB7:=Jh (HBW.out.trans (b6.mono HBW.out.size))
    clear b6
    go_wp2_with fail
    refine (HAL.out w6 HB7.out).mono ?_
    rintro e w7 ⟨rfl,b9⟩
    have HB9:=Jh (HB7.out.trans (b9.mono HB7.out.size))
    clear b9
    go_wp2_with fail
    go_ret
    exact ⟨rfl,HB9.out⟩
end Go.Proofs.YtlgipkemoldckaaGreatDoor
namespace Go.Proofs.YtlgipkemoldckaaGreatDoor
open Go.ChangeShapes Go.WideShapes Go.ChangeAt Go.RowKit
def Xk : List (String × DataW Unit) := [("math/bits.deBruijn32tab", Rows.laid_math_bits_deBruijn32tab), ("math/bits.deBruijn64tab", Rows.laid_math_bits_deBruijn64tab), ("internal/strconv.uint64pow10", Rows.laid_internal_strconv_uint64pow10)]
theorem Z2n : (Xk.filter fun x => x.1 == "internal/strconv.uint64pow10") = [("internal/strconv.uint64pow10", Lib.tabData .u64 Lib.pow10Tab)] := by kernel_rfl
theorem TW (W:World):laidMetH Tryz.prog Xk W=laidMet Tryz.prog Xk W:=by
 first|exact laidMetH_plain _ _ _ (by kernel_rfl)|exact Go.laidMetH_plain _ _ _ (by kernel_rfl)|exact MakeChecks.laidMetH_plain _ _ _ (by kernel_rfl)|rfl
theorem Qq {W:World} (h:laidMetH Tryz.prog Xk W):Xf W:=by
 rw[TW] at h
 have := h.filter (fun x => x.1 == "internal/strconv.uint64pow10")
 rw[Z2n] at this
 exact Lib.tabIs_of_head (g:=1) (by kernel_rfl) (t:=238) (by kernel_rfl) Tryz.underlying238 (by kernel_rfl) (by kernel_rfl) (by kernel_rfl) this
theorem Tryz.laidOut:laidOutB Tryz.prog=true:=by kernel_rfl
noncomputable def TZ (os:Os):World:=(World.holding Tryz.prog os ⟨#[],#[],[]⟩).layVars Tryz.prog Xk
theorem Z2c (os:Os):(TZ os).os=os:=World.layVars_os _ _ _
theorem Z0M (os:Os) (args:Array Value):laidMetH Tryz.prog Xk ((TZ os).forCall (fun _ _=>0) ⟨#[],args,[]⟩).memory:=by
 rw[TW]
 have e1:(Xk.filter fun x=>(Xk.map (·.1)).contains x.1)=Xk:=List.filter_eq_self.2 fun x hx=>List.contains_iff_mem.2 (List.mem_map.2 ⟨x,hx,rfl⟩)
 have e2:(Xk.filter fun x=>!(Xk.map (·.1)).contains x.1)=[]:=List.filter_eq_nil_iff.2 fun x hx=>by rw[List.contains_iff_mem.2 (List.mem_map.2 ⟨x,hx,rfl⟩)];simp
 have h:laidMet Tryz.prog Xk (TZ os):=laidMet_layVars (w0:=World.holding Tryz.prog os ⟨#[],#[],[]⟩) (Xk.map (·.1)) [] (by rw[e1];rfl) (by rw[e1];kernel_rfl) (by rw[e1];kernel_rfl) (by rw[e2];exact LaidIn.none)
 exact h.of_heap (by simp[World.memory,World.forCall,Input.heap])
end Go.Proofs.YtlgipkemoldckaaGreatDoor
namespace Go.Proofs.YtlgipkemoldckaaGreatDoor
open Go Go.ChangeShapes Go.WideShapes Go.ChangeAt Go.RowKit
theorem Ty (os:Os) (started:os.Started) (H:Type) (enc:TypeId × Value→H) :
  ReturnsInHanded {} Tryz.checked os 9 .any (fun w args=>(Rows.viewKindsSpec.pre enc Tryz.prog Tryz.f9 [] false w args∧laidMetH Tryz.prog Xk w)∧sizedMet enc Tryz.prog Tryz.f9 (OpenSpec.ofChange Rows.viewKindsSpec) false w args)
   (Rows.viewKindsSpec.post enc Tryz.prog Tryz.f9 false true false false):=by
 refine returnsInHanded_of_change_and (C:=Tryz.checked) (X:=fun w _=>laidMetH Tryz.prog Xk w) (fun _ _ _ hh h=>h.of_heap hh) Tryz.own started (by kernel_rfl) Tryz.func9
  (ChangeSpec.witness_shaped (enc:=enc) (C:=Tryz.checked) (os:=os) (X:=fun w _=>laidMetH Tryz.prog Xk w) false (TZ os) #[.agg #[.slice none 0 0,.slice none 0 0,.slice none 0 0,.slice none 0 0]] 8 (Z2c os) (World.shaped_of_ZipB (by kernel_rfl) (by kernel_rfl)) (by kernel_rfl) (by kernel_rfl) (by kernel_rfl) (Z0M os _)) ?_
 intro W base args ds gs before hval0 hW _ _ hL _
 have hval:∀ (j:Nat) t v,Tryz.f9.params[j]?=some t→args[j]?=some v→Value.okWide Tryz.prog W .any base t v:=hval0
 have hW':=hW
 obtain ⟨p,q,hA0,hV,rfl,hfz,hnd⟩:=hW
 have hA:DataW.TrodAll enc Tryz.prog W 0 (fun _=>true) true Tryz.f9.params.toList args.toList ds p:=hA0
 rw[Tryz.params9] at hA hval
 obtain ⟨v0,vs0,d0,ds0,p0,q0,hargs,rfl,rfl,h0,r0⟩:=trodAll_cons hA
 obtain ⟨rfl,rfl,rfl⟩:=trodAll_nil r0
 obtain rfl:args=#[v0]:=by cases args;simp_all
 obtain ⟨rfl,rfl⟩:=trodVars_none hV
 have k0:=h0
 have lt0:∀ x∈p0,x.block<W.heap.size:=by obtain ⟨m,hm⟩:=k0;exact DataW.trod_lt m _ _ _ hm
 obtain ⟨l,mv,ws,ms,hm0⟩:=Z1A (hval 0 39 v0 rfl rfl) h0
 clear hA0 hval0
 refine (Z0o v0 l mv ws ms W hm0 (Qq hL)).mono fun e W' ⟨he,bel⟩=>?_
 subst he
 exact ⟨_,rfl,_,_,_,[],_,[],hW',trodAll_mk1 (shut_bool Tryz.underlying4 _),(trodAll_cons_mk (Below.trod Tryz.laidOut (by kernel_rfl) (of_decide_eq_true (by kernel_rfl)) k0 bel lt0) trodAll_mk0),rfl,bel.frame _,fun h=>by cases h⟩
theorem Qe:(Rows.viewKindsRow.inPlace == Tryz.prog.inPlace 9)=true:=by kernel_rfl
theorem RE:(Rows.viewKindsRow.unfollowed == Tryz.prog.unfollowed 9)=true:=by kernel_rfl
theorem RJ:(Rows.viewKindsRow.recurses == Tryz.prog.recurses 9)=true:=by kernel_rfl
theorem Rv:(Rows.viewKindsRow.named == Tryz.prog.varsNamed 9)=true:=by kernel_rfl
theorem Sf:joinedFacts Tryz.prog 9 Tryz.f9 Rows.viewKindsSpec Rows.viewKindsRow=true:=by
 unfold joinedFacts
 rw[Qe,RE,RJ,Rv]
 kernel_rfl
theorem TN:Rows.ViewKindsSaid :=
 OpenClaim.holds_of_wide 9 Tryz.f9 rfl rfl rfl rfl rfl rfl rfl ⟨rfl,rfl,rfl,rfl,rfl⟩ rfl rfl rfl rfl rfl (by kernel_rfl) Tryz.func9 Sf
  (of_decide_eq_true (by kernel_rfl)) (by unfold Func.isWrapper;first|(rw[if_pos (by decide +kernel)];kernel_rfl)|(rw[if_neg (by decide +kernel)];exact ⟨rfl,rfl⟩))
  (fun os started H enc _=>Ty os started H enc)
theorem viewKinds_card:Rows.ViewKindsCardSaid :=
 Claim7.holds_tied_plain_at .later [] [.data,.data,.data] true Rows.viewKindsCard.stood.harness false
  TN (fun _ h=>by cases h) (by kernel_rfl) (fun _ h=>by cases h) viewKinds_row_tie rfl ⟨rfl,rfl⟩ (by kernel_rfl) rfl
  (fun f fn hf hfn=>by
   obtain rfl : f = 9 := Option.some.inj ((show Tryz.prog.funcNamed "stemma/stemmalaw20.ViewKinds" = some 9 by kernel_rfl).symm.trans hf) |>.symm
   obtain rfl:fn=Tryz.f9:=(Option.some.inj (Tryz.func9.symm.trans hfn)).symm
   exact ⟨by kernel_rfl,fun j t ht=>by
    rw[Tryz.params9] at ht
    have hm:t∈[39]:=by simpa using Array.mem_of_getElem? ht
    have hall:([39].all fun u=>!Tryz.prog.wantsStandIn u)=true:=by kernel_rfl
    exact (show Tryz.prog.wantsStandIn t=false by simpa using List.all_eq_true.1 hall t hm)⟩)
  (by kernel_rfl)
#print axioms viewKinds_card
end Go.Proofs.YtlgipkemoldckaaGreatDoor
