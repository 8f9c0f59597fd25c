/- VAll20, part 23 of what the proof leans on (made short by a program). -/
import Derived.Test.YtlgipkemoldckaaGreatDoorVcZ22
import Derived.LaidMore
import Derived.Lay
import Derived.Test.YtlgipkemoldckaaGreatDoorTie
import Derived.Test.YtlgipkemoldckaaGreatDoorCards
set_option linter.unusedSimpArgs false
set_option linter.unusedVariables false
set_option linter.unusedSectionVars false
set_option maxRecDepth 20000
set_option maxHeartbeats 30000000
namespace Go.Proofs.YtlgipkemoldckaaGreatDoor
open Go.RowKit
theorem Zw.small {α:Type} {D:Nat→Prop} {ea:α→List Value} {k:Nat} {W:World} {v:Value} {l:List α} (h:Zw D ea k W v l) (hk:∀ x,0<(ea x).length):Zw (fun b=>D b∧b<W.heap.size) ea k W v l:=by
 refine ⟨h.1,fun b o n c e hl=>⟨h.2 b o n c e hl,?_⟩⟩
 obtain ⟨a,c',e',_,_,hh⟩:=h.1
 rw[e] at e'
 injection e' with e1 _ _
 obtain ⟨b',o',e2,h2⟩:=hh hl
 rw[←e1] at e2
 cases e2
 obtain ⟨x,hx⟩:∃ x,l[0]?=some x:=by
  cases l with
  | nil=>exact absurd rfl hl
  | cons x r=>exact ⟨x,rfl⟩
 exact Zl (h2 0 x hx 0 _ (List.getElem?_eq_getElem (hk x)))
theorem Zo.small {D:Nat→Prop} {W:World} {x:NdV} {n:Nd} (h:Zo D W x n):Zo (fun b=>D b∧b<W.heap.size) W x n:=by
 induction h with
 | mk x al P vs ks h1 h2 h3 h4 h5 ih =>
  refine .mk x al P vs ks (h1.small (fun _=>Nat.zero_lt_succ 1)) ?_ (h3.small (fun _=>Nat.zero_lt_succ 5)) h4 ih
  obtain ⟨us,g1,g2,g3⟩:=h2
  refine ⟨us,g1.small (fun _=>Nat.zero_lt_succ 1),g2,fun j y hj=>?_⟩
  obtain ⟨al',g4,g5⟩:=g3 j y hj
  exact ⟨al',g4,g5.small (fun _=>Nat.zero_lt_succ 1)⟩
theorem RE {l:List Nd} {k:Nat} {n:Nd} (h:l[k]?=some n):ZS (l.take (k+1))=ZS (l.take k)++n.ids:=by
 rw[List.take_add_one,h,Option.toList_some,Va,ZS,ZS,List.append_nil]
theorem Z4b (l:List Nd) (k:Nat):(ZS (l.take k)).length≤(ZS l).length:=by
 conv=>rhs;rw[←List.take_append_drop k l]
 rw[Va,List.length_append]
 omega
theorem Z03:Tryz.prog.underlying 43=some (.slice 23):=by kernel_rfl
def SE (base:Nat) (v:Value) (xs:List St) (w:World) (e:Ending) (w':World):Prop :=
 ∃ v',e=.returned v'∧Own St.cells 2 23 base w' v' xs∧Ext (fun b=>v.ownBlock=some b) w w'∧∀ b,v'.ownBlock=some b→v.ownBlock=some b∨w.heap.size≤b
def Z4D (n:Nd):Prop:=∀ (base:Nat) (a:Option Addr) (c:Nat) (xs:List St) (D:Nat→Prop) (x:NdV) (w:World),Own St.cells 2 23 base w (.slice a xs.length c) xs→Zo D w x n→(∀ b,D b→b<base)→base≤w.heap.size→xs.length+n.ids.length≤100000 →
 Calls Tryz.prog 18 #[x.val,.slice a xs.length c] w fun e w'=>SE base (.slice a xs.length c) (xs++n.ids) w e w'
theorem Z02 (base:Nat) (a:Option Addr) (c:Nat) (xs:List St) (D:Nat→Prop) (xn xr:Int) (xk:ByteArray) (aa ta sa:Option Addr) (an ac tn tc sn sc:Nat) (vs:List NdV) (ks:List Nd) (w:World) (hown:Own St.cells 2 23 base w (.slice a xs.length c) xs)
  (hs:Zw D NdV.cells 6 w (.slice sa sn sc) vs) (hn:Zb D w vs ks) (hD:∀ b,D b→b<base) (hb:base≤w.heap.size) (hl:xs.length+((if (⟨xn,xr⟩:St)=⟨0,0⟩ then [] else [(⟨xn,xr⟩:St)])++ZS ks).length≤100000) (ih:∀ n∈ks,Z4D n) :
  Calls Tryz.prog 18 #[.agg #[.int .i64 xn,.int .i64 xr,.string xk,.slice aa an ac,.slice ta tn tc,.slice sa sn sc],.slice a xs.length c] w fun e w'=>SE base (.slice a xs.length c) (xs++((if (⟨xn,xr⟩:St)=⟨0,0⟩ then [] else [(⟨xn,xr⟩:St)])++ZS ks)) w e w':=by
 have hsn:sn=vs.length∧vs.length≤9223372036854775807:=by
  obtain ⟨⟨a,c,e,h1,h2,_⟩,_⟩:=hs
  injection e with _ e2 _
  unfold maxLen at h2
  exact ⟨e2,Nat.le_trans h1 h2⟩
 have hsnn:sn≤9223372036854775807:=by omega
 have hB0:Below w.heap.size w (w.alloc (.cells #[.int .i64 xn,.int .i64 xr,.string xk,.slice aa an ac,.slice ta tn tc,.slice sa sn sc] 28)):=(Below.refl _ _).alloc (Nat.le_refl _) _
 have hz1:(w.alloc (.cells #[.int .i64 xn,.int .i64 xr,.string xk,.slice aa an ac,.slice ta tn tc,.slice sa sn sc] 28)).heap.size=w.heap.size+1:=by simp
 have hnb:(w.alloc (.cells #[.int .i64 xn,.int .i64 xr,.string xk,.slice aa an ac,.slice ta tn tc,.slice sa sn sc] 28)).heap[w.heap.size]?=some (.cells #[.int .i64 xn,.int .i64 xr,.string xk,.slice aa an ac,.slice ta tn tc,.slice sa sn sc] 28):=World.alloc_heap_new w _
 have hob:=hown.blk
 have hown1:=hown.alloc (.cells #[.int .i64 xn,.int .i64 xr,.string xk,.slice aa an ac,.slice ta tn tc,.slice sa sn sc] 28)
 have HZ1:=Jh (And.intro hz1 hsn)
 have HNB:=Lib.hid hnb
 have HB0:=Lib.hid hB0
 have HI:=Jh (And.intro hs hn)
 have HDD:=Lib.hid hD
 have HOB:=Lib.hid hob
 have HOW:=Lib.hid hown1
 have HBS:=Lib.hid hb
 have HIH:=Lib.hid ih
 obtain ⟨ii,hii⟩:=Je ((if (⟨xn,xr⟩:St)=⟨0,0⟩ then [] else [(⟨xn,xr⟩:St)]))
 rw[hii] at hl ⊢
 have HII:=Lib.hid hii
 have HL:=Lib.hid hl
 clear hz1 hsn hnb hB0 hs hn hD hob hown hown1 hb ih hii hl
 have x0:(w.alloc (.cells #[.int .i64 xn,.int .i64 xr,.string xk,.slice aa an ac,.slice ta tn tc,.slice sa sn sc] 28)).cell? ⟨w.heap.size,0,none⟩=some (.int .i64 xn):=by go_simp
 have x1:(w.alloc (.cells #[.int .i64 xn,.int .i64 xr,.string xk,.slice aa an ac,.slice ta tn tc,.slice sa sn sc] 28)).cell? ⟨w.heap.size,1,none⟩=some (.int .i64 xr):=by go_simp
 have x5:(w.alloc (.cells #[.int .i64 xn,.int .i64 xr,.string xk,.slice aa an ac,.slice ta tn tc,.slice sa sn sc] 28)).cell? ⟨w.heap.size,5,none⟩=some (.slice sa sn sc):=by go_simp
 go_enter Tryz.func18,Tryz.ntmps18
 go_upto_region 1 with fail
 generalize (w.alloc (.cells #[.int .i64 xn,.int .i64 xr,.string xk,.slice aa an ac,.slice ta tn tc,.slice sa sn sc] 28))=w1 at *
 go_cut [9] from 6 to 9 (fun v wx=>v=.bool (!decide ((⟨xn,xr⟩:St)=⟨0,0⟩))∧wx=w1)
 case first =>
  by_cases e1:xn=0
  ·by_cases e2:xr=0
   ·subst e1
    subst e2
    go_wp2_with fail
    go_meet
    exact ⟨rfl,rfl⟩
   ·subst e1
    go_wp2_with fail
    go_meet
    exact ⟨by simp[e2],rfl⟩
  ·go_wp2_with fail
   go_meet
   exact ⟨by simp[e1],rfl⟩
 case rest =>
  obtain ⟨rfl,hw⟩:=hcut
  subst wc
  obtain ⟨sb,hsb⟩:=Je ((!decide ((⟨xn,xr⟩:St)=⟨0,0⟩)))
  rw[hsb]
  have HSB:=Lib.hid hsb
  clear hsb
  go_upto_if 9 with fail
  go_cut [1] from 10 to 14 (fun v wx=>∃ a1 c1,v=.slice a1 (xs++ii).length c1∧Hid (Own St.cells 2 23 base wx (.slice a1 (xs++ii).length c1) (xs++ii))∧Hid (Ext (fun b=>(Value.slice a xs.length c).ownBlock=some b) w1 wx)∧Hid (∀ b,(Value.slice a1 (xs++ii).length c1).ownBlock=some b→(Value.slice a xs.length c).ownBlock=some b∨w1.heap.size≤b))
  case first=>as_aux_lemma =>
   cases sb with
   | false =>
    have hi0:ii=[]:=by
     have:=HSB.out
     simp only[Bool.not_eq_false',decide_eq_true_eq] at this
     rw[←HII.out,if_pos this]
    subst hi0
    go_wp2_with fail
    go_meet
    exact ⟨a,c,by rw[List.append_nil],Jh (by rw[List.append_nil];exact HOW.out),Jh (Ext.refl _ _),Jh (by rw[List.append_nil];exact fun b hb=>.inl hb)⟩
   | true =>
    have hi1:ii=[⟨xn,xr⟩]:=by
     have:=HSB.out
     simp only[Bool.not_eq_true',decide_eq_false_iff_not] at this
     rw[←HII.out,if_neg this]
    have HI1:=Lib.hid hi1
    clear hi1
    have hxl:xs.length≤100000:=by have:=HL.out;omega
    obtain ⟨i0,hi,hz0,hz1,hz2⟩:=info_parts SC
    go_wp2_with (at_builtin;refine Zn (ea:=St.cells) (k:=2) rfl _ _ _ rfl i0 (.agg #[.int .i64 0,.int .i64 0]) 16 Z03 hi hz0 hz1 hz2 rfl (by omega) (fun _=>rfl) StC.one rfl (HOW.out.alloc _) (⟨xn,xr⟩:St) w1.heap.size 1 rfl ?_ (by unfold maxLen;omega) (by omega) (by have:=HBS.out;have:=HZ1.out;simp;omega) ?_)
    ·intro j u hj
     match j,hj with
     | 0,hj=>simp[St.cells] at hj;subst hj;go_simp
     | 1,hj=>simp[St.cells] at hj;subst hj;go_simp
     | m+2,hj=>simp[St.cells] at hj
    ·intro v8 w8 hown8 hx8 hfr8
     obtain ⟨a8,c8,rfl,-,-,-⟩:=hown8.slice (fun _=>rfl)
     have HF:Hid (Own St.cells 2 23 base w8 (.slice a8 (xs++ii).length c8) (xs++ii)):=Jh (by rw[HI1.out];exact hown8)
     have HFX:Hid (Ext (fun b=>(Value.slice a xs.length c).ownBlock=some b) w1 w8):=Jh (((Ext.refl (fun b=>(Value.slice a xs.length c).ownBlock=some b) w1).alloc _).trans hx8)
     have HFB:Hid (∀ b,(Value.slice a8 (xs++ii).length c8).ownBlock=some b→(Value.slice a xs.length c).ownBlock=some b∨w1.heap.size≤b):=Jh (by rw[HI1.out];exact fun b hb=>(hfr8 b hb).imp id (fun h=>by first|omega|(simp at h;omega)|exact Nat.le_trans (Nat.le_succ _) (by simpa using h)))
     rw[←HI1.out]
     clear hown8 hx8 hfr8
     generalize (xs++ii).length=ln at *
     go_wp2_with fail
     go_meet
     exact ⟨a8,c8,rfl,HF,HFX,HFB⟩
  case rest =>
   obtain ⟨a1,c1,rfl,HO1,HX1,HN1⟩:=hcut
   clear HSB
   have hlx:(xs++ii).length+(ZS ks).length≤100000:=by have:=HL.out;simp only[List.length_append] at this ⊢;omega
   have HAS:Hid (xs++(ii++ZS ks)=(xs++ii)++ZS ks):=Jh (by rw[List.append_assoc])
   have HLX:=Lib.hid hlx
   clear hlx
   generalize hys:xs++ii=ys at *
   clear hys
   have hnb1:=(HX1.out.block w.heap.size (Array.getElem?_eq_some_iff.1 HNB.out).1 (fun h=>by have:=(HOB.out _ h).2;omega)).trans HNB.out
   have y5:wc.cell? ⟨w.heap.size,5,none⟩=some (.slice sa sn sc):=by rw[Lib.cell_of_heap hnb1];rfl
   clear hnb1 x0 x1 x5
   go_wp2_with fail
   go_loopg [1,5] sn (fun g v iv wr=>∃ (k:Nat) (a2:Option Addr) (c2:Nat),g=sn - k∧k≤sn∧iv=.int .i64 k∧v=.slice a2 (ys++ZS (ks.take k)).length c2∧Hid (Own St.cells 2 23 base wr (.slice a2 (ys++ZS (ks.take k)).length c2) (ys++ZS (ks.take k))) ∧
    Hid (Ext (fun b=>(Value.slice a xs.length c).ownBlock=some b) w1 wr)∧Hid (∀ b,(Value.slice a2 (ys++ZS (ks.take k)).length c2).ownBlock=some b→(Value.slice a xs.length c).ownBlock=some b∨w1.heap.size≤b))
   case atStart=>exact ⟨0,a1,c1,by omega,Nat.zero_le _,rfl,by rw[List.take_zero,ZS,List.append_nil],Jh (by rw[List.take_zero,ZS,List.append_nil];exact HO1.out),HX1,Jh (by rw[List.take_zero,ZS,List.append_nil];exact HN1.out)⟩
   case round =>
    obtain ⟨k,a2,c2,hg,hk,rfl,rfl,HO,HX,HN⟩:=hrel
    have HG:=Lib.hid hg
    clear hg
    have hnb2:=(HX.out.block w.heap.size (Array.getElem?_eq_some_iff.1 HNB.out).1 (fun h=>by have:=(HOB.out _ h).2;omega)).trans HNB.out
    replace y5:wr.cell? ⟨w.heap.size,5,none⟩=some (.slice sa sn sc):=by rw[Lib.cell_of_heap hnb2];rfl
    clear hnb2
    have HXW:Hid (Ext (fun b=>(Value.slice a xs.length c).ownBlock=some b) w wr):=Jh ((Ext.of_below HB0.out).trans HX.out)
    have HSD:Hid (∀ q,D q→q<w.heap.size→¬ (Value.slice a xs.length c).ownBlock=some q):=Jh (fun q hq _ h=>by have:=HDD.out q hq;have:=(HOB.out _ h).1;omega)
    have hzr:=HX.out.size
    have HZR:=Lib.hid hzr
    clear hzr
    by_cases hkl:k<sn
    ·obtain ⟨⟨⟨zn,zr⟩,zk,⟨b1,b2,b3⟩,⟨b4,b5,b6⟩,⟨d1,d2,d3⟩⟩,hx⟩:∃ x,vs[k]?=some x:=⟨_,List.getElem?_eq_getElem (by have:=HZ1.out;omega)⟩
     obtain ⟨m,hm⟩:∃ x,ks[k]?=some x:=⟨_,List.getElem?_eq_getElem (by have:=HZ1.out;have:=HI.out.2.1;omega)⟩
     obtain ⟨q,o,c7,e5,u0,u1,u2,u3,u4,u5⟩:=(HI.out.1.ext HXW.out HSD.out (fun _=>Nat.zero_lt_succ 5)).node6 hx
     injection e5 with e5 e6 e7
     clear e6 e7
     subst e5
     simp only at u0 u1 u2 u3 u4 u5
     have hnd:=(HI.out.2.2 k _ m hx hm).ext HXW.out HSD.out
     have hkk:(k:Int)<(sn:Int):=by omega
     have hle:=Z4b ks (k+1)
     rw[RE hm,List.length_append] at hle
     have HC:Hid (Calls Tryz.prog 18 #[.agg #[.int .i64 zn,.int .i64 zr,.string zk,.slice b1 b2 b3,.slice b4 b5 b6,.slice d1 d2 d3],.slice a2 (ys++ZS (ks.take k)).length c2] wr fun e w'=>SE base (.slice a2 (ys++ZS (ks.take k)).length c2) (ys++ZS (ks.take k)++m.ids) wr e w'):=Jh (HIH.out m (List.mem_of_getElem? hm) base a2 c2 _ D ⟨⟨zn,zr⟩,zk,⟨b1,b2,b3⟩,⟨b4,b5,b6⟩,⟨d1,d2,d3⟩⟩ wr HO.out hnd HDD.out (by have:=HBS.out;have:=HZ1.out;have:=HZR.out;omega) (by have:=HLX.out;rw[List.length_append];omega))
     have HM:=Lib.hid hm
     clear hnd hle hm hx
     have HE:Hid (ys++ZS (ks.take k)++m.ids=ys++ZS (ks.take (k+1))):=Jh (by rw[RE HM.out,List.append_assoc])
     generalize (ys++ZS (ks.take k)).length=lk at *
     go_wp2_with fail
     refine HC.out.mono ?_
     rintro e w5 ⟨v5,rfl,ho5,hx5,hn5⟩
     rw[HE.out] at ho5
     obtain ⟨a5,c5,rfl,-,-,-⟩:=ho5.slice (fun _=>rfl)
     have HO5:=Lib.hid ho5
     have HX5:Hid (Ext (fun b=>(Value.slice a xs.length c).ownBlock=some b) w1 w5):=Jh (HX.out.andThen hx5 (fun i hi h=>(HN.out i h).resolve_right (by omega)))
     have HN5:Hid (∀ b,(Value.slice a5 (ys++ZS (ks.take (k+1))).length c5).ownBlock=some b→(Value.slice a xs.length c).ownBlock=some b∨w1.heap.size≤b):=Jh (fun b hb=>by rcases hn5 b hb with h|h;exact HN.out b h;exact .inr (Nat.le_trans HZR.out h))
     clear ho5 hx5 hn5 HC
     generalize hlj:(ys++ZS (ks.take (k+1))).length=lj at *
     have HLJ:=Lib.hid hlj
     clear hlj
     go_wp2_with fail
     go_roundg (sn - (k+1))
     case measure=>rw[HG.out];omega
     case rel=>exact ⟨k+1,a5,c5,rfl,hkl,by go_num,by rw[HLJ.out],by rw[HLJ.out];exact HO5,HX5,by rw[HLJ.out];exact HN5⟩
    ·have hkk:¬ ((k:Int)<(sn:Int)):=by omega
     have HF:Hid (SE base (.slice a xs.length c) (xs++(ii++ZS ks)) w (.returned (.slice a2 (ys++ZS (ks.take k)).length c2)) wr):=Jh (by
      rw[HAS.out]
      have hto:ks.take k=ks:=List.take_of_length_le (by have:=HZ1.out;have:=HI.out.2.1;omega)
      have h1:=HO.out
      have h2:=HN.out
      rw[hto] at h1 h2 ⊢
      exact ⟨_,rfl,h1,HXW.out,fun b hb=>(h2 b hb).imp id (fun h=>by have:=HZ1.out;omega)⟩)
     generalize (ys++ZS (ks.take k)).length=lk at *
     go_wp2_with fail
     go_ret
     exact HF.out
theorem Z2p (n:Nd):Z4D n:=by
 induction n using Nd.ind with
 | _ i k az t ks ih =>
  intro base a c xs D x w ho hn hD hb hl
  obtain ⟨e1,e2,ha,hp,vs,hs,hk⟩:=hn.parts
  obtain ⟨⟨xn,xr⟩,xk,⟨aa,an,ac⟩,⟨ta,tn,tc⟩,⟨sa,sn,sc⟩⟩:=x
  simp only[Nd.id,Nd.kind,Nd.kids] at e1 e2 hk
  subst e1
  rw[Nd.ids] at hl ⊢
  exact Z02 base a c xs D xn xr xk aa ta sa an ac tn tc sn sc vs ks w ho hs hk hD hb hl ih
theorem S5 (n:Nd) (D:Nat→Prop) (x:NdV) (w:World) (hn:Zo D w x n) (hl:n.ids.length≤100000) :
  Calls Tryz.prog 18 #[x.val,.slice none 0 0] w fun e w'=>∃ v',e=.returned v'∧Own St.cells 2 23 w.heap.size w' v' n.ids∧Below w.heap.size w w':=by
 refine (Z2p n w.heap.size none 0 [] _ x w Own.nil hn.small (fun b h=>h.2) (Nat.le_refl _) (by simpa using hl)).mono ?_
 rintro e w' ⟨v',rfl,h1,h2,_⟩
 rw[List.nil_append] at h1
 exact ⟨v',rfl,h1,Ext.below (h2.mono (fun k _ h=>by simp[Value.ownBlock] at h))⟩
theorem Rq {t:Pcs} {k:Nat} {p:ByteArray × List Atr} (h:t[k]?=some p):Yi (t.take (k+1))=Yi (t.take k)+p.1.size:=by
 unfold Yi
 rw[List.take_add_one,h,Option.toList_some,List.map_append,List.sum_append]
 simp
theorem Z0A (t:Pcs) (k:Nat):Yi (t.take k)≤Yi t:=by
 conv=>rhs;rw[←List.take_append_drop k t]
 unfold Yi
 rw[List.map_append,List.sum_append]
 omega
theorem Se {l:List Nd} {k:Nat} {n:Nd} (h:l[k]?=some n):Y8 (l.take (k+1))=Y8 (l.take k)+n.lets:=by
 rw[List.take_add_one,h,Option.toList_some,V1,Y8,Y8];rfl
theorem Qm (l:List Nd) (k:Nat):Y8 (l.take k)≤Y8 l:=by
 conv=>rhs;rw[←List.take_append_drop k l]
 rw[V1]
 omega
def Z41 (n:Nd):Prop:=∀ (D:Nat→Prop) (x:NdV) (w:World),Zo D w x n→n.lets≤1000000 →
 Calls Tryz.prog 19 #[x.val] w fun e w'=>e=.returned (.int .i64 n.lets)∧Below w.heap.size w w'
theorem QA (D:Nat→Prop) (xn xr:Int) (xk:ByteArray) (aa ta sa:Option Addr) (an ac tn tc sn sc:Nat) (t:Pcs) (vs:List NdV) (ks:List Nd) (w:World) (hp:YF D w (.slice ta tn tc) t)
  (hs:Zw D NdV.cells 6 w (.slice sa sn sc) vs) (hn:Zb D w vs ks) (hl:Yi t+Y8 ks≤1000000) (ih:∀ n∈ks,Z41 n) :
  Calls Tryz.prog 19 #[.agg #[.int .i64 xn,.int .i64 xr,.string xk,.slice aa an ac,.slice ta tn tc,.slice sa sn sc]] w fun e w'=>e=.returned (.int .i64 ((Yi t+Y8 ks:Nat):Int))∧Below w.heap.size w w':=by
 have hsn:sn=vs.length∧vs.length≤9223372036854775807:=by
  obtain ⟨⟨a,c,e,h1,h2,_⟩,_⟩:=hs
  injection e with _ e2 _
  unfold maxLen at h2
  exact ⟨e2,Nat.le_trans h1 h2⟩
 have htn:tn=t.length∧t.length≤9223372036854775807:=by
  obtain ⟨a,c,e,h1,h2⟩:=hp.shape
  injection e with _ e2 _
  unfold maxLen at h2
  exact ⟨e2,Nat.le_trans h1 h2⟩
 have hsnn:sn≤9223372036854775807:=by omega
 have htnn:tn≤9223372036854775807:=by omega
 have hB0:Below w.heap.size w (w.alloc (.cells #[.int .i64 xn,.int .i64 xr,.string xk,.slice aa an ac,.slice ta tn tc,.slice sa sn sc] 28)):=(Below.refl _ _).alloc (Nat.le_refl _) _
 have hz1:(w.alloc (.cells #[.int .i64 xn,.int .i64 xr,.string xk,.slice aa an ac,.slice ta tn tc,.slice sa sn sc] 28)).heap.size=w.heap.size+1:=by simp
 have x4:(w.alloc (.cells #[.int .i64 xn,.int .i64 xr,.string xk,.slice aa an ac,.slice ta tn tc,.slice sa sn sc] 28)).cell? ⟨w.heap.size,4,none⟩=some (.slice ta tn tc):=by go_simp
 have x5:(w.alloc (.cells #[.int .i64 xn,.int .i64 xr,.string xk,.slice aa an ac,.slice ta tn tc,.slice sa sn sc] 28)).cell? ⟨w.heap.size,5,none⟩=some (.slice sa sn sc):=by go_simp
 have HZ1:=Jh (And.intro hsn htn)
 have HB0:=Lib.hid hB0
 have HI:=Jh (And.intro hs hn)
 have HP:=Lib.hid hp
 have HIH:=Lib.hid ih
 have HL:=Lib.hid hl
 clear hz1 hsn htn hB0 hs hn hp ih hl
 go_enter Tryz.func19,Tryz.ntmps19
 go_upto_region 1 with fail
 generalize (w.alloc (.cells #[.int .i64 xn,.int .i64 xr,.string xk,.slice aa an ac,.slice ta tn tc,.slice sa sn sc] 28))=w1 at *
 go_wp2_with fail
 go_loopg [3,4] tn (fun g v iv wr=>∃ k:Nat,g=tn - k∧k≤tn∧iv=.int .i64 k∧v=.int .i64 ((Yi (t.take k):Nat):Int)∧wr=w1)
 case atStart=>exact ⟨0,by omega,Nat.zero_le _,rfl,rfl,rfl⟩
 case round =>
  obtain ⟨k,hg,hk,rfl,rfl,hw⟩:=hrel
  subst wr
  have HG:=Lib.hid hg
  clear hg
  have htl:=Z0A t k
  have HTL:=Lib.hid htl
  clear htl
  by_cases hkl:k<tn
  ·obtain ⟨⟨tx,al⟩,hx⟩:∃ x,t[k]?=some x:=⟨_,List.getElem?_eq_getElem (by have:=HZ1.out;omega)⟩
   obtain ⟨b,o,c5,ms,e5,-,-,u0,-,-⟩:=HP.out.at hx
   injection e5 with e5 e6 e7
   clear e6 e7
   subst e5
   replace u0:=Z0 HB0.out u0
   have htl2:Yi (t.take k)+tx.size≤Yi t:=by have:=Z0A t (k+1);rwa [Rq hx] at this
   have HX:=Lib.hid hx
   have hkk:(k:Int)<(tn:Int):=by omega
   have hb1:((Yi (t.take k):Nat):Int)+((tx.size:Nat):Int)≤1000000:=by have:=HL.out;omega
   clear hx htl2
   generalize hla:Yi (t.take k)=la at *
   have HLA:=Lib.hid hla
   clear hla
   go_wp2_with fail
   go_roundg (tn - (k+1))
   case measure=>rw[HG.out];omega
   case rel=>exact ⟨k+1,rfl,hkl,by go_num,by rw[Rq HX.out,HLA.out];simp only[Value.int.injEq,true_and];first|(rw[IntKind.wrap_id] <;> omega)|(simp;omega)|go_num,rfl⟩
  ·have hkk:¬ ((k:Int)<(tn:Int)):=by omega
   have hto:t.take k=t:=List.take_of_length_le (by have:=HZ1.out;omega)
   rw[hto]
   clear hto HTL
   generalize hlt:Yi t=lt at *
   have HLT:=Lib.hid hlt
   clear hlt
   go_wp2_with fail
   go_loopg [3,5] sn (fun g v iv wr=>∃ j:Nat,g=sn - j∧j≤sn∧iv=.int .i64 j∧v=.int .i64 ((lt+Y8 (ks.take j):Nat):Int)∧Hid (Below w1.heap.size w1 wr))
   case atStart=>exact ⟨0,by omega,Nat.zero_le _,rfl,by rw[List.take_zero,Y8];rfl,Jh (Below.refl _ _)⟩
   case round =>
    obtain ⟨j,hg2,hj,rfl,rfl,HB⟩:=hrel
    have HG2:=Lib.hid hg2
    clear hg2
    have hls:=Qm ks j
    have HLS:=Lib.hid hls
    clear hls
    replace x5:=Z0 HB.out x5
    have HBW:=Jh (HB0.out.trans (HB.out.mono HB0.out.size))
    by_cases hjl:j<sn
    ·obtain ⟨⟨⟨zn,zr⟩,zk,⟨b1,b2,b3⟩,⟨b4,b5,b6⟩,⟨d1,d2,d3⟩⟩,hx⟩:∃ x,vs[j]?=some x:=⟨_,List.getElem?_eq_getElem (by have:=HZ1.out;omega)⟩
     obtain ⟨m,hm⟩:∃ x,ks[j]?=some x:=⟨_,List.getElem?_eq_getElem (by have:=HZ1.out;have:=HI.out.2.1;omega)⟩
     obtain ⟨q,o,c7,e5,u0,u1,u2,u3,u4,u5⟩:=(HI.out.1.below HBW.out (fun _=>Nat.zero_lt_succ 5)).node6 hx
     injection e5 with e5 e6 e7
     clear e6 e7
     subst e5
     simp only at u0 u1 u2 u3 u4 u5
     have hnd:=(HI.out.2.2 j _ m hx hm).belowW HBW.out
     have hjj:(j:Int)<(sn:Int):=by omega
     have hle:Y8 (ks.take j)+m.lets≤Y8 ks:=by have:=Qm ks (j+1);rwa [Se hm] at this
     have hsum:((lt+Y8 (ks.take j):Nat):Int)+((m.lets:Nat):Int)≤1000000:=by have:=HL.out;omega
     have HC:Hid (Calls Tryz.prog 19 #[.agg #[.int .i64 zn,.int .i64 zr,.string zk,.slice b1 b2 b3,.slice b4 b5 b6,.slice d1 d2 d3]] wr fun e w'=>e=.returned (.int .i64 m.lets)∧Below wr.heap.size wr w'):=Jh (HIH.out m (List.mem_of_getElem? hm) D ⟨⟨zn,zr⟩,zk,⟨b1,b2,b3⟩,⟨b4,b5,b6⟩,⟨d1,d2,d3⟩⟩ wr hnd (by have:=HL.out;omega))
     have HM:=Lib.hid hm
     clear hnd hle hm hx
     generalize hla:lt+Y8 (ks.take j)=la at *
     have HLA:=Lib.hid hla
     clear hla
     generalize hml:m.lets=ml at *
     have HML:=Lib.hid hml
     clear hml
     go_wp2_with fail
     refine HC.out.mono ?_
     rintro e w5 ⟨rfl,b5⟩
     have HB5:=Jh (HB.out.trans (b5.mono HB.out.size))
     clear b5 HC
     go_wp2_with fail
     go_roundg (sn - (j+1))
     case measure=>rw[HG2.out];omega
     case rel=>exact ⟨j+1,rfl,hjl,by go_num,by rw[Se HM.out,←Nat.add_assoc,HLA.out,HML.out];simp only[Value.int.injEq,true_and];first|(rw[IntKind.wrap_id] <;> omega)|(simp;omega)|go_num,HB5⟩
    ·have hjj:¬ ((j:Int)<(sn:Int)):=by omega
     have hto2:ks.take j=ks:=List.take_of_length_le (by have:=HZ1.out;have:=HI.out.2.1;omega)
     rw[hto2]
     clear hto2 HLS
     go_wp2_with fail
     go_ret
     exact ⟨by rw[HLT.out];rfl,HBW.out⟩
theorem Z0l (n:Nd):Z41 n:=by
 induction n using Nd.ind with
 | _ i k az t ks ih =>
  intro D x w hn hl
  obtain ⟨e1,e2,ha,hp,vs,hs,hk⟩:=hn.parts
  obtain ⟨⟨xn,xr⟩,xk,⟨aa,an,ac⟩,⟨ta,tn,tc⟩,⟨sa,sn,sc⟩⟩:=x
  simp only[Nd.id,Nd.kind,Nd.kids,Nd.text] at e1 e2 hk hp
  rw[Nd.lets] at hl ⊢
  exact QA D xn xr xk aa ta sa an ac tn tc sn sc t vs ks w hp hs hk hl ih
theorem Qi {α:Type} (p:α→Bool) {l:List α} {n:Nat} {x:α} (h:l[n]?=some x):(l.take (n+1)).countP p=(l.take n).countP p+(if p x=true then 1 else 0):=by
 rw[List.take_add_one,h,Option.toList_some,List.countP_append]
 congr 1
 by_cases hv:p x=true
 ·rw[if_pos hv];simp[List.countP_cons,hv]
 ·rw[if_neg hv];simp[List.countP_cons,hv]
theorem Sf {α:Type} (p:α→Bool) (l:List α) (n:Nat):(l.take n).countP p≤l.length:=by
 have h1:=List.countP_le_length (p:=p) (l:=l.take n)
 rw[List.length_take] at h1
 omega
theorem Z2h {I:List St} (h:I.Nodup) {s:St} (hs:s∈I):I.countP (fun t=>decide (t=s))=1:=by
 induction I with
 | nil=>cases hs
 | cons t I ih =>
  rw[List.nodup_cons] at h
  rw[List.countP_cons]
  by_cases e:t=s
  ·subst e
   have:I.countP (fun u=>decide (u=t))=0:=by
    rw[List.countP_eq_zero]
    intro u hu
    simp only[decide_eq_true_eq]
    rintro rfl
    exact h.1 hu
   simp[this]
  ·rcases List.mem_cons.1 hs with hh|hh
   ·exact absurd hh.symm e
   ·rw[ih h.2 hh];simp[e]
theorem U4 {l:List El} {mv:List RMv} {ws:List Z8} {ms:List OpD} {A D:List Ch} {n1 n2 n3 N:Nat} (ok:Sq l n1 n2 n3) (hA:Zh (ZC (Zt mv)) A) (hD:Zh (ZP l (ZC (Zt mv)) A) D) (hN:D.length+1≤N) :
  (YS l mv ws ms A N).ids.Perm ((l.filter ZI).map El.id)∧(YS l mv ws ms A N).ids.Nodup∧(YS l mv ws ms A N).lets=vis l l.length:=by
 have hlv:∀ s,(ZD l ms (XK (Zq ws).1) (ZC (Zt mv)) A).live s=true→s≠⟨0,0⟩:=fun s hs=>by
  obtain ⟨x,hx,_,rfl⟩:=Xn.1 hs
  exact Vu (ok.right x hx)
 have hp:=Z3C (ms:=ms) (rg:=XK (Zq ws).1) ok.unlike (fun x hx=>Vu (ok.right x hx)) hA (Y2 _) (WG _) (XB mv) hD hN
 have e0:ZJ (ZD l ms (XK (Zq ws).1) (ZC (Zt mv)) A).H 0 ⟨0,0⟩:=Y7 (XB mv)
 have hi:(YS l mv ws ms A N).ids=(ZD l ms (XK (Zq ws).1) (ZC (Zt mv)) A).ids N ⟨0,0⟩:=Vw.ids_tree _ hlv _ _
 refine ⟨by rw[hi];exact hp,by rw[hi];exact Vw.ids_nodup e0,?_⟩
 rw[YS,Vw.lets_tree]
 exact Z3w l ms _ _ A ok.unlike hp
theorem Z2x (v:Value) (l:List El) (mv:List RMv) (ws:List Z8) (ms:List OpD) (w:World) (hm:SA w v l mv ws ms) (ht:Xe w) :
  Calls Tryz.prog 6 #[v] w fun e w'=>e=.returned (.bool true)∧Below w.heap.size w w':=by
 obtain ⟨⟨a0,n0,c0⟩,⟨a1,n1,c1⟩,⟨a2,n2,c2⟩,⟨a3,n3,c3⟩,rfl,h0,h1,h2,h3⟩:=hm.ex
 simp only at h0 h1 h2 h3
 have e0:=h0.len
 have e1:=h1.len
 have e2:=h2.len
 have e3:=h3.len
 have hB0:Below w.heap.size w (w.alloc (.cells #[.slice a0 n0 c0,.slice a1 n1 c1,.slice a2 n2 c2,.slice a3 n3 c3] 39)):=(Below.refl _ _).alloc (Nat.le_refl _) _
 have hz1:(w.alloc (.cells #[.slice a0 n0 c0,.slice a1 n1 c1,.slice a2 n2 c2,.slice a3 n3 c3] 39)).heap.size=w.heap.size+1:=by simp
 have x0:(w.alloc (.cells #[.slice a0 n0 c0,.slice a1 n1 c1,.slice a2 n2 c2,.slice a3 n3 c3] 39)).cell? ⟨w.heap.size,0,none⟩=some (.slice a0 n0 c0):=by go_simp
 have x1:(w.alloc (.cells #[.slice a0 n0 c0,.slice a1 n1 c1,.slice a2 n2 c2,.slice a3 n3 c3] 39)).cell? ⟨w.heap.size,1,none⟩=some (.slice a1 n1 c1):=by go_simp
 have x2:(w.alloc (.cells #[.slice a0 n0 c0,.slice a1 n1 c1,.slice a2 n2 c2,.slice a3 n3 c3] 39)).cell? ⟨w.heap.size,2,none⟩=some (.slice a2 n2 c2):=by go_simp
 have x3:(w.alloc (.cells #[.slice a0 n0 c0,.slice a1 n1 c1,.slice a2 n2 c2,.slice a3 n3 c3] 39)).cell? ⟨w.heap.size,3,none⟩=some (.slice a3 n3 c3):=by go_simp
 have HIN:=Jh (And.intro h0 (And.intro h1 (And.intro h2 h3)))
 have HLN:=Jh (And.intro e0 (And.intro e1 (And.intro e2 e3)))
 have HB0:=Lib.hid hB0
 have HT:=Lib.hid ht
 have HZ1:=Lib.hid hz1
 have HASK:=Jh (Tk a0 a1 a2 a3 n0 n1 n2 n3 c0 c1 c2 c3 l (w.alloc (.cells #[.slice a0 n0 c0,.slice a1 n1 c1,.slice a2 n2 c2,.slice a3 n3 c3] 39)) (h0.below hB0) (by omega) (by omega) (by omega))
 have HAL:Hid (∀ W,Below w.heap.size w W→Calls Tryz.prog 11 #[] W fun e w'=>e=.returned (.bool true)∧Below W.heap.size W w'):=Jh (fun W hW=>T2 W (ht.below hW))
 clear h0 h1 h2 h3 e0 e1 e2 e3 hB0 hz1 ht hm
 go_enter Tryz.func6,Tryz.ntmps6
 go_upto_region 1 with fail
 generalize (w.alloc (.cells #[.slice a0 n0 c0,.slice a1 n1 c1,.slice a2 n2 c2,.slice a3 n3 c3] 39))=w1 at *
 go_wp2_with fail
 refine HASK.out.mono ?_
 rintro e w2 ⟨r,rfl,hr,b2⟩
 have HB2:=Jh (HB0.out.trans (b2.mono HB0.out.size))
 have HR:=Lib.hid hr
 replace x0:=Z0 b2 x0
 replace x1:=Z0 b2 x1
 replace x2:=Z0 b2 x2
 replace x3:=Z0 b2 x3
 clear hr HASK b2
 cases r with
 | false =>
  go_wp2_with fail
  refine (HAL.out w2 HB2.out).mono ?_
  rintro e w3 ⟨rfl,b3⟩
  have HB3:=Jh (HB2.out.trans (b3.mono HB2.out.size))
  clear b3
  go_wp2_with fail
  go_ret
  exact ⟨rfl,HB3.out⟩
 | true =>
  have HOK:=Jh (HR.out rfl)
  have HLE:Hid (l.length≤60∧mv.length≤60∧ws.length≤60∧ms.length≤30):=Lib.hid ⟨HOK.out.el,by rw[←HLN.out.2.1.1];exact HOK.out.mv,by rw[←HLN.out.2.2.1.1];exact HOK.out.ws,by rw[←HLN.out.2.2.2.1];exact HOK.out.ms⟩
  have HBU:=Jh (T1 a0 a1 a2 a3 n0 n1 n2 n3 c0 c1 c2 c3 l mv ws ms w2 (HIN.out.1.below HB2.out) (HIN.out.2.1.below HB2.out) (HIN.out.2.2.1.below HB2.out) (HIN.out.2.2.2.below HB2.out) HLE.out.1 HOK.out.unlike HLE.out.2.1 HLE.out.2.2.1 HLE.out.2.2.2)
  go_wp2_with fail
  refine HBU.out.mono ?_
  rintro e w3 ⟨A,D,N,⟨⟨xn,xr⟩,xk,⟨xa,xb,xc⟩,⟨xd,xe,xf⟩,⟨xg,xh,xi⟩⟩,⟨⟨yn,yr⟩,yk,⟨ya,yb,yc⟩,⟨yd,ye,yf⟩,⟨yg,yh,yi⟩⟩,rfl,hA,hD,hN,hx,hy,b3⟩
  simp only[NdV.val]
  have hz3:=b3.size
  replace x0:=Z1 (Z1 (Z0 b3 x0) (.cells #[.int .i64 xn,.int .i64 xr,.string xk,.slice xa xb xc,.slice xd xe xf,.slice xg xh xi] 28)) (.cells #[.int .i64 yn,.int .i64 yr,.string yk,.slice ya yb yc,.slice yd ye yf,.slice yg yh yi] 28)
  replace x1:=Z1 (Z1 (Z0 b3 x1) (.cells #[.int .i64 xn,.int .i64 xr,.string xk,.slice xa xb xc,.slice xd xe xf,.slice xg xh xi] 28)) (.cells #[.int .i64 yn,.int .i64 yr,.string yk,.slice ya yb yc,.slice yd ye yf,.slice yg yh yi] 28)
  replace x2:=Z1 (Z1 (Z0 b3 x2) (.cells #[.int .i64 xn,.int .i64 xr,.string xk,.slice xa xb xc,.slice xd xe xf,.slice xg xh xi] 28)) (.cells #[.int .i64 yn,.int .i64 yr,.string yk,.slice ya yb yc,.slice yd ye yf,.slice yg yh yi] 28)
  replace x3:=Z1 (Z1 (Z0 b3 x3) (.cells #[.int .i64 xn,.int .i64 xr,.string xk,.slice xa xb xc,.slice xd xe xf,.slice xg xh xi] 28)) (.cells #[.int .i64 yn,.int .i64 yr,.string yk,.slice ya yb yc,.slice yd ye yf,.slice yg yh yi] 28)
  have p0:((w3.alloc (.cells #[.int .i64 xn,.int .i64 xr,.string xk,.slice xa xb xc,.slice xd xe xf,.slice xg xh xi] 28)).alloc (.cells #[.int .i64 yn,.int .i64 yr,.string yk,.slice ya yb yc,.slice yd ye yf,.slice yg yh yi] 28)).cell? ⟨w3.heap.size,0,none⟩=some (.int .i64 xn):=by go_simp
  have q0:((w3.alloc (.cells #[.int .i64 xn,.int .i64 xr,.string xk,.slice xa xb xc,.slice xd xe xf,.slice xg xh xi] 28)).alloc (.cells #[.int .i64 yn,.int .i64 yr,.string yk,.slice ya yb yc,.slice yd ye yf,.slice yg yh yi] 28)).cell? ⟨w3.heap.size+1,0,none⟩=some (.int .i64 yn):=by go_simp
  have p1:((w3.alloc (.cells #[.int .i64 xn,.int .i64 xr,.string xk,.slice xa xb xc,.slice xd xe xf,.slice xg xh xi] 28)).alloc (.cells #[.int .i64 yn,.int .i64 yr,.string yk,.slice ya yb yc,.slice yd ye yf,.slice yg yh yi] 28)).cell? ⟨w3.heap.size,1,none⟩=some (.int .i64 xr):=by go_simp
  have q1:((w3.alloc (.cells #[.int .i64 xn,.int .i64 xr,.string xk,.slice xa xb xc,.slice xd xe xf,.slice xg xh xi] 28)).alloc (.cells #[.int .i64 yn,.int .i64 yr,.string yk,.slice ya yb yc,.slice yd ye yf,.slice yg yh yi] 28)).cell? ⟨w3.heap.size+1,1,none⟩=some (.int .i64 yr):=by go_simp
  have p2:((w3.alloc (.cells #[.int .i64 xn,.int .i64 xr,.string xk,.slice xa xb xc,.slice xd xe xf,.slice xg xh xi] 28)).alloc (.cells #[.int .i64 yn,.int .i64 yr,.string yk,.slice ya yb yc,.slice yd ye yf,.slice yg yh yi] 28)).cell? ⟨w3.heap.size,2,none⟩=some (.string xk):=by go_simp
  have q2:((w3.alloc (.cells #[.int .i64 xn,.int .i64 xr,.string xk,.slice xa xb xc,.slice xd xe xf,.slice xg xh xi] 28)).alloc (.cells #[.int .i64 yn,.int .i64 yr,.string yk,.slice ya yb yc,.slice yd ye yf,.slice yg yh yi] 28)).cell? ⟨w3.heap.size+1,2,none⟩=some (.string yk):=by go_simp
  have p3:((w3.alloc (.cells #[.int .i64 xn,.int .i64 xr,.string xk,.slice xa xb xc,.slice xd xe xf,.slice xg xh xi] 28)).alloc (.cells #[.int .i64 yn,.int .i64 yr,.string yk,.slice ya yb yc,.slice yd ye yf,.slice yg yh yi] 28)).cell? ⟨w3.heap.size,3,none⟩=some (.slice xa xb xc):=by go_simp
  have q3:((w3.alloc (.cells #[.int .i64 xn,.int .i64 xr,.string xk,.slice xa xb xc,.slice xd xe xf,.slice xg xh xi] 28)).alloc (.cells #[.int .i64 yn,.int .i64 yr,.string yk,.slice ya yb yc,.slice yd ye yf,.slice yg yh yi] 28)).cell? ⟨w3.heap.size+1,3,none⟩=some (.slice ya yb yc):=by go_simp
  have p4:((w3.alloc (.cells #[.int .i64 xn,.int .i64 xr,.string xk,.slice xa xb xc,.slice xd xe xf,.slice xg xh xi] 28)).alloc (.cells #[.int .i64 yn,.int .i64 yr,.string yk,.slice ya yb yc,.slice yd ye yf,.slice yg yh yi] 28)).cell? ⟨w3.heap.size,4,none⟩=some (.slice xd xe xf):=by go_simp
  have q4:((w3.alloc (.cells #[.int .i64 xn,.int .i64 xr,.string xk,.slice xa xb xc,.slice xd xe xf,.slice xg xh xi] 28)).alloc (.cells #[.int .i64 yn,.int .i64 yr,.string yk,.slice ya yb yc,.slice yd ye yf,.slice yg yh yi] 28)).cell? ⟨w3.heap.size+1,4,none⟩=some (.slice yd ye yf):=by go_simp
  have p5:((w3.alloc (.cells #[.int .i64 xn,.int .i64 xr,.string xk,.slice xa xb xc,.slice xd xe xf,.slice xg xh xi] 28)).alloc (.cells #[.int .i64 yn,.int .i64 yr,.string yk,.slice ya yb yc,.slice yd ye yf,.slice yg yh yi] 28)).cell? ⟨w3.heap.size,5,none⟩=some (.slice xg xh xi):=by go_simp
  have q5:((w3.alloc (.cells #[.int .i64 xn,.int .i64 xr,.string xk,.slice xa xb xc,.slice xd xe xf,.slice xg xh xi] 28)).alloc (.cells #[.int .i64 yn,.int .i64 yr,.string yk,.slice ya yb yc,.slice yd ye yf,.slice yg yh yi] 28)).cell? ⟨w3.heap.size+1,5,none⟩=some (.slice yg yh yi):=by go_simp
  have hb4:Below w3.heap.size w3 ((w3.alloc (.cells #[.int .i64 xn,.int .i64 xr,.string xk,.slice xa xb xc,.slice xd xe xf,.slice xg xh xi] 28)).alloc (.cells #[.int .i64 yn,.int .i64 yr,.string yk,.slice ya yb yc,.slice yd ye yf,.slice yg yh yi] 28)):=((Below.refl _ _).alloc (Nat.le_refl _) _).alloc (by simp) _
  have HB4:=Jh ((HB2.out.trans (b3.mono HB2.out.size)).trans (hb4.mono (by have:=HB2.out.size;omega)))
  have HX:=Jh (hx.belowW hb4)
  have HY:=Jh (hy.belowW hb4)
  have HTR:=Jh (And.intro hA (And.intro hD hN))
  skip
  clear b3 hb4 hx hy hA hD hN hz3 HBU
  go_upto_region 5 with fail
  generalize ((w3.alloc (.cells #[.int .i64 xn,.int .i64 xr,.string xk,.slice xa xb xc,.slice xd xe xf,.slice xg xh xi] 28)).alloc (.cells #[.int .i64 yn,.int .i64 yr,.string yk,.slice ya yb yc,.slice yd ye yf,.slice yg yh yi] 28))=w4 at *
  have HFT:=Jh (U4 (ws:=ws) (ms:=ms) HOK.out HTR.out.1 HTR.out.2.1 HTR.out.2.2)
  obtain ⟨TT,hTT⟩:=Je (YS l mv ws ms A N)
  rw[hTT] at HX HFT
  clear hTT HY HTR q0 q1 q2 q3 q4 q5
  have hil:TT.ids.length≤60:=by rw[HFT.out.1.length_eq,List.length_map];exact Nat.le_trans (List.length_filter_le _ _) HLE.out.1
  have HST:=Jh (S5 TT _ ⟨⟨xn,xr⟩,xk,⟨xa,xb,xc⟩,⟨xd,xe,xf⟩,⟨xg,xh,xi⟩⟩ w4 HX.out (by omega))
  simp only[NdV.val] at HST
  have HIL:=Lib.hid hil
  clear hil
  go_wp2_with fail
  refine HST.out.mono ?_
  rintro e w5 ⟨v5,rfl,ho5,b5⟩
  obtain ⟨a5,c5,rfl,-,-,-⟩:=ho5.slice (fun _=>rfl)
  have HI5:=Jh (ho5.slice (fun _=>rfl))
  have HB5:=Jh (HB4.out.trans (b5.mono HB4.out.size))
  have HX5:=Jh (HX.out.belowW b5)
  replace p0:=Z0 b5 p0
  replace p1:=Z0 b5 p1
  replace p2:=Z0 b5 p2
  replace p3:=Z0 b5 p3
  replace p4:=Z0 b5 p4
  replace p5:=Z0 b5 p5
  replace x0:=Z0 b5 x0
  have hn0:n0≤60:=by have:=HLE.out.1;have:=HLN.out.1.1;omega
  have hn00:n0=l.length:=HLN.out.1.1
  have HN0:=Lib.hid hn00
  clear hn00
  generalize hI:TT.ids=I at *
  have HI:=Lib.hid hI
  clear hI ho5 b5 HST x1 x2 x3 HX
  obtain ⟨il,hil⟩:=Je (I.length)
  have HIN2:=Lib.hid hil
  have hil60:il≤60:=by rw[←hil];exact HIL.out
  have HIX:Hid (Z4 St.cells 2 w5 (.slice a5 il c5) I):=Jh (by rw[←hil];exact HI5.out)
  rw[hil]
  clear hil HI5
  go_wp2_with fail
  go_loopg [7,8] n0 (fun g v iv wr=>∃ i:Nat,g=n0 - i∧i≤n0∧iv=.int .i64 i∧v=.int .i64 (((l.take i).countP ZI:Nat):Int)∧Hid (Below w5.heap.size w5 wr))
  case atStart=>exact ⟨0,by omega,Nat.zero_le _,rfl,by simp,Jh (Below.refl _ _)⟩
  case round =>
   obtain ⟨i,hg,hi,rfl,rfl,HB⟩:=hrel
   have HG:=Lib.hid hg
   clear hg
   replace x0:=Z0 HB.out x0
   have HBW:=Jh (HB5.out.trans (HB.out.mono HB5.out.size))
   have hcl:=Sf ZI l i
   have HCL:=Lib.hid hcl
   clear hcl
   by_cases hil:i<n0
   ·obtain ⟨⟨⟨en,er⟩,ec,eg⟩,hx⟩:∃ x,l[i]?=some x:=⟨_,List.getElem?_eq_getElem (by have:=HN0.out;omega)⟩
    obtain ⟨b,o,rfl,y0,y1,y2,y3⟩:=TX (HIN.out.1.below HBW.out) hx
    simp only at y0 y1 y2 y3
    have HXE:=Lib.hid hx
    have hii:(i:Int)<(n0:Int):=by omega
    have hcs:=Qi ZI hx
    have HCS:=Lib.hid hcs
    clear hx hcs
    generalize hcn:(l.take i).countP ZI=cn at *
    have hcn60:cn≤60:=by have:=HCL.out;have:=HN0.out;omega
    have HCN:=Lib.hid hcn
    clear hcn
    have go1:ZI ⟨⟨en,er⟩,ec,eg⟩=false→(l.take (i+1)).countP ZI=cn:=fun h=>by rw[HCS.out,h];simp
    have HGO:=Lib.hid go1
    clear go1
    by_cases h1:ec=0
    ·subst h1
     cases eg with
     | true =>
      have hcc:=HGO.out (by simp[ZI])
      have HCC:=Lib.hid hcc
      clear hcc
      go_wp2_with fail
      go_roundg (n0 - (i+1))
      case measure=>rw[HG.out];omega
      case rel=>exact ⟨i+1,rfl,hil,by go_num,by rw[HCC.out],HB⟩
     | false =>
      have hcc:(l.take (i+1)).countP ZI=cn+1:=by rw[HCS.out];simp[ZI]
      have HCC:=Lib.hid hcc
      clear hcc
      have hone:I.countP (fun t=>decide (t=(⟨en,er⟩:St)))=1:=by
       refine Z2h HFT.out.2.1 ?_
       rw[HFT.out.1.mem_iff]
       exact List.mem_map.2 ⟨⟨⟨en,er⟩,0,false⟩,List.mem_filter.2 ⟨List.mem_of_getElem? HXE.out,rfl⟩,rfl⟩
      have HONE:=Lib.hid hone
      clear hone
      go_wp2_with fail
      obtain ⟨wo,hwo⟩:∃ wo,wo=wr:=⟨_,rfl⟩
      subst hwo
      go_loopg [9,10] il (fun g v iv wr=>∃ k:Nat,g=il - k∧k≤il∧iv=.int .i64 k∧v=.int .i64 (((I.take k).countP (fun t=>decide (t=(⟨en,er⟩:St))):Nat):Int)∧Hid (Below wo.heap.size wo wr))
      case atStart=>exact ⟨0,by omega,Nat.zero_le _,rfl,by simp,Jh (Below.refl _ _)⟩
      case round =>
       obtain ⟨k,hg2,hk,rfl,rfl,HB2⟩:=hrel
       have HG2:=Lib.hid hg2
       clear hg2
       replace x0:=Z0 HB2.out x0
       replace y0:=Z0 HB2.out y0
       replace y1:=Z0 HB2.out y1
       have hcl2:=Sf (fun t=>decide (t=(⟨en,er⟩:St))) I k
       have HCL2:=Lib.hid hcl2
       clear hcl2
       by_cases hkl:k<il
       ·obtain ⟨⟨sn,sr⟩,hs⟩:∃ x,I[k]?=some x:=⟨_,List.getElem?_eq_getElem (by have:=HIN2.out;omega)⟩
        obtain ⟨b7,o7,c7,e7,hcs7⟩:=((HIX.out.below HB.out).below HB2.out).scells (by intro e;rw[e] at hs;simp at hs)
        injection e7 with e7 e8 e9
        clear e8 e9
        subst e7
        obtain ⟨z0,z1⟩:=hcs7 k _ hs
        simp only at z0 z1
        have hcs2:=Qi (fun t=>decide (t=(⟨en,er⟩:St))) hs
        have HCS2:=Lib.hid hcs2
        clear hs hcs2 hcs7
        have hkk:(k:Int)<(il:Int):=by omega
        generalize hcn2:(I.take k).countP (fun t=>decide (t=(⟨en,er⟩:St)))=cn2 at *
        have hcn260:cn2≤60:=by have:=HCL2.out;have:=HIN2.out;omega
        clear hcn2
        have HD:Hid (∀ q,Below wo.heap.size wo (wr.drewN q)):=Jh (fun q=>below_drewN HB2.out q)
        by_cases h2:sn=en
        ·by_cases h3:sr=er
         ·replace h2:=h2.symm
          replace h3:=h3.symm
          subst h2
          subst h3
          have hc3:(I.take (k+1)).countP (fun t=>decide (t=(⟨en,er⟩:St)))=cn2+1:=by rw[HCS2.out];simp
          have HC3:=Lib.hid hc3
          clear hc3
          go_wp2_with fail
          go_quiet (fail)
          go_wp2_with fail
          go_roundg (il - (k+1))
          case measure=>rw[HG2.out];omega
          case rel=>exact ⟨k+1,rfl,hkl,by go_num,by rw[HC3.out];go_num,Jh (HD.out _)⟩
         ·replace h2:=h2.symm
          subst h2
          have hc3:(I.take (k+1)).countP (fun t=>decide (t=(⟨en,er⟩:St)))=cn2:=by rw[HCS2.out];simp[h3]
          have HC3:=Lib.hid hc3
          clear hc3
          go_wp2_with fail
          go_quiet (fail)
          go_wp2_with fail
          go_roundg (il - (k+1))
          case measure=>rw[HG2.out];omega
          case rel=>exact ⟨k+1,rfl,hkl,by go_num,by rw[HC3.out],Jh (HD.out _)⟩
        ·skip
         have hc3:(I.take (k+1)).countP (fun t=>decide (t=(⟨en,er⟩:St)))=cn2:=by rw[HCS2.out];simp[h2]
         have HC3:=Lib.hid hc3
         clear hc3
         go_wp2_with fail
         go_quiet (fail)
         go_wp2_with fail
         go_roundg (il - (k+1))
         case measure=>rw[HG2.out];omega
         case rel=>exact ⟨k+1,rfl,hkl,by go_num,by rw[HC3.out],Jh (HD.out _)⟩
       ·have hkk:¬ ((k:Int)<(il:Int)):=by omega
        have hto:(I.take k).countP (fun t=>decide (t=(⟨en,er⟩:St)))=1:=by rw[List.take_of_length_le (by have:=HIN2.out;omega)];exact HONE.out
        rw[hto]
        clear hto HCL2
        have HBX:=Jh (HB.out.trans (HB2.out.mono HB.out.size))
        go_wp2_with fail
        go_roundg (n0 - (i+1))
        case measure=>rw[HG.out];omega
        case rel=>exact ⟨i+1,rfl,hil,by go_num,by rw[HCC.out];go_num,HBX⟩
    ·skip
     have hcc:=HGO.out (by simp[ZI,h1])
     have HCC:=Lib.hid hcc
     clear hcc
     go_wp2_with fail
     go_roundg (n0 - (i+1))
     case measure=>rw[HG.out];omega
     case rel=>exact ⟨i+1,rfl,hil,by go_num,by rw[HCC.out],HB⟩
   ·have hii:¬ ((i:Int)<(n0:Int)):=by omega
    have hto:(l.take i).countP ZI=il:=by rw[List.take_of_length_le (by have:=HN0.out;omega),←HIN2.out,HFT.out.1.length_eq,List.length_map,List.countP_eq_length_filter]
    rw[hto]
    clear hto HCL
    obtain ⟨wo,hwo⟩:∃ wo,wo=wr:=⟨_,rfl⟩
    subst hwo
    go_wp2_with fail
    go_loopg [11,12] n0 (fun g v iv wr=>∃ k:Nat,g=n0 - k∧k≤n0∧iv=.int .i64 k∧v=.int .i64 ((vis l k:Nat):Int)∧wr=wo)
    case atStart=>exact ⟨0,by omega,Nat.zero_le _,rfl,rfl,rfl⟩
    case round =>
     obtain ⟨k,hg2,hk,rfl,rfl,hw⟩:=hrel
     subst wr
     have HG2:=Lib.hid hg2
     clear hg2
     have hcl2:vis l k≤l.length:=Sf WV l k
     have HCL2:=Lib.hid hcl2
     clear hcl2
     by_cases hkl:k<n0
     ·obtain ⟨⟨⟨en,er⟩,ec,eg⟩,hx⟩:∃ x,l[k]?=some x:=⟨_,List.getElem?_eq_getElem (by have:=HN0.out;omega)⟩
      obtain ⟨b,o,rfl,y0,y1,y2,y3⟩:=TX (HIN.out.1.below HBW.out) hx
      simp only at y0 y1 y2 y3
      have hcs:=TZ hx
      have HCS:=Lib.hid hcs
      have hkk:(k:Int)<(n0:Int):=by omega
      clear hx hcs
      generalize hcn:vis l k=cn at *
      have hcn60:cn≤60:=by have:=HCL2.out;have:=HN0.out;omega
      clear hcn
      by_cases h1:ec=0
      ·subst h1
       have hcc:vis l (k+1)=cn:=by rw[HCS.out];simp[WV]
       have HCC:=Lib.hid hcc
       clear hcc
       go_wp2_with fail
       go_roundg (n0 - (k+1))
       case measure=>rw[HG2.out];omega
       case rel=>exact ⟨k+1,rfl,hkl,by go_num,by rw[HCC.out],rfl⟩
      ·cases eg with
       | true =>
        have hcc:vis l (k+1)=cn:=by rw[HCS.out];simp[WV]
        have HCC:=Lib.hid hcc
        clear hcc
        go_wp2_with fail
        go_roundg (n0 - (k+1))
        case measure=>rw[HG2.out];omega
        case rel=>exact ⟨k+1,rfl,hkl,by go_num,by rw[HCC.out],rfl⟩
       | false =>
        have hcc:vis l (k+1)=cn+1:=by rw[HCS.out];simp[WV,h1]
        have HCC:=Lib.hid hcc
        clear hcc
        go_wp2_with fail
        go_roundg (n0 - (k+1))
        case measure=>rw[HG2.out];omega
        case rel=>exact ⟨k+1,rfl,hkl,by go_num,by rw[HCC.out];go_num,rfl⟩
     ·have hkk:¬ ((k:Int)<(n0:Int)):=by omega
      have hto:vis l k=TT.lets:=by rw[HFT.out.2.2,show k=l.length by have:=HN0.out;omega]
      rw[hto]
      clear hto HCL2
      have hlt:TT.lets≤1000000:=by rw[HFT.out.2.2];have:vis l l.length≤l.length:=Sf WV l l.length;have:=HLE.out.1;omega
      have HLT:=Lib.hid hlt
      clear hlt
      skip
      have HXO:=Jh (HX5.out.belowW HB.out)
      replace p0:=Z0 HB.out p0
      replace p1:=Z0 HB.out p1
      replace p2:=Z0 HB.out p2
      replace p3:=Z0 HB.out p3
      replace p4:=Z0 HB.out p4
      replace p5:=Z0 HB.out p5
      go_wp2_with fail
      refine (HAL.out wo HBW.out).mono ?_
      rintro e w9 ⟨rfl,b9⟩
      have HB9:=Jh (HBW.out.trans (b9.mono HBW.out.size))
      replace p0:=Z0 b9 p0
      replace p1:=Z0 b9 p1
      replace p2:=Z0 b9 p2
      replace p3:=Z0 b9 p3
      replace p4:=Z0 b9 p4
      replace p5:=Z0 b9 p5
      have HLL:=Jh (Z0l TT _ ⟨⟨xn,xr⟩,xk,⟨xa,xb,xc⟩,⟨xd,xe,xf⟩,⟨xg,xh,xi⟩⟩ w9 (HXO.out.belowW b9) HLT.out)
      simp only[NdV.val] at HLL
      clear b9
      skip
      go_wp2_with fail
      refine HLL.out.mono ?_
      rintro e w10 ⟨rfl,b10⟩
      have HB10:=Jh (HB9.out.trans (b10.mono HB9.out.size))
      clear b10
      go_wp2_with fail
      go_ret
      exact ⟨rfl,HB10.out⟩
end Go.Proofs.YtlgipkemoldckaaGreatDoor
namespace Go.Proofs.YtlgipkemoldckaaGreatDoor
open Go.ChangeShapes Go.WideShapes Go.ChangeAt Go.RowKit
def YJ : List (String × DataW Unit) := [("math/bits.deBruijn32tab", Rows.laid_math_bits_deBruijn32tab), ("math/bits.deBruijn64tab", Rows.laid_math_bits_deBruijn64tab), ("internal/strconv.uint64pow10", Rows.laid_internal_strconv_uint64pow10)]
theorem Z3L : (YJ.filter fun x => x.1 == "internal/strconv.uint64pow10") = [("internal/strconv.uint64pow10", Lib.tabData .u64 Lib.pow10Tab)] := by kernel_rfl
theorem SF (W:World):laidMetH Tryz.prog YJ W=laidMet Tryz.prog YJ W:=by
 first|exact laidMetH_plain _ _ _ (by kernel_rfl)|exact Go.laidMetH_plain _ _ _ (by kernel_rfl)|exact MakeChecks.laidMetH_plain _ _ _ (by kernel_rfl)|rfl
theorem U2 {W:World} (h:laidMetH Tryz.prog YJ W):Xe W:=by
 rw[SF] at h
 have := h.filter (fun x => x.1 == "internal/strconv.uint64pow10")
 rw[Z3L] at this
 exact Lib.tabIs_of_head (g:=1) (by kernel_rfl) (t:=238) (by kernel_rfl) Tryz.underlying238 (by kernel_rfl) (by kernel_rfl) (by kernel_rfl) this
theorem Tryz.laidOut:laidOutB Tryz.prog=true:=by kernel_rfl
noncomputable def Ul (os:Os):World:=(World.holding Tryz.prog os ⟨#[],#[],[]⟩).layVars Tryz.prog YJ
theorem Tf (os:Os):(Ul os).os=os:=World.layVars_os _ _ _
theorem Ux (os:Os) (args:Array Value):laidMetH Tryz.prog YJ ((Ul os).forCall (fun _ _=>0) ⟨#[],args,[]⟩).memory:=by
 rw[SF]
 have e1:(YJ.filter fun x=>(YJ.map (·.1)).contains x.1)=YJ:=List.filter_eq_self.2 fun x hx=>List.contains_iff_mem.2 (List.mem_map.2 ⟨x,hx,rfl⟩)
 have e2:(YJ.filter fun x=>!(YJ.map (·.1)).contains x.1)=[]:=List.filter_eq_nil_iff.2 fun x hx=>by rw[List.contains_iff_mem.2 (List.mem_map.2 ⟨x,hx,rfl⟩)];simp
 have h:laidMet Tryz.prog YJ (Ul os):=laidMet_layVars (w0:=World.holding Tryz.prog os ⟨#[],#[],[]⟩) (YJ.map (·.1)) [] (by rw[e1];rfl) (by rw[e1];kernel_rfl) (by rw[e1];kernel_rfl) (by rw[e2];exact LaidIn.none)
 exact h.of_heap (by simp[World.memory,World.forCall,Input.heap])
end Go.Proofs.YtlgipkemoldckaaGreatDoor
namespace Go.Proofs.YtlgipkemoldckaaGreatDoor
open Go Go.ChangeShapes Go.WideShapes Go.ChangeAt Go.RowKit
theorem Sk (os:Os) (started:os.Started) (H:Type) (enc:TypeId × Value→H) :
  ReturnsInHanded {} Tryz.checked os 6 .any (fun w args=>(Rows.viewOnceSpec.pre enc Tryz.prog Tryz.f6 [] false w args∧laidMetH Tryz.prog YJ w)∧sizedMet enc Tryz.prog Tryz.f6 (OpenSpec.ofChange Rows.viewOnceSpec) false w args)
   (Rows.viewOnceSpec.post enc Tryz.prog Tryz.f6 false true false false):=by
 refine returnsInHanded_of_change_and (C:=Tryz.checked) (X:=fun w _=>laidMetH Tryz.prog YJ w) (fun _ _ _ hh h=>h.of_heap hh) Tryz.own started (by kernel_rfl) Tryz.func6
  (ChangeSpec.witness_shaped (enc:=enc) (C:=Tryz.checked) (os:=os) (X:=fun w _=>laidMetH Tryz.prog YJ w) false (Ul os) #[.agg #[.slice none 0 0,.slice none 0 0,.slice none 0 0,.slice none 0 0]] 8 (Tf os) (World.shaped_of_ZipB (by kernel_rfl) (by kernel_rfl)) (by kernel_rfl) (by kernel_rfl) (by kernel_rfl) (Ux os _)) ?_
 intro W base args ds gs before hval0 hW _ _ hL _
 have hval:∀ (j:Nat) t v,Tryz.f6.params[j]?=some t→args[j]?=some v→Value.okWide Tryz.prog W .any base t v:=hval0
 have hW':=hW
 obtain ⟨p,q,hA0,hV,rfl,hfz,hnd⟩:=hW
 have hA:DataW.TrodAll enc Tryz.prog W 0 (fun _=>true) true Tryz.f6.params.toList args.toList ds p:=hA0
 rw[Tryz.params6] at hA hval
 obtain ⟨v0,vs0,d0,ds0,p0,q0,hargs,rfl,rfl,h0,r0⟩:=trodAll_cons hA
 obtain ⟨rfl,rfl,rfl⟩:=trodAll_nil r0
 obtain rfl:args=#[v0]:=by cases args;simp_all
 obtain ⟨rfl,rfl⟩:=trodVars_none hV
 have k0:=h0
 have lt0:∀ x∈p0,x.block<W.heap.size:=by obtain ⟨m,hm⟩:=k0;exact DataW.trod_lt m _ _ _ hm
 obtain ⟨l,mv,ws,ms,hm0⟩:=T0 (hval 0 39 v0 rfl rfl) h0
 clear hA0 hval0
 refine (Z2x v0 l mv ws ms W hm0 (U2 hL)).mono fun e W' ⟨he,bel⟩=>?_
 subst he
 exact ⟨_,rfl,_,_,_,[],_,[],hW',trodAll_mk1 (shut_bool Tryz.underlying4 _),(trodAll_cons_mk (Below.trod Tryz.laidOut (by kernel_rfl) (of_decide_eq_true (by kernel_rfl)) k0 bel lt0) trodAll_mk0),rfl,bel.frame _,fun h=>by cases h⟩
theorem Z0r:(Rows.viewOnceRow.inPlace == Tryz.prog.inPlace 6)=true:=by kernel_rfl
theorem Z0d:(Rows.viewOnceRow.unfollowed == Tryz.prog.unfollowed 6)=true:=by kernel_rfl
theorem Z0b:(Rows.viewOnceRow.recurses == Tryz.prog.recurses 6)=true:=by kernel_rfl
theorem Z0u:(Rows.viewOnceRow.named == Tryz.prog.varsNamed 6)=true:=by kernel_rfl
theorem RU:joinedFacts Tryz.prog 6 Tryz.f6 Rows.viewOnceSpec Rows.viewOnceRow=true:=by
 unfold joinedFacts
 rw[Z0r,Z0d,Z0b,Z0u]
 kernel_rfl
theorem SM:Rows.ViewOnceSaid :=
 OpenClaim.holds_of_wide 6 Tryz.f6 rfl rfl rfl rfl rfl rfl rfl ⟨rfl,rfl,rfl,rfl,rfl⟩ rfl rfl rfl rfl rfl (by kernel_rfl) Tryz.func6 RU
  (of_decide_eq_true (by kernel_rfl)) (by unfold Func.isWrapper;first|(rw[if_pos (by decide +kernel)];kernel_rfl)|(rw[if_neg (by decide +kernel)];exact ⟨rfl,rfl⟩))
  (fun os started H enc _=>Sk os started H enc)
theorem viewOnce_card:Rows.ViewOnceCardSaid :=
 Claim7.holds_tied_plain_at .later [] [.data,.data,.data] true Rows.viewOnceCard.stood.harness false
  SM (fun _ h=>by cases h) (by kernel_rfl) (fun _ h=>by cases h) viewOnce_row_tie rfl ⟨rfl,rfl⟩ (by kernel_rfl) rfl
  (fun f fn hf hfn=>by
   obtain rfl : f = 6 := Option.some.inj ((show Tryz.prog.funcNamed "stemma/stemmalaw20.ViewOnce" = some 6 by kernel_rfl).symm.trans hf) |>.symm
   obtain rfl:fn=Tryz.f6:=(Option.some.inj (Tryz.func6.symm.trans hfn)).symm
   exact ⟨by kernel_rfl,fun j t ht=>by
    rw[Tryz.params6] at ht
    have hm:t∈[39]:=by simpa using Array.mem_of_getElem? ht
    have hall:([39].all fun u=>!Tryz.prog.wantsStandIn u)=true:=by kernel_rfl
    exact (show Tryz.prog.wantsStandIn t=false by simpa using List.all_eq_true.1 hall t hm)⟩)
  (by kernel_rfl)
#print axioms viewOnce_card
end Go.Proofs.YtlgipkemoldckaaGreatDoor
namespace Go.Proofs.YtlgipkemoldckaaGreatDoor
open Go.RowKit
inductive X3 (h:Zf) (live:St→Bool):St→St→Prop
 | off {s:St}:h s=none→X3 h live s ⟨0,0⟩
 | stop {s:St} {c:Ch}:h s=some c→(live c.under=true∨c.under=⟨0,0⟩)→X3 h live s c.under
 | up {s t:St} {c:Ch}:h s=some c→live c.under=false→c.under≠⟨0,0⟩→X3 h live c.under t→X3 h live s t
inductive XQ (h:Zf) (live:St→Bool):St→Nd→Prop
 | mk (top i:St) (k:ByteArray) (a:List Atr) (t:Pcs) (l:List Nd):(∀ n∈l,n.id≠⟨0,0⟩→X3 h live n.id top)→(∀ n∈l,n.id≠⟨0,0⟩→XQ h live n.id n)→XQ h live top (.mk i k a t l)
theorem XQ.kid {h:Zf} {live:St→Bool} {top:St} {n k:Nd} (u:XQ h live top n) (hk:k∈n.kids) (h0:k.id≠⟨0,0⟩):X3 h live k.id top∧XQ h live k.id k:=by
 cases u with
 | mk _ i kd a t l h1 h2=>exact ⟨h1 k hk h0,h2 k hk h0⟩
def Z4L (h:Zf) (live:St→Bool) (b top:St):Prop:=(b=top∧(live b=true∨b=⟨0,0⟩))∨(live b=false∧b≠⟨0,0⟩∧X3 h live b top)
theorem Vw.row_mem {V:Vw} {n:Nat} {b:St} {k:Nd} (h:k∈V.row (n+1) b):∃ c∈ZQ V.H b,(V.live c.block=true∧k=V.nd c.block (V.row n c.block))∨(V.live c.block=false∧k∈V.row n c.block):=by
 rw[Vw.row,List.mem_flatMap] at h
 obtain ⟨c,hc,hk⟩:=h
 refine ⟨c,hc,?_⟩
 by_cases hl:V.live c.block=true
 ·rw[if_pos hl,List.mem_singleton] at hk
  exact .inl ⟨hl,hk⟩
 ·rw[if_neg hl] at hk
  exact .inr ⟨by simpa using hl,hk⟩
theorem TY {l:List El} {ms:List OpD} {rg:St→List Atr} {h:Zf} {A:List Ch} (h0:h ⟨0,0⟩=none):∀ (n:Nat) (b top:St),Z4L h (Y4 l) b top→∀ k∈(ZD l ms rg h A).row n b,X3 h (Y4 l) k.id top∧XQ h (Y4 l) k.id k
 | 0,b,top,_,k,hk=>by simp[Vw.row] at hk
 | n+1,b,top,ht,k,hk=>by
  obtain ⟨c,hc,hh⟩:=Vw.row_mem hk
  obtain ⟨h1,h2⟩:=Yq hc
  have h1:ZP l h A c.block=some c:=h1
  have hn0:c.block≠⟨0,0⟩:=fun e=>by rw[e,Y7 h0] at h1;cases h1
  have near:X3 h (Y4 l) c.block top:=by
   cases e:h c.block with
   | some d =>
    rw[YR e] at h1
    cases h1
    rcases ht with ⟨rfl,hb⟩|⟨hb1,hb2,hb3⟩
    ·rw[←h2];rw[←h2] at hb;exact .stop e hb
    ·rw[←h2] at hb1 hb2 hb3;exact .up e hb1 hb2 hb3
   | none =>
    have hb0:b=⟨0,0⟩:=by
     by_cases kk:Vh l A c.block
     ·rw[Xl e kk] at h1
      have:=Option.some.inj h1
      rw[←h2,←this];rfl
     ·rw[XL e kk] at h1;cases h1
    rcases ht with ⟨rfl,_⟩|⟨_,hb2,_⟩
    ·rw[hb0];exact .off e
    ·exact absurd hb0 hb2
  rcases hh with ⟨hl,rfl⟩|⟨hl,hk⟩
  ·have ih:=TY (ms:=ms) (rg:=rg) (A:=A) h0 n c.block c.block (.inl ⟨rfl,.inl hl⟩)
   exact ⟨near,.mk _ _ _ _ _ _ (fun m hm _=>(ih m hm).1) (fun m hm _=>(ih m hm).2)⟩
  ·exact TY h0 n c.block top (.inr ⟨hl,hn0,near⟩) k hk
theorem Z1O {l:List El} {ms:List OpD} {rg:St→List Atr} {h:Zf} {A:List Ch} (h0:h ⟨0,0⟩=none) (first:Pcs) (n:Nat):XQ h (Y4 l) ⟨0,0⟩ ((ZD l ms rg h A).tree first n):=by
 suffices all:∀ k∈((if first=[] then [] else [Nd.mk ⟨0,0⟩ Zx [] first []])++(ZD l ms rg h A).row n ⟨0,0⟩),k.id≠⟨0,0⟩→X3 h (Y4 l) k.id ⟨0,0⟩∧XQ h (Y4 l) k.id k from
  .mk _ _ _ _ _ _ (fun k hk hk0=>(all k hk hk0).1) (fun k hk hk0=>(all k hk hk0).2)
 intro k hk hk0
 rw[List.mem_append] at hk
 rcases hk with hk|hk
 ·exfalso
  split at hk
  ·simp at hk
  ·rw[List.mem_singleton] at hk;rw[hk] at hk0;exact hk0 rfl
 ·exact TY h0 n _ _ (.inl ⟨rfl,.inr rfl⟩) k hk
end Go.Proofs.YtlgipkemoldckaaGreatDoor
