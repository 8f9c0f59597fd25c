/- OplogAnew, part 11 of what the proof leans on (made short by a program). -/
import Derived.Test.YtgmdimbiipemhaaGreatDoorAnZ10
set_option linter.unusedSimpArgs false
set_option linter.unusedVariables false
set_option linter.unusedSectionVars false
set_option maxRecDepth 20000
set_option maxHeartbeats 30000000
namespace Go.Proofs.YtgmdimbiipemhaaGreatDoor
open Go.RowKit Go.Deep
attribute [local go_sem] Oper.semAt_some
theorem Z0.part9 {α:Type} {ea:α→List Value} {q:Nat} {w:World} {g o n cap lo m:Nat} {l:List α} (h:Z0 ea q w (.slice (some ⟨g,o,none⟩) n cap) l) (hm:((l.drop lo).take m).length=m) (hmx:m≤maxLen) :
  Z0 ea q w (.slice (some ⟨g,o+lo*q,none⟩) m m) ((l.drop lo).take m):=by
 obtain ⟨a,c,e,h1,h2,h3⟩:=h
 simp only[Value.slice.injEq] at e
 obtain ⟨e1,e2,e3⟩:=e
 refine ⟨_,m,by rw[hm],by rw[hm];exact Nat.le_refl _,hmx,fun hne=>⟨g,o+lo*q,rfl,fun i x hx j u hj=>?_⟩⟩
 have hl:l≠[]:=fun e=>hne (by rw[e];simp)
 obtain ⟨b,o2,e4,h4⟩:=h3 hl
 rw[←e1] at e4
 simp only[Option.some.injEq,Addr.mk.injEq] at e4
 obtain ⟨rfl,rfl,_⟩:=e4
 rw[List.getElem?_take] at hx
 split at hx
 ·rw[List.getElem?_drop] at hx
  have:=h4 (lo+i) x hx j u hj
  rw[Nat.add_mul] at this
  rw[show o+lo*q+i*q+j=o+(lo*q+i*q)+j by omega]
  exact this
 ·cases hx
theorem LT.off {base:Nat} {w w' w'':World} {D D':DSh} {A A':Z4} {lb:Nat} {vo vo':Value} {L':List OpD} {sy':Int} {S:Nat→Prop} (h:LT base w D A lb vo w' D' A' vo' L' sy') (hx:Ext S w' w'') (hf:∀ b,Wo D' A' b→¬ S b) (hu:∀ b,YD w' b=some 5→¬ S b) (hl:¬ S lb) (ho:∀ b,vo'.ownBlock=some b→¬ S b) (hw:∀ b,S b→w.heap.size≤b):LT base w D A lb vo w'' D' A' vo' L' sy' :=
 ⟨h.disk.ext hx hf (fun b _ ht=>hu b ht),h.pb,⟨(hx.block lb h.log.b.lt hl).trans h.log.b,h.log.o.ext hx ho,h.log.lo,h.log.wf⟩,h.ext.andThen hx (fun i hi hs=>absurd (hw i hs) (by omega)),h.foot,h.own⟩
theorem Su.below1 {b lo:Nat} {l:List UInt8} {W W':World} (h:Su b lo l W) (hb:Below W.heap.size W W'):Su b lo l W':=by
 obtain ⟨v,lr,h1,h2⟩:=h
 exact ⟨v,lr,(hb.block b (Array.getElem?_eq_some_iff.1 h1).1).trans h1,h2.below1 hb⟩
theorem Z76 {L:List OpD} (h:Ve L) {k:Nat} (hk:k≤chN L.length):(Ze (WO L k)).length≤204*L.length+15*k:=by
 have h1:=Z3n (ls:=WO L k) (fun l hl=>by
  obtain ⟨j,hj,rfl⟩:=List.mem_map.1 hl
  exact Sc h (by have:=List.mem_range.1 hj;omega))
 rw[Sh,List.length_take] at h1
 have h2:(WO L k).length=k:=by simp[WO]
 rw[h2] at h1
 omega
theorem Z2e {l:List UInt8} {j:Nat} (h:j<l.length):(Lib.byteCells l)[j]?=(u8c l[j])[0]?:=by
 unfold Lib.byteCells
 rw[List.getElem?_map,List.getElem?_eq_getElem h]
 rfl
def QI (base:Nat) (w:World) (D:DSh) (A:Z4) (lb:Nat) (vo:Value) (L:List OpD) (e:Ending) (w':World):Prop :=
 e=.returned (.int .i64 0)∧∃ fb D',fb∉A.ids∧LT base w D A lb vo w' D' (Wy fb (Ze (YC L)) A) vo L L.length
theorem SU {base:Nat} {w:World} {D:DSh} {A:Z4} {lb:Nat} {vo:Value} {L:List OpD} {sy:Int} (hd:Zd base w D A) (hbw:base≤w.heap.size) (hl:YN base w D.pb lb vo L sy) {N:Nat} (hsm:A.Small N) (hN:N≤800000) (hfl:A.files.length≤7) (hL:L.length≤1000000) (hgl:Ve L) (hsz:(Ze (YC L)).length≤1048576) :
  Calls Tryz.prog 42 #[.pointer (some ⟨lb,0,none⟩)] w fun e w'=>QI base w D A lb vo L e w':=by
 obtain ⟨va,vc,hvo,hcap,hmax,-⟩:=hl.o.slice OpD.len
 unfold maxLen at hmax
 have hcl0:=hl.b.c0
 have hcl1:=hl.b.c1
 rw[hvo] at hcl1
 have HH:=Jh (And.intro hd (And.intro hbw (And.intro hl (And.intro hsm (And.intro hgl hsz)))))
 have HVO:=Lib.hid hvo
 have hll:=hl.b.lt
 clear hd hbw hl hsm hgl hsz hvo
 refine (callsIn_wide (n:=7)).1 ?_
 refine callsIn_of_wp_marks Tryz.func42 rfl trivial ?_ rfl
 simp only[Tryz.ntmps42,List.size_toArray,List.length_cons,List.length_nil,Nat.reduceAdd,Nat.reduceSub,Array.replicate_succ,Array.replicate_zero,List.push_toArray,List.append_toArray,List.nil_append,List.cons_append]
 gi_wp2
 refine ⟨trivial,?_⟩
 obtain ⟨b,hb⟩:=Je (w.heap.size+1)
 obtain ⟨w1,hw1⟩:=Je ((w.alloc (.cells #[.int .i64 0] 25)).alloc (.cells #[.slice none 0 0,.int .i64 0,.int .i8 0] 150))
 have hz1:w1.heap.size=b+1:=by rw[←hw1];simp;omega
 have hb1:Below w.heap.size w w1:=by rw[←hw1];exact ((Below.refl _ w).alloc (Nat.le_refl _) _).alloc (by simp) _
 have hr1:w1.heap[w.heap.size]?=some (.cells #[.int .i64 0] 25 (0,0)):=by
  rw[←hw1,Below.heap_alloc _ _ _ (by simp)]
  exact World.alloc_heap_new w _
 have hbf1:w1.heap[b]?=some (.cells #[.slice none 0 0,.int .i64 0,.int .i8 0] 150 (0,0)):=by
  have:=World.alloc_heap_new (w.alloc (.cells #[.int .i64 0] 25)) (.cells #[.slice none 0 0,.int .i64 0,.int .i8 0] 150)
  rw[World.size_alloc,hb,hw1] at this
  exact this
 rw[hw1,hb]
 clear hw1
 refine (callsIn_wide.2 (Z5n va L.length vc _)).mono ?_
 rintro e w2 ⟨rfl,rfl⟩
 obtain ⟨W0,hW0⟩:=Je ((w1.alloc (.cells #[.slice va L.length vc] 24)).alloc (.cells #[.int .i64 200] 3))
 have hz0:W0.heap.size=b+3:=by rw[←hW0];simp;omega
 have hb0:Below w1.heap.size w1 W0:=by rw[←hW0];exact ((Below.refl _ w1).alloc (Nat.le_refl _) _).alloc (by simp) _
 have hs0:W0.heap[b+1]?=some (.cells #[.slice va L.length vc] 24 (0,0)):=by
  rw[←hW0,Below.heap_alloc _ _ _ (by simp;omega),←hz1]
  exact World.alloc_heap_new w1 _
 have hn0:W0.heap[b+2]?=some (.cells #[.int .i64 200] 3 (0,0)):=by
  have:=World.alloc_heap_new (w1.alloc (.cells #[.slice va L.length vc] 24)) (.cells #[.int .i64 200] 3)
  rw[World.size_alloc,hW0,hz1] at this
  exact this
 rw[hW0,hz1]
 have hbf0:W0.heap[b]?=some (.cells #[.slice none 0 0,.int .i64 0,.int .i8 0] 150 (0,0)):=(hb0.block b (by omega)).trans hbf1
 have HW0:=Jh (And.intro (hb1.trans (hb0.mono hb1.size)) (And.intro ((hb0.block _ (by omega)).trans hr1) (And.intro hs0 hn0)))
 have HZ:=Jh (And.intro hz0 hb)
 clear hW0 hz1 hb1 hr1 hbf1 hb0
 gi_wp2
 obtain ⟨g,hg⟩:∃ g,0<L.length→va=some ⟨g,0,none⟩:=by
  rcases HH.out.2.2.1.o.eq_slice with ⟨_,e⟩|⟨g,c,e,_⟩
  ·exact ⟨0,fun h=>by rw[e] at h;simp at h⟩
  ·rw[HVO.out] at e
   simp only[Value.slice.injEq] at e
   exact ⟨g,fun _=>e.1⟩
 refine Z5d (U:=Nat) (by omega) (gf:=128) (lb:=#[.pointer (some ⟨b+1,0,none⟩),.pointer (some ⟨b+1+1,0,none⟩)]) rfl (enters_of Tryz.func128 (by kernel_rfl) rfl)
  (fun k:Nat=>#[.slice (some ⟨g,200*k*26,none⟩) (chM L.length k) (chM L.length k)]) (fun _=>rfl) (fun k=>k=b∨W0.heap.size+1<k) (fun k e=>by omega) (List.range (chN L.length))
  (fun pre X=>pre=List.range pre.length∧Su b (W0.heap.size+2) (Ze (WO L pre.length)) X∧Ext (fun k=>k=b) W0 X)
  (fun pre X X' hh hx=>?_)
  (Z3K 6 (by omega) (b+1) (b+1+1) va g vc L.length hg _ W0 (cell_of_one hs0) (cell_of_one hn0) hcap (by omega) (by show ¬ (b+1=b∨W0.heap.size+1<b+1);omega) (by show ¬ (b+1+1=b∨W0.heap.size+1<b+1+1);omega)) ⟨rfl,⟨_,_,hbf0,Own.nil⟩,Ext.refl _ _⟩ ?_ ?_
 ·obtain ⟨h1,⟨v,lr,h2,h3⟩,h4⟩:=hh
  have hlt:=(Array.getElem?_eq_some_iff.1 h2).1
  exact ⟨h1,⟨v,lr,(hx.block _ hlt (by omega)).trans h2,h3.ext hx (fun i hi e=>by have:=(h3.blk i hi).1;omega)⟩,h4.andThen hx (fun i hi e=>by omega)⟩
 ·rintro l pre k X ⟨hp1,hbuf,hx⟩ hpx hlt
  have hk:k=pre.length∧k<chN L.length:=by
   obtain ⟨t,ht⟩:=hpx
   have h5:=congrArg (fun z=>z[pre.length]?) ht
   simp only[List.append_assoc,List.singleton_append,List.getElem?_append_right (Nat.le_refl _),Nat.sub_self,List.getElem?_cons_zero] at h5
   obtain ⟨h6,h7⟩:=List.getElem?_eq_some_iff.1 h5.symm
   simp at h6 h7
   exact ⟨h7.symm,by omega⟩
  obtain ⟨hk1,hk2⟩:=hk
  have HPR:=Jh (And.intro hp1 (And.intro hbuf hx))
  have HK1:=Jh (And.intro hk1 hpx)
  clear hp1 hbuf hx hk1 hpx
  gi_wp2
  refine ⟨Ext.refl _ _,HPR.out,fun W2 ⟨hq1,hbuf2,hx2⟩ hxx hdf hlp=>?_⟩
  have HQ1:=Jh (And.intro hq1 (And.intro hbuf2 (And.intro hx2 (And.intro hdf hlp))))
  have hL0:0<L.length:=by unfold chN at hk2;omega
  obtain rfl:=hg hL0
  have hown2:Own OpD.cells 26 68 base W2 (.slice (some ⟨g,0,none⟩) L.length vc) L:=by
   have h5:=HH.out.2.2.1.o
   rw[HVO.out] at h5
   exact (h5.below1 HW0.out.1).ext hx2 (fun i hi e=>by have:=(h5.blk i hi).2;have:=HZ.out;omega)
  have hch:Z0 OpD.cells 26 W2 (.slice (some ⟨g,200*k*26,none⟩) (chM L.length k) (chM L.length k)) (Wi L k):=by
   have h5:=Z0.part9 (lo:=200*k) (m:=chM L.length k) (hown2.slice OpD.len) (by rw[List.length_take,List.length_drop];unfold chM;omega) (by unfold chM maxLen;omega)
   rw[Nat.zero_add] at h5
   have e5:(L.drop (200*k)).take (chM L.length k)=Wi L k:=by
    unfold Wi chM
    rw[List.take_eq_take_iff,List.length_drop]
    omega
   rwa [e5] at h5
  have hgk:=Sc HH.out.2.2.2.2.1 hk2
  obtain ⟨c,hc⟩:=Je (chM L.length k)
  rw[hc] at hch ⊢
  have HCH:=Jh (And.intro hch (And.intro hgk hc))
  have hz2:W0.heap.size+2≤W2.heap.size:=by
   obtain ⟨lp,hl5⟩:=hlp
   have:=(Array.getElem?_eq_some_iff.1 hl5).1
   omega
  clear hq1 hbuf2 hx2 hxx hdf hlp hown2 hch hgk hc
  refine wpIn_block ?_
  gi_wp2
  refine ⟨trivial,CallsIn.inRound l (callsIn_wide.2 ((Q1 _ (Wi L k) _ HCH.out.1 (fun x hx=>(HCH.out.2.1.2.2.1 x hx).2) (by have:=HCH.out.2.1.2.1;omega)).mono ?_))⟩
  rintro e w3 hp
  unfold Z2J at hp
  rcases hp with ⟨-,-,-,-,v,rfl,hown,hb3⟩|⟨s,n,hc,rfl,hb3⟩
  ·have HOWN:=Jh (And.intro hown hb3)
   obtain ⟨va3,vc3,hv3,-,-,hcs3⟩:=hown.slice Z7
   have hfl3:0<(ZT (Wi L k)).length:=by rw[XE];omega
   obtain ⟨g3,o3,hva3,hcell3⟩:=hcs3 (fun e=>by rw[e] at hfl3;simp at hfl3)
   have hg3:W2.heap.size≤g3:=(hown.blk g3 (by rw[hv3,hva3];rfl)).1
   subst hv3
   subst hva3
   have HC3:=Lib.hid hcell3
   clear hcs3 hcell3 hown hb3
   gi_wp2
   have hkl:=HK1.out.1
   have hj2:=HQ1.out.2.1.below1 HOWN.out.2
   have hlim:(Ze (WO L pre.length)).length+(ZT (Wi L k)).length≤140737488355328:=by
    have h1:=Z76 HH.out.2.2.2.2.1 (show k≤chN L.length by omega)
    have h2:(ZT (Wi L k)).length≤65547:=by rw[XE];have:=HCH.out.2.1.2.2.2;omega
    rw[←hkl]
    unfold chN at h1 hk2
    omega
   have hz:=HZ.out.1
   refine ⟨trivial,CallsIn.inRound l (callsIn_wide.2 ((Any.Buffer_Write_any Tryz.bufWF b b (Lib.byteCells (Ze (WO L pre.length))) (Lib.byteCells (ZT (Wi L k))) ⟨g3,o3,none⟩ (ZT (Wi L k)).length vc3 w3 (hj2.is_ (by omega)) (by have:=HOWN.out.2.size;omega) (Lib.byteCells_one _) (Lib.byteCells_length _) (by show g3≠b;omega) (fun j u hj=>?_) (Lib.byteCells_one _) (by rw[Lib.byteCells_length];exact hlim)).mono ?_))⟩
   ·have hjl:=(List.getElem?_eq_some_iff.1 hj).1
    rw[Lib.byteCells_length] at hjl
    have h5:=HC3.out j (ZT (Wi L k))[j] (List.getElem?_eq_getElem hjl) 0 u (by rw[Z2e hjl] at hj;exact hj)
    rw[Nat.mul_one,Nat.add_zero] at h5
    have e5:(⟨g3,o3,none⟩:Addr).add j=⟨g3,o3+j,none⟩:=by
     unfold Addr.add
     split
     ·next e=>subst e;rfl
     ·rfl
    rw[e5]
    exact h5
   ·rintro e w4 ⟨rfl,hb4,hB4,hO4⟩
    have HB4:=Jh (And.intro hb4 (And.intro hB4 hO4))
    clear hb4 hB4 hO4 hj2 hkl hlim hz
    gi_wp2
    have hkl:=HK1.out.1
    have hz:=HZ.out.1
    have hkeep:∀ i o,W2.heap[i]?=some o→i<W2.heap.size→i≠b→(∀ c fz,o≠.cells c 5 fz)→w4.heap[i]?=some o:=fun i o h1 h2 h3 h4=>HB4.out.2.2 i o ((HOWN.out.2.block i h2).trans h1) (fun e=>h3 (Option.some.inj e)) h4
    have hx2:=HQ1.out.2.2.1
    have hB24:Below b W2 w4:=(HOWN.out.2.mono (by omega)).trans HB4.out.2.1
    have k1:w4.heap[b+1]?=W0.heap[b+1]?:=by
     rw[HW0.out.2.2.1]
     exact hkeep _ _ ((hx2.block _ (by omega) (by omega)).trans HW0.out.2.2.1) (by omega) (by omega) (fun c fz e=>by cases e)
    have k2:w4.heap[b+2]?=W0.heap[b+2]?:=by
     rw[HW0.out.2.2.2]
     exact hkeep _ _ ((hx2.block _ (by omega) (by omega)).trans HW0.out.2.2.2) (by omega) (by omega) (fun c fz e=>by cases e)
    have k3:=hkeep _ _ HQ1.out.2.2.2.1 (by omega) (by omega) (fun c fz e=>by cases e)
    obtain ⟨lp,hlp⟩:=HQ1.out.2.2.2.2
    have k4:=hkeep _ _ hlp (by omega) (by omega) (fun c fz e=>by cases e)
    have hXX:Ext (fun k=>k=b∨W0.heap.size+1<k) W2 w4:=⟨hB24.os,hB24.tape,hB24.output,hB24.size,fun i hi hs=>by
     by_cases h1:i<b
     ·exact hB24.block i h1
     ·by_cases h2:i=b+1
      ·subst h2;rw[k1,hx2.block _ (by omega) (by omega)]
      ·by_cases h3:i=b+2
       ·subst h3;rw[k2,hx2.block _ (by omega) (by omega)]
       ·by_cases h4:i=W0.heap.size
        ·subst h4;rw[k3,HQ1.out.2.2.2.1]
        ·have h5:i=W0.heap.size+1:=by omega
         subst h5;rw[k4,hlp]⟩
    refine ⟨⟨?_,?_,hx2.andThen hXX (fun i hi e=>by omega)⟩,hXX⟩
    ·rw[List.length_append,List.length_singleton,List.range_succ,←HQ1.out.1,hkl]
    ·rw[List.length_append,List.length_singleton,Z0m,Xw,Va,←hkl]
     have h6:=HB4.out.1
     rw[←Lib.byteCells_append,←hkl] at h6
     refine Su.of h6 (fun i c fz h7 h8 h9=>?_)
     by_cases h2:i=b+1
     ·subst h2;rw[k1,HW0.out.2.2.1] at h9;cases h9
     ·by_cases h3:i=b+2
      ·subst h3;rw[k2,HW0.out.2.2.2] at h9;cases h9
      ·by_cases h4:i=W0.heap.size
       ·subst h4;rw[k3] at h9;cases h9
       ·have h5:i=W0.heap.size+1:=by omega
        subst h5;rw[k4] at h9;cases h9
  ·exfalso
   obtain ⟨h1,h2,h3,h4⟩:=HCH.out.2.1
   rcases hc with ⟨-,h|h⟩|⟨-,-,-,x,hx,h⟩|⟨-,h⟩
   ·exact h1 h
   ·omega
   ·rw[(h3 x hx).1] at h;cases h
   ·omega
 ·rintro X ⟨-,hj,hx⟩ hK
  have HX:=Jh (And.intro hj (And.intro hx hK))
  have hz:=HZ.out.1
  have hbX:Below w.heap.size w X:=Ext.new HW0.out.1 hx (fun i hi _ e=>by omega) (by omega)
  have HT:=Jh (LT.of_turned HH.out.1 HH.out.2.2.1 (Zl.below HH.out.1 hbX))
  have HBX:=Lib.hid hbX
  rw[List.length_range] at hj
  have HJ:=Lib.hid hj
  clear hj hx hK hz hbX
  gi_wp2
  refine ⟨trivial,callsIn_wide.2 ((Any.Buffer_Bytes Tryz.bufBF b b (Lib.byteCells (Ze (YC L))) X (HJ.out.is_ (by have:=HZ.out.1;omega))).mono ?_)⟩
  rintro e X2 ⟨v,rfl,hown,nd,hX2⟩
  have hb2:Below X.heap.size X X2:=by rw[hX2];exact ⟨rfl,rfl,rfl,Nat.le_refl _,fun _ _=>rfl⟩
  have hown2:Own u8c 1 5 b X2 v (Ze (YC L)):=by
   unfold Own
   rw[Tb,Z0Y] at hown
   exact hown
  obtain ⟨va5,vc5,hv5,-,-,-⟩:=hown2.slice Z7
  subst hv5
  have HV5:=Lib.hid hown2
  have HT2:=Jh (HT.out.below hb2)
  have HB2:=Lib.hid hb2
  clear hown hown2 hX2 hb2
  gi_wp2
  refine ⟨trivial,callsIn_wide.2 ((Qk HT2.out.disk (by have:=HH.out.2.1;have:=HBX.out.size;have:=HB2.out.size;omega) HH.out.2.2.2.1 (by omega) hfl lb vo sy HT2.out.log.b va5 _ vc5 (Ze (YC L)) (HV5.out.slice Z7) (fun a e=>?_) (by have:=HH.out.2.2.2.2.2;omega)).mono ?_)⟩
  ·subst e
   have h9:=HV5.out.eq_slice
   rcases h9 with ⟨e9,_⟩|⟨g9,c9,e9,_,_⟩
   ·simp at e9
   ·simp only[Value.slice.injEq,Option.some.injEq] at e9
    rw[e9.1]
    have h10:=Zj HV5.out (b:=g9) (by rw[e9.1];rfl)
    rw[h10]
    exact Z0k
  ·rintro e X3 hp
   unfold Sy at hp
   rcases hp with ⟨-,rfl,fb,D3,hfb,ht3⟩|⟨h,-⟩
   ·have HT3:=Jh (And.intro hfb (HT2.out.turn ht3))
    have hft:∀ i,w.heap.size≤i→i<X2.heap.size→X3.heap[i]?=X2.heap[i]?:=fun i h1 h2=>ht3.ext.block i h2 (fun hf=>by have:=(HH.out.1.foot hf).2.1;omega)
    have hzX:W0.heap.size<X.heap.size:=(Array.getElem?_eq_some_iff.1 HX.out.2.2).1
    have hzX2:=HB2.out.size
    have hz:=HZ.out.1
    have hr3:X3.heap[w.heap.size]?=some (.cells #[.int .i64 0] 25 (0,0)):=by
     rw[hft _ (Nat.le_refl _) (by omega),HB2.out.block _ (by omega),HX.out.2.1.block _ (by omega) (by omega)]
     exact HW0.out.2.1
    have hk3:X3.heap[W0.heap.size]?=some (.deferred (some [])):=by
     rw[hft _ (by omega) (by omega),HB2.out.block _ (by omega)]
     exact HX.out.2.2
    have hr3c:=cell_of_one hr3
    have hr3f:=free_of_one hr3
    have HR3:=Jh (And.intro hr3 hk3)
    have HS3:=Jh (And.intro ht3.ext.size (And.intro ht3.foot hzX))
    have c1:=HT3.out.2.log.b.c1
    rw[HVO.out] at c1
    have c2:=HT3.out.2.log.b.c2
    have f2:X3.frozen? ⟨lb,2,none⟩=false:=Joins.unfrozen_of_block HT3.out.2.log.b 2
    have hne:lb≠w.heap.size:=by omega
    have hne':w.heap.size≠lb:=by omega
    clear hfb ht3 hft hr3 hk3 hzX hzX2 hz hcl0 hcl1
    gi_wp2
    have hz:=HZ.out.1
    have hzX:=HS3.out.2.2
    have hzX2:=HB2.out.size
    have hs3:=HS3.out.1
    have hT4:=HT3.out.2.set2 (L.length:Int)
    have hr4:(X3.setCell ⟨lb,2,none⟩ (.int .i64 (L.length:Int))).heap[w.heap.size]?=some (.cells #[.int .i64 0] 25 (0,0)):=(((Ext.refl (·=lb) X3).setCell (p:=⟨lb,2,none⟩) (.inr rfl) _).block _ (by omega) hne').trans HR3.out.1
    have hk4:(X3.setCell ⟨lb,2,none⟩ (.int .i64 (L.length:Int))).heap[W0.heap.size]?=some (.deferred (some [])):=(((Ext.refl (·=lb) X3).setCell (p:=⟨lb,2,none⟩) (.inr rfl) _).block _ (by omega) (show ¬ W0.heap.size=lb by omega)).trans HR3.out.2
    have hz4:(X3.setCell ⟨lb,2,none⟩ (.int .i64 (L.length:Int))).heap.size=X3.heap.size:=by simp
    generalize X3.setCell ⟨lb,2,none⟩ (.int .i64 (L.length:Int))=X4 at hT4 hr4 hk4 hz4 ⊢
    have hx5:Ext (·=w.heap.size) X4 (X4.setCell ⟨w.heap.size,0,none⟩ (.int .i64 0)):=(Ext.refl (·=w.heap.size) X4).setCell (p:=⟨w.heap.size,0,none⟩) (.inr rfl) _
    have hr5:=one_setCell (u:=.int .i64 0) hr4
    have hk5:=(hx5.block W0.heap.size (by omega) (show ¬ W0.heap.size=w.heap.size by omega)).trans hk4
    generalize X4.setCell ⟨w.heap.size,0,none⟩ (.int .i64 0)=X5 at hx5 hr5 hk5 ⊢
    have hx6:Ext (·=W0.heap.size) X5 (X5.putObj W0.heap.size (.deferred none)):=YW _ _ _
    have hr6:=(hx6.block w.heap.size (by have:=hx5.size;omega) (show ¬ w.heap.size=W0.heap.size by omega)).trans hr5
    rw[show b+3=W0.heap.size by omega]
    refine ⟨by simp,.inl ⟨_,_,rfl,run_takeDeferred hk5,?_⟩⟩
    have hc6:=cell_of_one hr6
    generalize X5.putObj W0.heap.size (.deferred none)=X6 at hx6 hr6 hc6 ⊢
    refine ⟨.int .i64 0,by rw[Zo rfl];go_simp,rfl,fb,D3,HT3.out.1,?_⟩
    refine hT4.off (S:=fun i=>i=w.heap.size∨i=W0.heap.size) ((hx5.mono (fun i _ h=>.inl h)).andThen (hx6.mono (fun i _ h=>.inr h)) (fun i _ h=>h)) (fun i hi hs=>?_) (fun i hi hs=>?_) (fun hs=>by rcases hs with hs|hs <;> omega) (fun i hi hs=>?_) (fun i hs=>by rcases hs with hs|hs <;> omega)
    ·rcases HS3.out.2.1 i hi with hf|hf
     ·have:=(HH.out.1.foot hf).2.1
      rcases hs with hs|hs <;> omega
     ·rcases hs with hs|hs <;> omega
    ·rcases hs with hs|hs
     ·subst hs;simp[YD,hr4] at hi
     ·subst hs;simp[YD,hk4] at hi
    ·have:=(HH.out.2.2.1.o.blk i hi).2
     rcases hs with hs|hs <;> omega
   ·have:=HH.out.2.2.2.2.2
    omega
def VN:OpD:=⟨⟨1,0⟩,0,0,0,0,0,0,0,0,1,⟨0,0⟩,2,97,⟨0,0⟩,ZJ,ZJ,ZJ,⟨0,0⟩,false,⟨0,0⟩,false⟩
theorem Q8:VN.right=true:=by kernel_rfl
theorem Z2G:VN.wf:=by
 refine ⟨⟨by decide,by decide,by decide⟩,fun c hc=>?_⟩
 unfold fld VN
 split <;> decide
theorem Z3q (n:Nat):1≤(Z5 n).length:=List.length_pos_iff.2 (Wl n)
theorem Z1p (x:Int) (l:List Int):2≤(Zc (x :: l)).length:=by
 rw[Zc,List.length_append,List.length_append]
 have:=Z3q (Za x l+1)
 have:=Z3q (Yf x)
 omega
theorem Z1z (o:OpD) (l:List OpD):∀ n,2*n≤(ZN (o :: l) n).length
 | 0=>by omega
 | n+1=>by
  have ih:=Z1z o l n
  rw[Wz,List.length_append]
  have:2≤(WF (o :: l) n).length:=by
   unfold WF
   split
   ·exact Z1p _ _
   ·exact Z1p _ _
  omega
theorem Z66:30<(Xm [VN]).length∧∃ r,Xm [VN]=1 :: r:=by
 have h:=Z1z VN [] 21
 rw[Rz]
 have e:Z5 ([VN]:List OpD).length=[1]:=by
  rw[XL (by decide)]
  rfl
 rw[e]
 refine ⟨?_,_,rfl⟩
 rw[List.length_append,List.length_append]
 omega
def Ss (n:Int):OpD:=⟨⟨n,0⟩,0,0,0,0,0,0,0,0,1,⟨0,0⟩,2,97,⟨0,0⟩,ZJ,ZJ,ZJ,⟨0,0⟩,false,⟨0,0⟩,false⟩
theorem Z6q (n:Int) (w:World):Calls Tryz.prog 44 #[.int .i64 n] w fun e w'=>e=.returned (Ss n).val∧Below w.heap.size w w':=by
 have hst:=WS (P:=Tryz.prog) XO (W:=w) (z:=YI.cells.toArray) (cs:=(Ss n).cells) rfl (OpD.len (Ss n)) (OpD.one (Ss n))
 have hr:=(OB.new w (Ss n)).whole
 have HS:=Lib.hid hst
 have HR:=Lib.hid hr
 have HB:Hid (Below w.heap.size w (w.alloc (.cells (Ss n).cells.toArray 68))):=Jh ((Below.refl _ _).alloc (Nat.le_refl _) _)
 clear hst hr
 unfold OpD.val
 go_enter Tryz.func44,Tryz.ntmps44
 go_wp2_with (refine Z2 (T:=68) (v:=.agg (OpD.cells (Ss n)).toArray) rfl rfl rfl rfl HS.out ?_)
 refine bodyPost_ret (v:=.agg (Ss n).cells.toArray) (by rw[Zo rfl];first|exact HR.out|(have hr:=HR.out;go_simp;exact hr)) rfl ?_
 exact ⟨rfl,HB.out⟩
theorem Z2k (x:OpD) (W:World):(Instr.buildSlice 24 1 #[(0,x.val)]).run Tryz.prog W=.ok (.slice (some ⟨W.heap.size,0,none⟩) 1 1) (W.alloc (.cells x.cells.toArray 68)):=by kernel_rfl
theorem Rv:Ry.Small 0:=⟨by decide,by decide,by decide,by decide,fun f hf=>(by cases hf),by decide⟩
theorem Z8c:WT Ry.files:=⟨List.nodup_nil,fun n f h=>(by cases h)⟩
theorem Z6F {A:Z4} (hno:Zb A.files ZL=none) (hn:(A.files.map (·.1)).Nodup) (hl:A.files.length≤7):Yo (rmA A) ZL=0:=by
 have h1:Zb (rmA A).files ZL=none:=by
  unfold rmA
  split
  ·exact hno
  ·show Zb (ZZ ⟨0,⟨#[]⟩,Zv,none⟩ A.files) ZL=none
   rw[YZ _ _ hn]
   dsimp only
   split
   ·rfl
   ·exact hno
 have h2:=Z0P A
 unfold Yo
 rw[Vd,h1]
 simp
 omega
theorem SK {A:Z4} {N fb:Nat} {bs:List UInt8} (hs:A.Small N) (hfl:A.files.length≤7) (hn:(A.files.map (·.1)).Nodup) (hf:fb∉A.ids) (hb:bs.length≤1048576):(Wy fb bs A).Small (N+7):=by
 have h1:=hs.rm
 have h2:(an1 fb A).Small (N+2):=h1.make (RL hn hfl) (by rw[Vf];exact hf)
 have h3:=h2.app (XS fb A) (bs:=bs) (by rw[Z3f];simp[ZQ];omega)
 have h4:=h3.sync (x:=Zv) (f:=fb) (XS fb A)
 exact (h4.syn_.step ⟨0,ZL,Zv,some fb⟩).syn_
theorem RP.small {A A':Z4} {L:List OpD} {N:Nat} (h:RP A A' L) (hs:A.Small N) (hfl:A.files.length≤7) (hi:A.Inj) (hsz:∀ f∈A.ids,ZQ (A.fs f)≤1048576):A'.Small (N+8):=by
 rcases h with ⟨hno,rfl,fb,hf,rfl⟩|⟨f,hg,rfl,⟨hc,fb,hf,rfl⟩|⟨hc,hn,rfl⟩⟩
 ·exact ((hs.rm.make (Z6F hno hi.nd hfl) (by rw[Vf];exact hf)).syn_).mono (by omega)
 ·refine (SK hs hfl hi.nd hf ?_).mono (by omega)
  have:=hsz f (hi.ids _ _ hg)
  rw[List.length_take,VT]
  omega
 ·exact ((hs.sync hg).syn_).mono (by omega)
theorem Z8j:Ss 1=VN:=rfl
theorem Z2O:Y5 [VN]:=⟨by simp,by decide,fun x hx=>by rw[List.mem_singleton.1 hx];exact ⟨Q8,Z2G⟩,by have:=R7 (l:=[VN]) (by decide) (fun x hx=>by rw[List.mem_singleton.1 hx];exact Q8);simp at this;omega⟩
theorem Z3I {A:Z4} {f:Nat} {O:OpD} (h:30<(Xm [O]).length) (hs:Yj A f ([]++([]++[[O]])) []):40<(Zu (A.fs f)).length:=by
 have e:Ze (([]++([]++[[O]]))++[])=ZT [O]:=by simp[Ze]
 rw[hs.pcs.bytes,e,XE]
 omega
theorem Z56 (w:World) (hg:Xe w):Calls Tryz.prog 27 #[] w fun e w'=>e=.returned (.bool true)∧Below w.heap.size w w':=by
 have h0:0<w.heap.size:=Zq hg
 go_enter Tryz.func27,Tryz.ntmps27
 go_wp2_with fail
 refine (Z4q _ (Nat.le_refl _)).mono ?_
 rintro e w1 ⟨D,rfl,hd,hb,-⟩
 have HD:=Jh (And.intro hd (And.intro hb (hg.below hb)))
 clear hd hb hg
 go_wp2_with fail
 refine (R5 HD.out.1 HD.out.2.1.size Rv (by omega) (by decide) HD.out.2.2 h0).mono ?_
 rintro e w2 hp
 unfold Z0q at hp
 obtain ⟨lb,D2,A2,vo,L,rfl,hop,ht,hl⟩:=hp
 have HO:=Lib.hid hop
 have hi0:=Z38
 obtain ⟨f,ld,hst,hflat,hld,-⟩:=hop.steady Z7u (by decide) Z38 Z8c
 have hld0:=hld rfl
 subst hld0
 obtain rfl:L=[]:=hflat.symm
 have HS:=Lib.hid hst
 have S2:=Jh (hop.small Rv (by decide) Z38 (fun f hf=>(by cases hf)))
 have hg2:=ht.errTy HD.out.1 h0 HD.out.2.2
 have z2:=Nat.le_trans HD.out.2.1.size ht.ext.size
 have HT:=Jh (And.intro ht (And.intro hl hg2))
 clear hop ht hl hi0 hst hflat hld hg2
 go_wp2_with fail
 refine (Z6q 1 _).mono ?_
 rintro e w3 ⟨rfl,hb3⟩
 rw[Z8j]
 obtain ⟨O,hO⟩:∃ O,O=VN:=⟨_,rfl⟩
 have HO1:Hid (O.wf∧Y5 [O]∧30<(Xm [O]).length∧(Xm [O]).length≤65536):=Jh (by rw[hO];exact ⟨Z2G,Z2O,Z66.1,Z2O.2.2.2⟩)
 rw[←hO]
 clear hO
 have hb4:Below w3.heap.size w3 (w3.alloc (.cells O.cells.toArray 68)):=(Below.refl _ _).alloc (Nat.le_refl _) _
 have hs4:Z0 OpD.cells 26 (w3.alloc (.cells O.cells.toArray 68)) (.slice (some ⟨w3.heap.size,0,none⟩) 1 1) [O]:=Z0.one O 68
 have T4:=Jh (Zl.below HT.out.1.is_ (hb3.trans (hb4.mono hb3.size)))
 have L4:=Jh (HT.out.2.1.below (hb3.trans (hb4.mono hb3.size)))
 have G4:=Jh (HT.out.2.2.below (hb3.trans (hb4.mono hb3.size)))
 have z4:w.heap.size≤(w3.alloc (.cells O.cells.toArray 68)).heap.size:=Nat.le_trans z2 (Nat.le_trans hb3.size hb4.size)
 have hlt:∀ b,(Wo D2 A2 b∨b=lb∨vo.ownBlock=some b)→b<w3.heap.size:=fun b hb=>by
  rcases hb with hb|rfl|hb
  ·exact Nat.lt_of_lt_of_le (HT.out.1.is_.foot hb).2.1 hb3.size
  ·exact Nat.lt_of_lt_of_le HT.out.2.1.b.lt hb3.size
  ·exact Nat.lt_of_lt_of_le (HT.out.2.1.o.blk b hb).2 hb3.size
 have HLT:=Lib.hid hlt
 have H4:=Lib.hid hs4
 obtain ⟨w4,hw4⟩:=Je (w3.alloc (.cells O.cells.toArray 68))
 rw[hw4] at T4 L4 G4 z4 H4
 have hsl:=Z2k O w3
 rw[hw4] at hsl
 have HSL:=Lib.hid hsl
 clear hb4 hs4 hb3 hlt hw4 hsl
 go_wp2_with ((with_reducible_and_instances refine RQ (o:=⟨some 23,_,_,_,_,_⟩) (x0:=.tmp 22) ?_ ?_ ?_ HSL.out ?_);rfl;rfl;rfl)
 refine (Qc T4.out.is_ z4 (L4.out.mono HD.out.2.1.size) S2.out (by omega) (by simp) G4.out h0 _ [O] H4.out (fun _ b o n cap e=>?_) (fun x hx=>by rw[List.mem_singleton.1 hx];exact HO1.out.1) (by simp)).mono ?_
 ·simp only[Value.slice.injEq,Option.some.injEq,Addr.mk.injEq] at e
  intro hb
  have:=HLT.out b hb
  omega
 rintro e w5 hp
 unfold QG at hp
 have hp2:∃ D5 vo5,e=.returned (.int .i64 0)∧LT w.heap.size w4 D2 A2 lb vo w5 D5 (Yh f (ZT [O]) A2) vo5 [O] 0:=by
  rcases hp with ⟨n,rfl,hc,_⟩|⟨_,g,D5,vo5,hg,_,rfl,hlt⟩
  ·exfalso
   rcases hc with ⟨_,h|h⟩|⟨_,_,_,x,hx,h⟩|⟨_,h⟩|⟨_,_,h⟩|⟨_,_,g,hg,h⟩
   ·cases h
   ·simp at h
   ·rw[List.mem_singleton.1 hx,(HO1.out.2.1.2.2.1 O (by simp)).1] at h
    cases h
   ·have:=HO1.out.2.2.2;omega
   ·rw[HS.out.lg] at h;cases h
   ·rw[HS.out.lg] at hg
    cases hg
    have h1:=HS.out.pcs.bytes
    have h2:=VT (A2.fs f)
    rw[h1] at h2
    have h3:=XE [O]
    have:=HO1.out.2.2.2
    simp[Ze] at h2
    omega
  ·rw[HS.out.lg] at hg
   cases hg
   exact ⟨D5,vo5,rfl,hlt⟩
 obtain ⟨D5,vo5,rfl,hlt⟩:=hp2
 have T5:=Lib.hid hlt
 have S5:=Jh (HS.out.app HO1.out.2.1)
 have SM5:=Jh (S2.out.app (bs:=ZT [O]) HS.out.lg (by
  have h1:=HS.out.pcs.bytes
  have h2:=VT (A2.fs f)
  rw[h1] at h2
  have h3:=XE [O]
  have:=HO1.out.2.2.2
  simp[Ze] at h2
  omega))
 clear hp hlt
 go_wp2_with fail
 refine (Z1w T5.out.disk T5.out.log SM5.out (by omega)).mono ?_
 rintro e w6 (⟨hno,_⟩|⟨g,hg,rfl,ht6⟩)
 ·rw[S5.out.lg] at hno;cases hno
 rw[S5.out.lg] at hg
 cases hg
 have T6:=Jh (T5.out.trans ht6)
 have S6:=Lib.hid S5.out.sync
 have SM6:=Jh (SM5.out.sync (x:=ZL) (f:=f) S5.out.lg)
 clear ht6
 go_wp2_with fail
 refine (UM T6.out.log (by simp)).mono ?_
 rintro e w7 ⟨v7,rfl,ho7,hb7⟩
 have T7:=Jh (T6.out.below hb7)
 obtain ⟨a7,c7,rfl,-,-,-⟩:=ho7.slice OpD.len
 clear ho7 hb7
 go_wp2_with fail
 rw[show D.pb=D5.pb from (T7.out.pb.trans HT.out.1.pb).symm]
 refine (Qv T7.out.disk ZL SM6.out (by omega)).mono ?_
 rintro e w8 hp
 unfold SG at hp
 rcases hp with ⟨hno,_⟩|⟨g,v8,hg,rfl,ho8,hb8⟩
 ·rw[S6.out.lg] at hno;cases hno
 rw[S6.out.lg] at hg
 cases hg
 have T8:=Jh (T7.out.below hb8)
 obtain ⟨a8,c8,hv8,-,-,-⟩:=ho8.slice Z7
 have hlen:=Z3I HO1.out.2.2.1 S6.out
 obtain ⟨q,hq⟩:=Je ((Zu ((ZV f (Yh f (ZT [O]) A2)).fs f)).length)
 rw[hq] at hv8 hlen
 subst hv8
 have hlen2:(40:Int)<(q:Int):=by omega
 clear ho8 hb8 hq hlen
 simp only[List.length_singleton]
 go_wp2_with fail
 refine (Ud T8.out.log).mono ?_
 rintro e w9 ⟨rfl,rfl⟩
 simp only[List.length_singleton]
 go_wp2_with fail
 go_ret
 refine ⟨rfl,?_⟩
 exact T8.out.frame T4.out.is_ (L4.out.mono HD.out.2.1.size) ((HT.out.1.trans T4.out).frame HD.out.1 HD.out.2.1 (Nat.le_refl _) HD.out.2.1.size) (Nat.le_refl _) z4
theorem Ve.of {ld lu:List (List OpD)} {A:Z4} {f:Nat} (h:Yj A f ld lu):Ve (ld++lu).flatten :=
 Z4U (fun l hl=>by
  rcases List.mem_append.1 hl with hl|hl
  ·exact h.pcs.gd l hl
  ·exact h.pcs.gu l hl)
structure WrI (base:Nat) (w:World) (D:DSh) (A:Z4) (lb:Nat) (vo:Value) (N:Nat) (wx:World) (D1:DSh) (A1:Z4) (vo1:Value) (f:Nat) (ld lu:List (List OpD)):Prop where
 lt:LT base w D A lb vo wx D1 A1 vo1 (ld++lu).flatten (ld.flatten.length:Nat)
 st:Yj A1 f ld lu
 sm:A1.Small N
 err:Xe wx
structure WrM (base:Nat) (w:World) (D:DSh) (A:Z4) (lb:Nat) (vo:Value) (n:Nat) (wx:World) (D1:DSh) (A1:Z4) (vo1:Value) (f:Nat) (ld lu:List (List OpD)) (ms:List Mo) (k:Nat):Prop where
 i:WrI base w D A lb vo n wx D1 A1 vo1 f ld lu
 way:Way ms A1 (ld++lu).flatten ld.flatten.length
 bnd:Bnd ms ld lu
 len:(ld++lu).flatten.length≤200*k
section
variable {base:Nat} {w:World} {D:DSh} {A:Z4} {lb:Nat} {vo:Value} {n:Nat} {wr w':World} {D1 D2:DSh} {A1:Z4} {vo1 vo2:Value} {f:Nat} {ld lu:List (List OpD)} {ms:List Mo} {k:Nat}
theorem WrM.below (h:WrM base w D A lb vo n wr D1 A1 vo1 f ld lu ms k) (hb:Below wr.heap.size wr w'):WrM base w D A lb vo n w' D1 A1 vo1 f ld lu ms k :=
 ⟨⟨h.i.lt.below hb,h.i.st,h.i.sm,h.i.err.below hb⟩,h.way,h.bnd,h.len⟩
theorem WrM.same (hm:WrM base w D A lb vo n wr D1 A1 vo1 f ld lu ms k) (h0:0<base) (lt:LT base wr D1 A1 lb vo1 w' D1 A1 vo1 (ld++lu).flatten (ld.flatten.length:Nat)) :
  WrM base w D A lb vo (n+8) w' D1 A1 vo1 f ld lu (ms++[⟨A1.now,(ld++lu).flatten.length,ld.flatten.length⟩]) (k+1) :=
 ⟨⟨hm.i.lt.trans lt,hm.i.st,hm.i.sm.mono (by omega),lt.errTy hm.i.lt.disk hm.i.lt.log h0 hm.i.err⟩,hm.way.same hm.i.st hm.bnd,hm.bnd.more _,by have:=hm.len;omega⟩
theorem WrM.app {l:List OpD} (hm:WrM base w D A lb vo n wr D1 A1 vo1 f ld lu ms k) (h0:0<base) (hl:Y5 l) (hs:ZQ (A1.fs f)+(ZT l).length≤1048576) (lt:LT base wr D1 A1 lb vo1 w' D2 (Yh f (ZT l) A1) vo2 ((ld++lu).flatten++l) (ld.flatten.length:Nat)) :
  WrM base w D A lb vo (n+8) w' D2 (Yh f (ZT l) A1) vo2 f ld (lu++[l]) (ms++[⟨(Yh f (ZT l) A1).now,(ld++(lu++[l])).flatten.length,ld.flatten.length⟩]) (k+1):=by
 have e:(ld++(lu++[l])).flatten=(ld++lu).flatten++l:=by simp
 refine ⟨⟨?_,hm.i.st.app hl,(hm.i.sm.app hm.i.st.lg hs).mono (by omega),lt.errTy hm.i.lt.disk hm.i.lt.log h0 hm.i.err⟩,hm.way.app hm.i.st hm.bnd hl,hm.bnd.app rfl,?_⟩
 ·rw[e];exact hm.i.lt.trans lt
 ·rw[e,List.length_append];have:=hm.len;have:=hl.2.1;omega
theorem WrM.sync (hm:WrM base w D A lb vo n wr D1 A1 vo1 f ld lu ms k) (h0:0<base) (lt:LT base wr D1 A1 lb vo1 w' D2 (ZV f A1) vo1 (ld++lu).flatten ((ld++lu).flatten.length:Nat)) :
  WrM base w D A lb vo (n+8) w' D2 (ZV f A1) vo1 f (ld++lu) [] (ms++[⟨(ZV f A1).now,(ld++lu++[]).flatten.length,(ld++lu).flatten.length⟩]) (k+1):=by
 refine ⟨⟨?_,hm.i.st.sync,(hm.i.sm.sync hm.i.st.lg).mono (by omega),lt.errTy hm.i.lt.disk hm.i.lt.log h0 hm.i.err⟩,?_,Bnd.all (by rw[List.append_nil]),?_⟩
 ·rw[List.append_nil];exact hm.i.lt.trans lt
 ·rw[List.append_nil];exact hm.way.sync hm.i.st hm.bnd
 ·rw[List.append_nil];have:=hm.len;omega
theorem WrM.comp {fb:Nat} (hm:WrM base w D A lb vo n wr D1 A1 vo1 f ld lu ms k) (h0:0<base) (hf:fb∉A1.ids) (hb:(Ze (YC (ld++lu).flatten)).length≤1048576) (lt:LT base wr D1 A1 lb vo1 w' D2 (Wy fb (Ze (YC (ld++lu).flatten)) A1) vo1 (ld++lu).flatten ((ld++lu).flatten.length:Nat)) :
  WrM base w D A lb vo (n+8) w' D2 (Wy fb (Ze (YC (ld++lu).flatten)) A1) vo1 fb (YC (ld++lu).flatten) [] (ms++[⟨(Wy fb (Ze (YC (ld++lu).flatten)) A1).now,(YC (ld++lu).flatten++[]).flatten.length,(YC (ld++lu).flatten).flatten.length⟩]) (k+1):=by
 have hgl:=Ve.of hm.i.st
 refine ⟨⟨?_,Uf hm.i.st.hist hm.i.st.now hm.i.st.inj hm.i.st.two hf (XX hgl),(SK hm.i.sm (by have:=hm.i.st.two.len;omega) hm.i.st.two.1 hf hb).mono (by omega),lt.errTy hm.i.lt.disk hm.i.lt.log h0 hm.i.err⟩,?_,Bnd.all ?_,?_⟩
 ·rw[List.append_nil,Vj];exact hm.i.lt.trans lt
 ·rw[List.append_nil,Vj];exact hm.way.comp hm.i.st hm.bnd hf hgl
 ·rw[List.append_nil]
 ·rw[List.append_nil,Vj];have:=hm.len;omega
theorem LT.moments {wr w':World} {B:Nat} {v:Value} {D D':DSh} {A A':Z4} {vo vo':Value} {L L':List OpD} {sy sy':Int} (h:LT base wr D A lb vo w' D' A' vo' L' sy') (hd:Zd base wr D A) (hl:YN base wr D.pb lb vo L sy) (ho:Own Mo.cells 3 86 B wr v ms):Own Mo.cells 3 86 B w' v ms :=
 ho.ext h.ext (fun b hb e=>by
  rcases e with e|rfl|e
  ·exact (by unfold Wq;decide:¬ Wq (some 86)) (by rw[←Zj ho hb];exact hd.dtag e)
  ·exact ZK (Zj ho hb) hl.b.tag (by decide) rfl
  ·exact ZK (Zj ho hb) (Zj hl.o e) (by decide) rfl)
theorem Z0.low {α:Type} {ea:α→List Value} {q:Nat} {w w':World} {v:Value} {l:List α} {base:Nat} (h:Z0 ea q w v l) (hb:Below base w w') (hlo:l≠[]→∀ b o n cap,v=.slice (some ⟨b,o,none⟩) n cap→b<base):Z0 ea q w' v l:=by
 obtain ⟨a,c,e,h1,h2,h3⟩:=h
 refine ⟨a,c,e,h1,h2,fun hne=>?_⟩
 obtain ⟨b,o,e2,h4⟩:=h3 hne
 exact ⟨b,o,e2,fun i x hi j u hj=>WJ hb (h4 i x hi j u hj) (hlo hne b o l.length c (by rw[e,e2]))⟩
theorem Z0.lt9 {α:Type} {ea:α→List Value} {q:Nat} {w:World} {l:List α} {b o n cap:Nat} (h:Z0 ea q w (.slice (some ⟨b,o,none⟩) n cap) l) (hq:∀ x,0<(ea x).length) (hne:l≠[]):b<w.heap.size:=by
 obtain ⟨a,c,e,h1,h2,h3⟩:=h
 obtain ⟨b',o',e2,h4⟩:=h3 hne
 cases e
 cases e2
 cases l with
 | nil=>exact absurd rfl hne
 | cons x l =>
  have hx:=hq x
  exact Zq (h4 0 x rfl 0 (ea x)[0] (List.getElem?_eq_getElem hx))
theorem XB.In.below {x:XB} (h:x.In wr) (hb:Below wr.heap.size wr w'):x.In w':=⟨h.l.below hb,h.wf,h.b.below hb,⟨h.c.sl.below hb,h.c.a,h.c.n,h.c.t⟩⟩
end
def Tt (base:Nat) (w:World) (D:DSh) (A:Z4) (lb:Nat) (vo:Value) (N:Nat) (e:Ending) (w':World):Prop :=
 ∃ v ms D' A' vo' f ld lu,e=.returned v∧Own Mo.cells 3 86 w.heap.size w' v ms∧WrM base w D A lb vo (N+192) w' D' A' vo' f ld lu ms 24∧ms.length≤25
theorem Z7P:(Tryz.prog.info? 86).map (fun i=>(i.zero,i.size,i.bytes))=some (some (.agg #[.int .i64 0,.int .i64 0,.int .i64 0]),3,24):=by kernel_rfl
theorem Own.one9 {α:Type} {ea:α→List Value} {k:Nat} (hk:∀ x,(ea x).length=k) (x:α) (e:TypeId) {base:Nat} {w:World} (hb:base≤w.heap.size):Own ea k e base (w.alloc (.cells (ea x).toArray e)) (.slice (some ⟨w.heap.size,0,none⟩) 1 1) [x] :=
 ⟨by simp[hk],.inr ⟨w.heap.size,1,(ea x).toArray,rfl,hb,heap_alloc_new w _,Nat.le_refl _,by unfold maxLen;omega,by simp[hk],by simp[hk];exact List.take_of_length_le (by rw[hk];omega)⟩⟩
theorem Z5s {base:Nat} {w:World} {D:DSh} {A:Z4} {lb:Nat} {vo:Value} {f:Nat} (hd:Zd base w D A) (hbw:base≤w.heap.size) (hl:YN base w D.pb lb vo [] (0:Nat)) (hst:Yj A f [] []) {N:Nat} (hsm:A.Small N) (hN:N≤100000) (hg:Xe w) (h0:0<base)
  (v:Value) (l:List XB) (hv:Z0 XB.cells 7 w v l) (hin:∀ x∈l,x.In w) (hlo:∀ x∈l,x.ls≠[]→∀ b o n cap,x.l.val=.slice (some ⟨b,o,none⟩) n cap→b<base) (hvb:∀ b o n cap,l≠[]→v=.slice (some ⟨b,o,none⟩) n cap→b<base) :
  Calls Tryz.prog 45 #[.pointer (some ⟨D.pb,0,none⟩),.pointer (some ⟨lb,0,none⟩),v] w fun e w'=>Tt base w D A lb vo N e w':=by
 obtain ⟨xa,xc,rfl,hxc,hxm,-⟩:=id hv
 unfold maxLen at hxm
 obtain ⟨q,hq⟩:=Je (l.length)
 have HQ:=Lib.hid hq
 rw[hq] at hv hxc ⊢
 have HH:=Jh (And.intro hd (And.intro hl (And.intro hst (And.intro hsm (And.intro hg (And.intro hv (And.intro hin (And.intro hlo hvb))))))))
 have hAn:=hsm.now
 have hAn0:=hsm.now0
 clear hd hl hst hsm hg hv hin hlo hq hvb
 go_enter Tryz.func45,Tryz.ntmps45
 go_wp2_with fail
 refine (RY HH.out.1).mono ?_
 rintro e w1 ⟨rfl,e1⟩
 have e1':=e1.symm
 subst e1'
 clear e1
 have HA:Hid (Own Mo.cells 3 86 w.heap.size (w.alloc (.cells #[.int .i64 A.now,.int .i64 0,.int .i64 0] 86)) (.slice (some ⟨w.heap.size,0,none⟩) 1 1) [⟨A.now,0,0⟩]):=Jh (Own.one9 Mo.len ⟨A.now,0,0⟩ _ (Nat.le_refl _))
 have hbA:Below w.heap.size w (w.alloc (.cells #[.int .i64 A.now,.int .i64 0,.int .i64 0] 86)):=(Below.refl _ _).alloc (Nat.le_refl _) _
 have HM0:Hid (WrM base w D A lb vo N (w.alloc (.cells #[.int .i64 A.now,.int .i64 0,.int .i64 0] 86)) D A vo f [] [] [⟨A.now,0,0⟩] 0):=Lib.hid ⟨⟨(LT.refl HH.out.1 HH.out.2.1).below hbA,HH.out.2.2.1,HH.out.2.2.2.1,HH.out.2.2.2.2.1.below hbA⟩,Way.one (HH.out.2.2.1.st (fun _ _=>trivial)).e,fun k hk=>⟨⟨A.now,0,0⟩,by simp,by simp at hk;subst hk;rfl⟩,Nat.le_refl _⟩
 clear hbA
 go_wp2_with fail
 go_loopg [7,8] 24 (fun g ov kv wx=>∃ (k:Nat) (so:Sl),g=24 - k∧ov=.slice so.a so.n so.cap∧kv=.int .i64 k∧k≤q∧k≤24 ∧
  Hid (∃ ms D1 A1 vo1 f1 ld lu,Own Mo.cells 3 86 w.heap.size wx so.val ms∧WrM base w D A lb vo (N+8*k) wx D1 A1 vo1 f1 ld lu ms k∧ms.length=k+1))
 case atStart=>exact ⟨0,⟨some ⟨w.heap.size,0,none⟩,1,1⟩,rfl,rfl,rfl,Nat.zero_le _,Nat.zero_le _,Lib.hid ⟨_,_,_,_,_,_,_,HA.out,HM0.out,rfl⟩⟩
 case round =>
  obtain ⟨k,so,hgg,rfl,rfl,hkq,hk24,HU⟩:=hrel
  have HG:=Lib.hid hgg
  clear hgg
  by_cases hk:k<q
  ·by_cases hk2:k<24
   ·have hk1:(k:Int)<(q:Int):=by omega
    have hk3:(k:Int)<24:=by omega
    obtain ⟨y,hy⟩:∃ y,l[k]?=some y:=⟨_,List.getElem?_eq_getElem (by rw[HQ.out];exact hk)⟩
    obtain ⟨ms,D1,A1,vo1,f1,ld,lu,ho,hm,hml⟩:=HU.out
    have hfr:Below base w wr:=hm.i.lt.frame HH.out.1 HH.out.2.1 (Below.refl _ _) (Nat.le_refl _) hbw
    have hq0:=HH.out.2.2.2.2.2.1
    rw[←HQ.out] at hq0
    have hsz:=hm.i.lt.ext.size
    have hcells:∃ sb o,xa=some ⟨sb,o,none⟩∧∀ j u,y.cells[j]?=some u→wr.cell? ⟨sb,o+k*7+j,none⟩=some u:=by
     obtain ⟨_,_,e1,_,_,hh⟩:=hq0
     obtain ⟨sb,o,e2,hcc⟩:=hh (fun e=>by rw[e] at hy;simp at hy)
     cases e1
     subst e2
     have hsb:sb<base:=HH.out.2.2.2.2.2.2.2.2 sb o _ _ (fun e=>by rw[e] at hy;simp at hy) rfl
     exact ⟨sb,o,rfl,fun j u hj=>by
      have h5:=hcc k y hy j u hj
      simp only[World.cell?] at h5 ⊢
      rw[hfr.block sb hsb]
      exact h5⟩
    obtain ⟨sb,o,rfl,hcc⟩:=hcells
    have q0:=hcc 0 _ rfl
    have q1:=hcc 1 _ rfl
    have q2:=hcc 2 _ rfl
    have q3:=hcc 3 _ rfl
    have q4:=hcc 4 _ rfl
    have q5:=hcc 5 _ rfl
    have q6:=hcc 6 _ rfl
    simp only[Nat.add_zero] at q0
    have HYI:=Jh (And.intro (HH.out.2.2.2.2.2.2.1 y (List.mem_of_getElem? hy)) (HH.out.2.2.2.2.2.2.2.1 y (List.mem_of_getElem? hy)))
    have HMS:=Jh (And.intro ho (And.intro hm (And.intro hml (And.intro hfr hsz))))
    clear hcc ho hm hml hfr hsz hq0 hy
    go_upto_block 2 with fail
    have hb2:Below wr.heap.size wr (wr.alloc (.cells #[.int .i64 y.kind,.slice y.l.a y.l.n y.l.cap,.slice y.b.a y.b.n y.b.cap,.int .i64 y.c.at_,.int .i64 y.c.names,.slice y.c.keep.a y.c.keep.n y.c.keep.cap,.int .i64 y.c.torn] 79)):=(Below.refl _ _).alloc (Nat.le_refl _) _
    have qo:=World.alloc_heap_new wr (.cells #[.int .i64 y.kind,.slice y.l.a y.l.n y.l.cap,.slice y.b.a y.b.n y.b.cap,.int .i64 y.c.at_,.int .i64 y.c.names,.slice y.c.keep.a y.c.keep.n y.c.keep.cap,.int .i64 y.c.torn] 79)
    generalize wr.alloc (.cells #[.int .i64 y.kind,.slice y.l.a y.l.n y.l.cap,.slice y.b.a y.b.n y.b.cap,.int .i64 y.c.at_,.int .i64 y.c.names,.slice y.c.keep.a y.c.keep.n y.c.keep.cap,.int .i64 y.c.torn] 79)=w2 at *
    have r0:=Joins.cell_of_block qo 0
    have r1:=Joins.cell_of_block qo 1
    simp only[List.getElem?_toArray,List.getElem?_cons_succ,List.getElem?_cons_zero] at r0 r1
    have HB2:=Lib.hid hb2
    clear q0 q1 q2 q3 q4 q5 q6 qo hb2
    generalize wr.heap.size=pw at r0 r1 ⊢
    go_cut [] from 28 to 47 (fun wx=>∃ D2 A2 vo2 f2 ld2 lu2,Hid (Own Mo.cells 3 86 w.heap.size wx so.val ms∧WrM base w D A lb vo (N+8*(k+1)) wx D2 A2 vo2 f2 ld2 lu2 (ms++[⟨A2.now,(ld2++lu2).flatten.length,ld2.flatten.length⟩]) (k+1)))
    case first =>
     have hm2:=HMS.out.2.1.below HB2.out
     have ho2:=HMS.out.1.below1 HB2.out
     have HM2:=Jh (And.intro hm2 ho2)
     have hb2:Below base w w2:=HMS.out.2.2.2.1.trans (HB2.out.mono (by have:=HMS.out.2.2.2.2;omega))
     have hyl:=HYI.out.1.l
     have hyn:y.l.n=y.ls.length:=by
      obtain ⟨_,_,e,_⟩:=hyl
      simp only[Value.slice.injEq] at e
      exact e.2.1
     have HYL:Hid (Z0 OpD.cells 26 w2 (.slice y.l.a y.l.n y.l.cap) y.ls):=Jh (hyl.low hb2 HYI.out.2)
     have HYN:=Lib.hid hyn
     have HLL:=Lib.hid hm2.len
     have z2:base≤w2.heap.size:=by have:=HMS.out.2.2.2.2;have:=HB2.out.size;omega
     clear hm2 ho2 hb2 hyl hyn
     by_cases k1:y.kind=1
     ·have k1b:(y.kind == 1)=true:=by simp[k1]
      clear k1
      by_cases hle:y.l.n≤210
      ·have hle2:(y.l.n:Int)≤210:=by omega
       have HLE:=Lib.hid hle
       clear hle
       go_wp2_with fail
       refine (Qc HM2.out.1.i.lt.disk z2 HM2.out.1.i.lt.log HM2.out.1.i.sm (by omega) (by have:=HLL.out;omega) HM2.out.1.i.err h0 _ y.ls HYL.out (fun hne b o n cap e hh=>?_) HYI.out.1.wf (by have:=HYN.out;have:=HLE.out;omega)).mono ?_
       ·have hlt:=HYI.out.2 hne b o n cap e
        rcases hh with hh|hh|hh
        ·have:=(HM2.out.1.i.lt.disk.foot hh).1;omega
        ·have:=HM2.out.1.i.lt.log.lo;omega
        ·have:=(HM2.out.1.i.lt.log.o.blk b hh).1;omega
       ·rintro e w3 hp
        unfold QG at hp
        rcases hp with ⟨nn,rfl,-,hlt⟩|⟨hgd,ff,D3,vo3,hff,hsz3,rfl,hlt⟩
        ·have HX:=Jh (And.intro (hlt.moments HM2.out.1.i.lt.disk HM2.out.1.i.lt.log HM2.out.2) (HM2.out.1.same h0 hlt))
         clear hlt
         go_wp2_with fail
         go_meet
         case rel=>exact ⟨_,_,_,_,_,_,HX⟩
        ·rw[HM2.out.1.i.st.lg] at hff
         cases hff
         have HX:=Jh (And.intro (hlt.moments HM2.out.1.i.lt.disk HM2.out.1.i.lt.log HM2.out.2) (HM2.out.1.app h0 hgd hsz3 hlt))
         clear hlt hgd hsz3
         go_wp2_with fail
         go_meet
         case rel=>exact ⟨_,_,_,_,_,_,HX⟩
      ·have hle2:¬ (y.l.n:Int)≤210:=by omega
       have HX:=Jh (And.intro HM2.out.2 (HM2.out.1.same h0 (LT.refl HM2.out.1.i.lt.disk HM2.out.1.i.lt.log)))
       go_wp2_with fail
       go_meet
       case rel=>exact ⟨_,_,_,_,_,_,HX⟩
     ·have k1b:(y.kind == 1)=false:=by simpa using k1
      by_cases k2:y.kind=2
      ·have k2b:(y.kind == 2)=true:=by simp[k2]
       clear k1 k2
       go_wp2_with fail
       refine (Z1w HM2.out.1.i.lt.disk HM2.out.1.i.lt.log HM2.out.1.i.sm (by omega)).mono ?_
       rintro e w3 hp
       rcases hp with ⟨hno,-⟩|⟨ff,hff,rfl,hlt⟩
       ·rw[HM2.out.1.i.st.lg] at hno;cases hno
       ·rw[HM2.out.1.i.st.lg] at hff
        cases hff
        have HX:=Jh (And.intro (hlt.moments HM2.out.1.i.lt.disk HM2.out.1.i.lt.log HM2.out.2) (HM2.out.1.sync h0 hlt))
        clear hlt
        go_wp2_with fail
        go_meet
        case rel=>exact ⟨_,_,_,_,_,_,HX⟩
      ·have k2b:(y.kind == 2)=false:=by simpa using k2
       by_cases k3:y.kind=3
       ·have k3b:(y.kind == 3)=true:=by simp[k3]
        clear k1 k2 k3
        have HGL:=Jh (Ve.of HM2.out.1.i.st)
        have HSZ:Hid ((Ze (YC (ld++lu).flatten)).length≤1048576):=Jh (by
         have h5:=Z0t HGL.out
         have h6:=HLL.out
         unfold chN at h5
         omega)
        go_wp2_with fail
        refine (SU HM2.out.1.i.lt.disk z2 HM2.out.1.i.lt.log HM2.out.1.i.sm (by omega) (by have:=HM2.out.1.i.st.two.len;omega) (by have:=HLL.out;omega) HGL.out HSZ.out).mono ?_
        rintro e w3 hp
        unfold QI at hp
        obtain ⟨rfl,fb,D3,hfb,hlt⟩:=hp
        have HX:=Jh (And.intro (hlt.moments HM2.out.1.i.lt.disk HM2.out.1.i.lt.log HM2.out.2) (HM2.out.1.comp h0 hfb HSZ.out hlt))
        clear hlt hfb
        go_wp2_with fail
        go_meet
        case rel=>exact ⟨_,_,_,_,_,_,HX⟩
       ·have k3b:(y.kind == 3)=false:=by simpa using k3
        have HX:=Jh (And.intro HM2.out.2 (HM2.out.1.same h0 (LT.refl HM2.out.1.i.lt.disk HM2.out.1.i.lt.log)))
        clear k1 k2 k3
        go_wp2_with fail
        go_meet
        case rel=>exact ⟨_,_,_,_,_,_,HX⟩
    case rest =>
     obtain ⟨D2,A2,vo2,f2,ld2,lu2,HX⟩:=hcut
     have hch:=RY HX.out.2.i.lt.disk
     rw[HX.out.2.i.lt.pb] at hch
     have HCH:=Lib.hid hch
     have HLL:=Lib.hid HX.out.2.len
     have HML:=Lib.hid HMS.out.2.2.1
     have hzc:=HX.out.2.i.lt.ext.size
     obtain ⟨n2,hn2⟩:=Je ((ld2++lu2).flatten.length)
     obtain ⟨s2,hs2⟩:=Je (ld2.flatten.length)
     have HN2:=Jh (And.intro hn2 hs2)
     clear hn2 hs2
     clear hch
     go_wp2_with fail
     refine HCH.out.mono ?_
     rintro e w3 ⟨rfl,e3⟩
     have e3':=e3.symm
     subst e3'
     clear e3
     go_wp2_with fail
     refine (UM HX.out.2.i.lt.log (by have:=HLL.out;omega)).mono ?_
     rintro e w4 ⟨v4,rfl,ho4,hb4⟩
     obtain ⟨a4,c4,hv4,-,-,-⟩:=ho4.slice OpD.len
     subst hv4
     rw[HN2.out.1]
     have HB4:=Lib.hid hb4
     clear ho4 hb4
     go_wp2_with fail
     refine (Ud (HX.out.2.i.lt.log.below HB4.out)).mono ?_
     rintro e w5 ⟨rfl,e5⟩
     have e5':=e5.symm
     subst e5'
     clear e5
     rw[HN2.out.2]
     obtain ⟨i0,hi,hz0,hz1,hz2⟩:=info_parts Z7P
     obtain ⟨m,hm⟩:∃ m:Mo,m=⟨A2.now,n2,s2⟩:=⟨_,rfl⟩
     have hbm:Below w4.heap.size w4 (w4.alloc (.cells #[.int .i64 A2.now,.int .i64 n2,.int .i64 s2] 86)):=(Below.refl _ _).alloc (Nat.le_refl _) _
     have hone:Z0 Mo.cells 3 (w4.alloc (.cells #[.int .i64 A2.now,.int .i64 n2,.int .i64 s2] 86)) (.slice (some ⟨w4.heap.size,0,none⟩) 1 1) [m]:=by
      rw[hm]
      exact Z0.one (⟨A2.now,n2,s2⟩:Mo) 86
     have hbb:=HB4.out.trans (hbm.mono HB4.out.size)
     obtain ⟨v',w',hr,ho6,hx6⟩:=Yl (P:=Tryz.prog) 72 72 i0 _ 24 Tryz.underlying72 hi hz0 hz1 hz2 rfl (by omega) Mo.len Mo.onec (HX.out.1.below1 hbb) hone (by have:=HML.out;unfold maxLen;simp;omega) (by have:=HML.out;simp;omega) (by have:=hbb.size;omega)
     obtain ⟨sv,hsv⟩:=ho6.slv
     subst hsv
     have HR:Hid ((Builtin.append_ #[72,72] 72 #[.slice so.a so.n so.cap,.slice (some ⟨w4.heap.size,0,none⟩) 1 1]).run Tryz.prog (w4.alloc (.cells #[.int .i64 A2.now,.int .i64 n2,.int .i64 s2] 86))=.ok (.slice sv.a sv.n sv.cap) w'):=Lib.hid hr
     have HN:Hid (Own Mo.cells 3 86 w.heap.size w' sv.val (ms++[m])∧WrM base w D A lb vo (N+8*(k+1)) w' D2 A2 vo2 f2 ld2 lu2 (ms++[m]) (k+1)∧(ms++[m]).length=k+1+1):=Jh (by
      have h7:=HX.out.2.below hbb
      rw[HN2.out.1,HN2.out.2,←hm] at h7
      have h8:=HX.out.1.below1 hbb
      refine ⟨ho6,⟨⟨h7.i.lt.off (S:=fun b=>so.val.ownBlock=some b) hx6 (fun b hb e=>?_) (fun b ht e=>?_) (fun e=>?_) (fun b hb e=>?_) (fun b e=>(h8.blk b e).1),h7.i.st,h7.i.sm,h7.i.err.extB hx6 (fun i e=>by have:=(h8.blk i e).1;omega)⟩,h7.way,h7.bnd,h7.len⟩,by rw[List.length_append,HML.out];rfl⟩
      ·exact (by unfold Wq;decide:¬ Wq (some 86)) (by rw[←Zj h8 e];exact h7.i.lt.disk.dtag hb)
      ·rw[Zj h8 e] at ht;revert ht;decide
      ·exact ZK (Zj h8 e) h7.i.lt.log.b.tag (by decide) rfl
      ·exact ZK (Zj h8 e) (Zj h7.i.lt.log.o hb) (by decide) rfl)
     clear hi hz0 hz1 hz2 hbm hone hbb hr ho6 hx6 hm
     go_wp2_with (at_builtin;refine YR rfl _ _ _ rfl rfl rfl HR.out ?_)
     go_roundg (24 - (k+1))
     case measure=>rw[HG.out];omega
     case rel=>exact ⟨k+1,sv,rfl,rfl,rfl,by omega,by omega,Lib.hid ⟨_,_,_,_,_,_,_,HN.out⟩⟩
   ·obtain ⟨ms,D1,A1,vo1,f1,ld,lu,ho,hm,hml⟩:=HU.out
    have hk3:¬ (k:Int)<24:=by omega
    have hk1:(k:Int)<(q:Int):=by omega
    have HF:Hid (Tt base w D A lb vo N (.returned (.slice so.a so.n so.cap)) wr):=Lib.hid ⟨_,ms,D1,A1,vo1,f1,ld,lu,rfl,ho,⟨⟨hm.i.lt,hm.i.st,hm.i.sm.mono (by omega),hm.i.err⟩,hm.way,hm.bnd,by have:=hm.len;omega⟩,by omega⟩
    clear ho hm hml
    go_wp2_with fail
    go_ret
    exact HF.out
  ·obtain ⟨ms,D1,A1,vo1,f1,ld,lu,ho,hm,hml⟩:=HU.out
   have hk1:¬ (k:Int)<(q:Int):=by omega
   have HF:Hid (Tt base w D A lb vo N (.returned (.slice so.a so.n so.cap)) wr):=Lib.hid ⟨_,ms,D1,A1,vo1,f1,ld,lu,rfl,ho,⟨⟨hm.i.lt,hm.i.st,hm.i.sm.mono (by omega),hm.i.err⟩,hm.way,hm.bnd,by have:=hm.len;omega⟩,by omega⟩
   clear ho hm hml
   go_wp2_with fail
   go_ret
   exact HF.out
theorem Z3k (n:Nat) (w:World) (h:n<4294967296):Calls Tryz.prog 116 #[.int .u32 (n:Int)] w fun e w'=>Xv w (ZW n) e w':=by
 have HF:=Jh (Sw n)
 obtain ⟨z0,h0⟩:∃ z,UInt8.ofNat (n % 256)=z:=⟨_,rfl⟩
 obtain ⟨z1,h1⟩:∃ z,UInt8.ofNat (n / 256 % 256)=z:=⟨_,rfl⟩
 obtain ⟨z2,h2⟩:∃ z,UInt8.ofNat (n / 65536 % 256)=z:=⟨_,rfl⟩
 obtain ⟨z3,h3⟩:∃ z,UInt8.ofNat (n / 16777216 % 256)=z:=⟨_,rfl⟩
 have e0:(n:Int) % 256=(z0.toNat:Int):=by rw[←h0,Yv (by omega)];omega
 have e1:(n:Int) / 256 % 256=(z1.toNat:Int):=by rw[←h1,Yv (by omega)];omega
 have e2:(n:Int) / 65536 % 256=(z2.toNat:Int):=by rw[←h2,Yv (by omega)];omega
 have e3:(n:Int) / 16777216=(z3.toNat:Int):=by rw[←h3,Yv (by omega)];omega
 rw[h0,h1,h2,h3] at HF
 have HO:=Jh (Qm (base:=w.heap.size) (W:=w) [z0,z1,z2,z3] (Nat.le_refl _) (by simp))
 have HB:Hid (Below w.heap.size w (w.alloc (.cells ([z0,z1,z2,z3].flatMap u8c).toArray 5))):=Jh ((Below.refl _ _).alloc (Nat.le_refl _) _)
 clear h0 h1 h2 h3
 go_enter Tryz.func116,Tryz.ntmps116
 go_wp2_with fail
 go_ret
 exact ⟨_,rfl,by rw[HF.out];exact HO.out,HB.out⟩
theorem Z61 (k:UInt8) (v:Value) (body:List UInt8) (w:World) (h:Z0 u8c 1 w v body):Calls Tryz.prog 67 #[.int .u8 (k.toNat:Int),v] w fun e w'=>QH w k body e w':=by
 obtain ⟨a,cap,rfl,hcap,hmax,-⟩:=id h
 unfold maxLen at hmax
 by_cases hbig:65536<body.length
 ·have hb1:(65536:Int)<(body.length:Int):=by omega
  go_enter Tryz.func67,Tryz.ntmps67
  go_wp2_with fail
  go_ret2
  exact .inr ⟨hbig,rfl,Below.refl _ _⟩
 have hb1:¬ (65536:Int)<(body.length:Int):=by omega
 have hN:body.length≤65536:=by omega
 have HH:=Lib.hid h
 have ho1:=Qm (base:=w.heap.size) (W:=w) [k] (Nat.le_refl _) (by simp)
 have bb1:Below w.heap.size w (w.alloc (.cells ([k].flatMap u8c).toArray 5)):=(Below.refl _ _).alloc (Nat.le_refl _) _
 have H1:=Jh (And.intro ho1 bb1)
 clear h hbig ho1 bb1
 go_enter Tryz.func67,Tryz.ntmps67
 go_wp2_with fail
 refine (Z3k body.length _ (by omega)).mono ?_
 rintro e w2 ⟨v2,rfl,own2,b2⟩
 have ho2:=H1.out.1.below1 b2
 have bb2:Below w.heap.size w w2:=H1.out.2.trans (b2.mono H1.out.2.size)
 obtain ⟨⟨ua,un,uc⟩,w3,hr3,own3,b3,z3⟩:=ZF ho2 bb2 (own2.slice Z7) bb2.size (by simp[ZW])
 have hd3:[k]++ZW body.length=XI k body:=rfl
 rw[hd3] at own3
 have b4:Below w3.heap.size w3 (w3.alloc (.cells #[] 5)):=(Below.refl _ _).alloc (Nat.le_refl _) _
 have HX3:=HH.out.below b3
 obtain ⟨⟨sa,sn,sc⟩,w5,hr5,own5,b5,z5⟩:=ZF (Z10 (base:=w3.heap.size) (Nat.le_refl _)) b4 ((own3.slice Z7).below b4) b4.size (by simp[XI,ZW])
 rw[List.nil_append] at own5
 obtain ⟨⟨ta,tn,tc⟩,w6,hr6,own6,b6,z6⟩:=ZF own5 b5 (HX3.below b5) z5 (by simp[XI,ZW];omega)
 have H3:=Jh (And.intro ((own3.slice Z7).below b6) (And.intro (HX3.below b6) (b3.trans (b6.mono z3))))
 have H6:=Jh (own6.slice Z7)
 clear own2 ho2 bb2 own3 b4 own5 own6 b3 b5 b6 hd3 b2 HX3 z3 z5 z6
 go_wp2_with (first|(at_builtin;refine Lib.wpList_append_run _ rfl _ _ _ _ rfl _ _ rfl rfl _ _ hr3 ?_)|(at_builtin;refine Lib.wpList_append_run _ rfl _ _ _ _ rfl _ _ rfl rfl _ _ hr5 ?_)|(at_builtin;refine Lib.wpList_append_run _ rfl _ _ _ _ rfl _ _ rfl rfl _ _ hr6 ?_))
 clear hr3 hr5 hr6
 refine (Z6r _ _ _ H6.out).mono ?_
 rintro e w7 ⟨rfl,rfl⟩
 have HC:=Jh (Z0V (XI k body++body))
 obtain ⟨c,hc⟩:=Je (Wf (XI k body++body))
 have HCC:=Lib.hid hc
 rw[hc] at HC ⊢
 clear hc
 have b7:Below w6.heap.size w6 (w6.alloc (.cells ([83,84].flatMap u8c).toArray 5)):=(Below.refl _ _).alloc (Nat.le_refl _) _
 have ho7:=Qm (base:=w6.heap.size) (W:=w6) [83,84] (Nat.le_refl _) (by simp)
 obtain ⟨⟨ka,kn,kc⟩,w8,hr8,own8,b8,z8⟩:=ZF ho7 b7 (H3.out.1.below b7) b7.size (by simp[XI,ZW])
 have H8:=Jh (And.intro own8 (And.intro b8 z8))
 clear b7 ho7 own8 b8 z8
 go_wp2_with (at_builtin;refine Lib.wpList_append_run _ rfl _ _ _ _ rfl _ _ rfl rfl _ _ hr8 ?_)
 clear hr8
 refine (Z3k c w8 HC.out).mono ?_
 rintro e w9 ⟨v9,rfl,own9,b9⟩
 have b69:Below w6.heap.size w6 w9:=H8.out.2.1.trans (b9.mono H8.out.2.2)
 obtain ⟨⟨la,ln,lc⟩,w10,hr10,own10,b10,z10⟩:=ZF (H8.out.1.below1 b9) b69 (own9.slice Z7) b69.size (by simp[XI,ZW])
 obtain ⟨⟨ma,mn,mc⟩,w11,hr11,own11,b11,z11⟩:=ZF own10 b10 (H3.out.2.1.below b10) z10 (by simp[XI,ZW];omega)
 have ew:[83,84]++XI k body++ZW c++body=Xq k body:=by
  unfold Xq
  rw[HCC.out]
  simp
 rw[ew] at own11
 have HF:=Jh (And.intro (own11.mono H3.out.2.2.size) (H3.out.2.2.trans (b11.mono H3.out.2.2.size)))
 clear own9 own10 own11 b9 b69 b10 b11 z10 z11 ew
 go_wp2_with (first|(at_builtin;refine Lib.wpList_append_run _ rfl _ _ _ _ rfl _ _ rfl rfl _ _ hr10 ?_)|(at_builtin;refine Lib.wpList_append_run _ rfl _ _ _ _ rfl _ _ rfl rfl _ _ hr11 ?_))
 go_ret2
 exact .inl ⟨hN,_,rfl,HF.out.1,HF.out.2⟩
theorem Z2z (v:Value) (b:List UInt8) (w:World) (h:Z0 u8c 1 w v b) (hs:b.length<7):Calls Tryz.prog 63 #[v] w fun e w'=>Ul w b e w':=by
 obtain ⟨a,cap,rfl,hcap,hmax,-⟩:=id h
 unfold maxLen at hmax
 have HNO:=Jh (Xs (b:=b) (by omega))
 have HH:=Lib.hid h
 clear h
 match b,hs,HH,HNO,hcap with
 | [],_,HH,HNO,hcap =>
  simp only[List.length_cons,List.length_nil,Nat.zero_add,Nat.reduceAdd] at hcap ⊢
  go_enter Tryz.func63,Tryz.ntmps63
  go_wp2_with fail
  all_goals
   (try simp only[Exit.inBlock,Exit.then])
   refine bodyPost_ret (Zf rfl _ _ _) rfl ?_
   exact .inr ⟨HNO.out,⟨_,by decide,rfl⟩,Below.refl _ _⟩
 | [x0],_,HH,HNO,hcap =>
  obtain ⟨bb,o,rfl,c0⟩:=HH.out.at1 (k:=0) (x:=x0) (u:=.int .u8 (x0.toNat:Int)) rfl rfl
  rw[Nat.add_zero] at c0
  have l0:=x0.toNat_lt
  simp only[List.length_cons,List.length_nil,Nat.zero_add,Nat.reduceAdd] at hcap ⊢
  go_enter Tryz.func63,Tryz.ntmps63
  go_wp2_with fail
  all_goals
   (try simp only[Exit.inBlock,Exit.then])
   refine bodyPost_ret (Zf rfl _ _ _) rfl ?_
   exact .inr ⟨HNO.out,⟨_,by decide,rfl⟩,Below.refl _ _⟩
 | [x0,x1],_,HH,HNO,hcap =>
  obtain ⟨bb,o,rfl,c0⟩:=HH.out.at1 (k:=0) (x:=x0) (u:=.int .u8 (x0.toNat:Int)) rfl rfl
  have c1:w.cell? ⟨bb,o+1,none⟩=some (.int .u8 (x1.toNat:Int)):=by obtain ⟨_,_,e,c⟩:=HH.out.at1 (k:=1) (x:=x1) (u:=.int .u8 (x1.toNat:Int)) rfl rfl;cases e;exact c
  rw[Nat.add_zero] at c0
  have l0:=x0.toNat_lt
  have l1:=x1.toNat_lt
  simp only[List.length_cons,List.length_nil,Nat.zero_add,Nat.reduceAdd] at hcap ⊢
  go_enter Tryz.func63,Tryz.ntmps63
  go_wp2_with fail
  all_goals
   (try simp only[Exit.inBlock,Exit.then])
   refine bodyPost_ret (Zf rfl _ _ _) rfl ?_
   exact .inr ⟨HNO.out,⟨_,by decide,rfl⟩,Below.refl _ _⟩
 | [x0,x1,x2],_,HH,HNO,hcap =>
  obtain ⟨bb,o,rfl,c0⟩:=HH.out.at1 (k:=0) (x:=x0) (u:=.int .u8 (x0.toNat:Int)) rfl rfl
  have c1:w.cell? ⟨bb,o+1,none⟩=some (.int .u8 (x1.toNat:Int)):=by obtain ⟨_,_,e,c⟩:=HH.out.at1 (k:=1) (x:=x1) (u:=.int .u8 (x1.toNat:Int)) rfl rfl;cases e;exact c
  have c2:w.cell? ⟨bb,o+2,none⟩=some (.int .u8 (x2.toNat:Int)):=by obtain ⟨_,_,e,c⟩:=HH.out.at1 (k:=2) (x:=x2) (u:=.int .u8 (x2.toNat:Int)) rfl rfl;cases e;exact c
  rw[Nat.add_zero] at c0
  have l0:=x0.toNat_lt
  have l1:=x1.toNat_lt
  have l2:=x2.toNat_lt
  simp only[List.length_cons,List.length_nil,Nat.zero_add,Nat.reduceAdd] at hcap ⊢
  go_enter Tryz.func63,Tryz.ntmps63
  go_wp2_with fail
  all_goals
   (try simp only[Exit.inBlock,Exit.then])
   refine bodyPost_ret (Zf rfl _ _ _) rfl ?_
   exact .inr ⟨HNO.out,⟨_,by decide,rfl⟩,Below.refl _ _⟩
 | [x0,x1,x2,x3],_,HH,HNO,hcap =>
  obtain ⟨bb,o,rfl,c0⟩:=HH.out.at1 (k:=0) (x:=x0) (u:=.int .u8 (x0.toNat:Int)) rfl rfl
  have c1:w.cell? ⟨bb,o+1,none⟩=some (.int .u8 (x1.toNat:Int)):=by obtain ⟨_,_,e,c⟩:=HH.out.at1 (k:=1) (x:=x1) (u:=.int .u8 (x1.toNat:Int)) rfl rfl;cases e;exact c
  have c2:w.cell? ⟨bb,o+2,none⟩=some (.int .u8 (x2.toNat:Int)):=by obtain ⟨_,_,e,c⟩:=HH.out.at1 (k:=2) (x:=x2) (u:=.int .u8 (x2.toNat:Int)) rfl rfl;cases e;exact c
  have c3:w.cell? ⟨bb,o+3,none⟩=some (.int .u8 (x3.toNat:Int)):=by obtain ⟨_,_,e,c⟩:=HH.out.at1 (k:=3) (x:=x3) (u:=.int .u8 (x3.toNat:Int)) rfl rfl;cases e;exact c
  rw[Nat.add_zero] at c0
  have l0:=x0.toNat_lt
  have l1:=x1.toNat_lt
  have l2:=x2.toNat_lt
  have l3:=x3.toNat_lt
  simp only[List.length_cons,List.length_nil,Nat.zero_add,Nat.reduceAdd] at hcap ⊢
  go_enter Tryz.func63,Tryz.ntmps63
  go_wp2_with fail
  all_goals
   (try simp only[Exit.inBlock,Exit.then])
   refine bodyPost_ret (Zf rfl _ _ _) rfl ?_
   exact .inr ⟨HNO.out,⟨_,by decide,rfl⟩,Below.refl _ _⟩
 | [x0,x1,x2,x3,x4],_,HH,HNO,hcap =>
  obtain ⟨bb,o,rfl,c0⟩:=HH.out.at1 (k:=0) (x:=x0) (u:=.int .u8 (x0.toNat:Int)) rfl rfl
  have c1:w.cell? ⟨bb,o+1,none⟩=some (.int .u8 (x1.toNat:Int)):=by obtain ⟨_,_,e,c⟩:=HH.out.at1 (k:=1) (x:=x1) (u:=.int .u8 (x1.toNat:Int)) rfl rfl;cases e;exact c
  have c2:w.cell? ⟨bb,o+2,none⟩=some (.int .u8 (x2.toNat:Int)):=by obtain ⟨_,_,e,c⟩:=HH.out.at1 (k:=2) (x:=x2) (u:=.int .u8 (x2.toNat:Int)) rfl rfl;cases e;exact c
  have c3:w.cell? ⟨bb,o+3,none⟩=some (.int .u8 (x3.toNat:Int)):=by obtain ⟨_,_,e,c⟩:=HH.out.at1 (k:=3) (x:=x3) (u:=.int .u8 (x3.toNat:Int)) rfl rfl;cases e;exact c
  have c4:w.cell? ⟨bb,o+4,none⟩=some (.int .u8 (x4.toNat:Int)):=by obtain ⟨_,_,e,c⟩:=HH.out.at1 (k:=4) (x:=x4) (u:=.int .u8 (x4.toNat:Int)) rfl rfl;cases e;exact c
  rw[Nat.add_zero] at c0
  have l0:=x0.toNat_lt
  have l1:=x1.toNat_lt
  have l2:=x2.toNat_lt
  have l3:=x3.toNat_lt
  have l4:=x4.toNat_lt
  simp only[List.length_cons,List.length_nil,Nat.zero_add,Nat.reduceAdd] at hcap ⊢
  go_enter Tryz.func63,Tryz.ntmps63
  go_wp2_with fail
  all_goals
   (try simp only[Exit.inBlock,Exit.then])
   refine bodyPost_ret (Zf rfl _ _ _) rfl ?_
   exact .inr ⟨HNO.out,⟨_,by decide,rfl⟩,Below.refl _ _⟩
 | [x0,x1,x2,x3,x4,x5],_,HH,HNO,hcap =>
  obtain ⟨bb,o,rfl,c0⟩:=HH.out.at1 (k:=0) (x:=x0) (u:=.int .u8 (x0.toNat:Int)) rfl rfl
  have c1:w.cell? ⟨bb,o+1,none⟩=some (.int .u8 (x1.toNat:Int)):=by obtain ⟨_,_,e,c⟩:=HH.out.at1 (k:=1) (x:=x1) (u:=.int .u8 (x1.toNat:Int)) rfl rfl;cases e;exact c
  have c2:w.cell? ⟨bb,o+2,none⟩=some (.int .u8 (x2.toNat:Int)):=by obtain ⟨_,_,e,c⟩:=HH.out.at1 (k:=2) (x:=x2) (u:=.int .u8 (x2.toNat:Int)) rfl rfl;cases e;exact c
  have c3:w.cell? ⟨bb,o+3,none⟩=some (.int .u8 (x3.toNat:Int)):=by obtain ⟨_,_,e,c⟩:=HH.out.at1 (k:=3) (x:=x3) (u:=.int .u8 (x3.toNat:Int)) rfl rfl;cases e;exact c
  have c4:w.cell? ⟨bb,o+4,none⟩=some (.int .u8 (x4.toNat:Int)):=by obtain ⟨_,_,e,c⟩:=HH.out.at1 (k:=4) (x:=x4) (u:=.int .u8 (x4.toNat:Int)) rfl rfl;cases e;exact c
  have c5:w.cell? ⟨bb,o+5,none⟩=some (.int .u8 (x5.toNat:Int)):=by obtain ⟨_,_,e,c⟩:=HH.out.at1 (k:=5) (x:=x5) (u:=.int .u8 (x5.toNat:Int)) rfl rfl;cases e;exact c
  rw[Nat.add_zero] at c0
  have l0:=x0.toNat_lt
  have l1:=x1.toNat_lt
  have l2:=x2.toNat_lt
  have l3:=x3.toNat_lt
  have l4:=x4.toNat_lt
  have l5:=x5.toNat_lt
  simp only[List.length_cons,List.length_nil,Nat.zero_add,Nat.reduceAdd] at hcap ⊢
  go_enter Tryz.func63,Tryz.ntmps63
  go_wp2_with fail
  all_goals
   (try simp only[Exit.inBlock,Exit.then])
   refine bodyPost_ret (Zf rfl _ _ _) rfl ?_
   exact .inr ⟨HNO.out,⟨_,by decide,rfl⟩,Below.refl _ _⟩
theorem Z8n (a b c d p q r N:Nat) (h:a+b*p+c*q+d*r=N):(a:Int)+(b:Int)*(p:Int)+(c:Int)*(q:Int)+(d:Int)*(r:Int)=(N:Int):=by
 rw[←h]
 push_cast
 rfl
theorem Z8m {b:List UInt8} (h:7≤b.length):∃ m0 m1 k a0 a1 a2 a3 r,b=m0 :: m1 :: k :: a0 :: a1 :: a2 :: a3 :: r:=by
 match b,h with
 | m0 :: m1 :: k :: a0 :: a1 :: a2 :: a3 :: r,_=>exact ⟨m0,m1,k,a0,a1,a2,a3,r,rfl⟩
theorem QW {m0 m1 k a0 a1 a2 a3:UInt8} {r:List UInt8} {q:UInt8 × List UInt8} (h:Yp (m0 :: m1 :: k :: a0 :: a1 :: a2 :: a3 :: r)=some q):q.1=k∧q.2.length=Ys a0 a1 a2 a3∧q.2=((m0 :: m1 :: k :: a0 :: a1 :: a2 :: a3 :: r).take (11+Ys a0 a1 a2 a3)).drop 11∧Xq k q.2=(m0 :: m1 :: k :: a0 :: a1 :: a2 :: a3 :: r).take (11+Ys a0 a1 a2 a3):=by
 have h9:=Qp (k:=q.1) (body:=q.2) h
 by_cases hl:11≤(m0 :: m1 :: k :: a0 :: a1 :: a2 :: a3 :: r).length
 ·obtain ⟨_,_,_,_,_,_,_,s0,s1,s2,s3,t,e⟩:=ST hl
  simp only[List.cons.injEq] at e
  obtain ⟨rfl,rfl,rfl,rfl,rfl,rfl,rfl,rfl⟩:=e
  rw[U5] at h
  split at h
  ·rename_i hc
   cases h
   obtain ⟨n,hn⟩:=Je (Ys a0 a1 a2 a3)
   rw[hn] at hc h9 ⊢
   have hlen:(t.take n).length=n:=by rw[List.length_take,Nat.min_eq_left hc.2.2.2.1]
   rw[TO]
   refine ⟨rfl,hlen,rfl,?_⟩
   have h8:=(List.prefix_iff_eq_take.1 h9.2)
   rw[Rr,hlen,TO] at h8
   exact h8
  ·cases h
 ·rw[Xs (by omega)] at h
  cases h
theorem Z2d {m0 m1 k a0 a1 a2 a3:UInt8} {r:List UInt8} {N:Nat} (hN:Ys a0 a1 a2 a3=N) (hb:N≤65536) (hl:11+N≤(m0 :: m1 :: k :: a0 :: a1 :: a2 :: a3 :: r).length) :
  (Xq k (((m0 :: m1 :: k :: a0 :: a1 :: a2 :: a3 :: r).take (11+N)).drop 11)=(m0 :: m1 :: k :: a0 :: a1 :: a2 :: a3 :: r).take (11+N)→Yp (m0 :: m1 :: k :: a0 :: a1 :: a2 :: a3 :: r)=some (k,((m0 :: m1 :: k :: a0 :: a1 :: a2 :: a3 :: r).take (11+N)).drop 11)) ∧
  (¬ Xq k (((m0 :: m1 :: k :: a0 :: a1 :: a2 :: a3 :: r).take (11+N)).drop 11)=(m0 :: m1 :: k :: a0 :: a1 :: a2 :: a3 :: r).take (11+N)→Yp (m0 :: m1 :: k :: a0 :: a1 :: a2 :: a3 :: r)=none):=by
 subst hN
 constructor
 ·intro h
  refine Z3s ⟨?_,?_⟩
  ·rw[List.length_drop,List.length_take];omega
  ·rw[h];exact List.take_prefix _ _
 ·intro h
  cases ht:Yp (m0 :: m1 :: k :: a0 :: a1 :: a2 :: a3 :: r) with
  | none=>rfl
  | some q =>
   obtain ⟨h1,h2,h3,h4⟩:=QW ht
   rw[h3] at h4
   exact absurd h4 h
theorem Z4V {m0 m1 k a0 a1 a2 a3:UInt8} {r:List UInt8} {N:Nat} (hN:Ys a0 a1 a2 a3=N) (h:65536<N∨(m0 :: m1 :: k :: a0 :: a1 :: a2 :: a3 :: r).length<11+N):Yp (m0 :: m1 :: k :: a0 :: a1 :: a2 :: a3 :: r)=none:=by
 subst hN
 cases ht:Yp (m0 :: m1 :: k :: a0 :: a1 :: a2 :: a3 :: r) with
 | none=>rfl
 | some q =>
  obtain ⟨h1,h2,h3,h4⟩:=QW ht
  have h5:=Z20 (k:=q.1) (body:=q.2) ht
  omega
theorem Z52 (v:Value) (b:List UInt8) (w:World) (h:Z0 u8c 1 w v b):Calls Tryz.prog 63 #[v] w fun e w'=>Ul w b e w':=by
 by_cases h7:b.length<7
 ·exact Z2z v b w h h7
 obtain ⟨m0,m1,k,x3,x4,x5,x6,r,rfl⟩:=Z8m (b:=b) (by omega)
 obtain ⟨a,cap,rfl,hcap,hmax,-⟩:=id h
 unfold maxLen at hmax
 have HP:=Jh (fun N hN=>Z2d (m0:=m0) (m1:=m1) (k:=k) (a0:=x3) (a1:=x4) (a2:=x5) (a3:=x6) (r:=r) (N:=N) hN)
 have HM:=Jh (fun N hN=>Z4V (m0:=m0) (m1:=m1) (k:=k) (a0:=x3) (a1:=x4) (a2:=x5) (a3:=x6) (r:=r) (N:=N) hN)
 have HMK:=Jh (Z0g (b:=m0 :: m1 :: k :: x3 :: x4 :: x5 :: x6 :: r))
 obtain ⟨b,hb⟩:=Je (m0 :: m1 :: k :: x3 :: x4 :: x5 :: x6 :: r)
 have g0:b[0]?=some m0:=by rw[←hb];rfl
 have g1:b[1]?=some m1:=by rw[←hb];rfl
 have g2:b[2]?=some k:=by rw[←hb];rfl
 have g3:b[3]?=some x3:=by rw[←hb];rfl
 have g4:b[4]?=some x4:=by rw[←hb];rfl
 have g5:b[5]?=some x5:=by rw[←hb];rfl
 have g6:b[6]?=some x6:=by rw[←hb];rfl
 rw[hb] at h h7 hcap HP HM HMK ⊢
 have hmk:Yp b≠none→m0=83∧m1=84:=fun h=>by have:=HMK.out h;rw[←hb] at this;simpa using this
 clear HMK hb
 obtain ⟨n,hn⟩:=Je (b.length)
 rw[hn] at h hcap h7 HP HM ⊢
 have HH:=Lib.hid h
 obtain ⟨bb,o,rfl,c0⟩:=h.at1 g0 rfl
 have l0:=m0.toNat_lt
 have c1:w.cell? ⟨bb,o+1,none⟩=some (.int .u8 (m1.toNat:Int)):=by obtain ⟨_,_,e,c⟩:=h.at1 g1 rfl;cases e;exact c
 have l1:=m1.toNat_lt
 have c2:w.cell? ⟨bb,o+2,none⟩=some (.int .u8 (k.toNat:Int)):=by obtain ⟨_,_,e,c⟩:=h.at1 g2 rfl;cases e;exact c
 have l2:=k.toNat_lt
 have c3:w.cell? ⟨bb,o+3,none⟩=some (.int .u8 (x3.toNat:Int)):=by obtain ⟨_,_,e,c⟩:=h.at1 g3 rfl;cases e;exact c
 have l3:=x3.toNat_lt
 have c4:w.cell? ⟨bb,o+4,none⟩=some (.int .u8 (x4.toNat:Int)):=by obtain ⟨_,_,e,c⟩:=h.at1 g4 rfl;cases e;exact c
 have l4:=x4.toNat_lt
 have c5:w.cell? ⟨bb,o+5,none⟩=some (.int .u8 (x5.toNat:Int)):=by obtain ⟨_,_,e,c⟩:=h.at1 g5 rfl;cases e;exact c
 have l5:=x5.toNat_lt
 have c6:w.cell? ⟨bb,o+6,none⟩=some (.int .u8 (x6.toNat:Int)):=by obtain ⟨_,_,e,c⟩:=h.at1 g6 rfl;cases e;exact c
 have l6:=x6.toNat_lt
 rw[Nat.add_zero] at c0
 have h70:¬ (n:Int)<7:=by omega
 have h0n:(0:Int)<(n:Int):=by omega
 have h1n:(1:Int)<(n:Int):=by omega
 clear h g0 g1 g3 g4 g5 g6
 by_cases hm:m0=83∧m1=84
 rotate_left
 ·have HNO:Hid (Yp b=none):=Jh (Classical.byContradiction fun h=>hm (hmk h))
  by_cases hm0:m0=83
  ·have hm1:¬ (m1.toNat:Int)=84:=fun e=>hm ⟨hm0,UInt8.toNat_inj.1 (show m1.toNat=84 by omega)⟩
   subst hm0
   clear hm hmk
   go_enter Tryz.func63,Tryz.ntmps63
   go_wp2_with fail
   (try simp only[Exit.inBlock,Exit.then])
   refine bodyPost_ret (Zf rfl _ _ _) rfl ?_
   exact .inr ⟨HNO.out,⟨_,by decide,rfl⟩,Below.refl _ _⟩
  ·have hm1:¬ (m0.toNat:Int)=83:=fun e=>hm0 (UInt8.toNat_inj.1 (show m0.toNat=83 by omega))
   clear hm hmk hm0
   go_enter Tryz.func63,Tryz.ntmps63
   go_wp2_with fail
   (try simp only[Exit.inBlock,Exit.then])
   refine bodyPost_ret (Zf rfl _ _ _) rfl ?_
   exact .inr ⟨HNO.out,⟨_,by decide,rfl⟩,Below.refl _ _⟩
 obtain ⟨rfl,rfl⟩:=hm
 clear hmk
 obtain ⟨N,hN⟩:=Je (Ys x3 x4 x5 x6)
 have hsum:x3.toNat+x4.toNat*256+x5.toNat*65536+x6.toNat*16777216=N:=hN
 have HN:=Lib.hid hN
 have HS:=Lib.hid hsum
 have i0:IntKind.i64.wrap ((x3.toNat:Int))=(x3.toNat:Int):=IntWalk.i64_in _ (by omega)
 have i1:IntKind.i64.wrap ((x4.toNat:Int))=(x4.toNat:Int):=IntWalk.i64_in _ (by omega)
 have i2:IntKind.i64.wrap ((x5.toNat:Int))=(x5.toNat:Int):=IntWalk.i64_in _ (by omega)
 have i3:IntKind.i64.wrap ((x6.toNat:Int))=(x6.toNat:Int):=IntWalk.i64_in _ (by omega)
 have i4:IntKind.i64.wrap ((x4.toNat:Int)*256)=(x4.toNat:Int)*256:=IntWalk.i64_in _ (by omega)
 have i5:IntKind.i64.wrap ((x5.toNat:Int)*65536)=(x5.toNat:Int)*65536:=IntWalk.i64_in _ (by omega)
 have i6:IntKind.i64.wrap ((x6.toNat:Int)*16777216)=(x6.toNat:Int)*16777216:=IntWalk.i64_in _ (by omega)
 have i7:IntKind.i64.wrap ((x3.toNat:Int)+(x4.toNat:Int)*256)=(x3.toNat:Int)+(x4.toNat:Int)*256:=IntWalk.i64_in _ (by omega)
 have i8:IntKind.i64.wrap ((x3.toNat:Int)+(x4.toNat:Int)*256+(x5.toNat:Int)*65536)=(x3.toNat:Int)+(x4.toNat:Int)*256+(x5.toNat:Int)*65536:=IntWalk.i64_in _ (by omega)
 have i9:IntKind.i64.wrap ((x3.toNat:Int)+(x4.toNat:Int)*256+(x5.toNat:Int)*65536+(x6.toNat:Int)*16777216)=(x3.toNat:Int)+(x4.toNat:Int)*256+(x5.toNat:Int)*65536+(x6.toNat:Int)*16777216:=IntWalk.i64_in _ (by omega)
 have u2:¬ (n:Int)≤2:=by omega
 have u3:¬ (n:Int)≤3:=by omega
 have u4:¬ (n:Int)≤4:=by omega
 have u5:¬ (n:Int)≤5:=by omega
 have u6:¬ (n:Int)≤6:=by omega
 go_enter Tryz.func63,Tryz.ntmps63
 go_upto_region 7 with fail
 refine Z6 (fun W:World=>W.cell? ⟨bb,o+3,none⟩=some (.int .u8 (x3.toNat:Int))∧W.cell? ⟨bb,o+4,none⟩=some (.int .u8 (x4.toNat:Int))∧W.cell? ⟨bb,o+5,none⟩=some (.int .u8 (x5.toNat:Int))∧W.cell? ⟨bb,o+6,none⟩=some (.int .u8 (x6.toNat:Int))) (fun _=>false) (by kernel_rfl) ?_
 have hS0:(fun W:World=>W.cell? ⟨bb,o+3,none⟩=some (.int .u8 (x3.toNat:Int))∧W.cell? ⟨bb,o+4,none⟩=some (.int .u8 (x4.toNat:Int))∧W.cell? ⟨bb,o+5,none⟩=some (.int .u8 (x5.toNat:Int))∧W.cell? ⟨bb,o+6,none⟩=some (.int .u8 (x6.toNat:Int))) w.drew:=⟨c3,c4,c5,c6⟩
 have H2:Hid (w.drew.cell? ⟨bb,o+2,none⟩=some (.int .u8 (k.toNat:Int))∧Z0 u8c 1 w.drew (.slice (some ⟨bb,o,none⟩) n cap) b∧Below w.heap.size w w.drew):=Lib.hid ⟨c2,HH.out.below (Below.refl _ _).drew,(Below.refl _ _).drew⟩
 clear c0 c1 c2 c3 c4 c5 c6 hsum
 generalize w.drew=W1 at hS0 H2 ⊢
 refine J4 0 64 _ hS0 ?_
 try simp only[Ja]
 refine J4 1 65 (.pointer (some ⟨bb,o+3,none⟩)) hS0 ?_
 try simp only[Ja]
 refine J4 2 66 (.int .u8 (x3.toNat:Int)) hS0 ?_
 try simp only[Ja]
 refine J4 3 67 (.int .i64 (x3.toNat:Int)) hS0 ?_
 try simp only[Ja]
 refine J4 4 68 _ hS0 ?_
 try simp only[Ja]
 refine J4 5 69 (.pointer (some ⟨bb,o+4,none⟩)) hS0 ?_
 try simp only[Ja]
 refine J4 6 70 (.int .u8 (x4.toNat:Int)) hS0 ?_
 try simp only[Ja]
 refine J4 7 71 (.int .i64 (x4.toNat:Int)) hS0 ?_
 try simp only[Ja]
 refine J4 8 72 (.int .i64 ((x4.toNat:Int)*256)) hS0 ?_
 try simp only[Ja]
 refine J4 9 73 (.int .i64 ((x3.toNat:Int)+(x4.toNat:Int)*256)) hS0 ?_
 try simp only[Ja]
 refine J4 10 74 _ hS0 ?_
 try simp only[Ja]
 refine J4 11 75 (.pointer (some ⟨bb,o+5,none⟩)) hS0 ?_
 try simp only[Ja]
 refine J4 12 76 (.int .u8 (x5.toNat:Int)) hS0 ?_
 try simp only[Ja]
 refine J4 13 77 (.int .i64 (x5.toNat:Int)) hS0 ?_
 try simp only[Ja]
 refine J4 14 78 (.int .i64 ((x5.toNat:Int)*65536)) hS0 ?_
 try simp only[Ja]
 refine J4 15 79 (.int .i64 ((x3.toNat:Int)+(x4.toNat:Int)*256+(x5.toNat:Int)*65536)) hS0 ?_
 try simp only[Ja]
 refine J4 16 80 _ hS0 ?_
 try simp only[Ja]
 refine J4 17 81 (.pointer (some ⟨bb,o+6,none⟩)) hS0 ?_
 try simp only[Ja]
 refine J4 18 82 (.int .u8 (x6.toNat:Int)) hS0 ?_
 try simp only[Ja]
 refine J4 19 83 (.int .i64 (x6.toNat:Int)) hS0 ?_
 try simp only[Ja]
 refine J4 20 84 (.int .i64 ((x6.toNat:Int)*16777216)) hS0 ?_
 try simp only[Ja]
 refine J4 21 85 (.int .i64 ((x3.toNat:Int)+(x4.toNat:Int)*256+(x5.toNat:Int)*65536+(x6.toNat:Int)*16777216)) hS0 ?_
 try simp only[Ja]
 refine J4 22 6 _ hS0 ?_
 try simp only[Ja]
 refine Z3 (by kernel_rfl) ?_ _
 rw[show (x3.toNat:Int)+(x4.toNat:Int)*256+(x5.toNat:Int)*65536+(x6.toNat:Int)*16777216=(N:Int) from Z8n x3.toNat x4.toNat x5.toNat x6.toNat 256 65536 16777216 N HS.out]
 clear l0 l1 l3 l4 l5 l6 hS0 i0 i1 i2 i3 i4 i5 i6 i7 i8 i9 u3 u4 u5 u6
 by_cases hbig:65536<N
 ·have hb1:(65536:Int)<(N:Int):=by omega
  have HNO:=Jh (HM.out N HN.out (.inl hbig))
  go_wp2_with fail
  (try simp only[Exit.inBlock,Exit.then])
  refine bodyPost_ret (Zf rfl _ _ _) rfl ?_
  exact .inr ⟨HNO.out,⟨_,by decide,rfl⟩,H2.out.2.2⟩
 have hb1:¬ (65536:Int)<(N:Int):=by omega
 have hNb:N≤65536:=by omega
 by_cases hsh:n<11+N
 ·have hs2:(n:Int)<11+(N:Int):=by omega
  have HNO:=Jh (HM.out N HN.out (.inr hsh))
  go_wp2_with fail
  (try simp only[Exit.inBlock,Exit.then])
  refine bodyPost_ret (Zf rfl _ _ _) rfl ?_
  exact .inr ⟨HNO.out,⟨_,by decide,rfl⟩,H2.out.2.2⟩
 have hs2:¬ (n:Int)<11+(N:Int):=by omega
 have ck:=H2.out.1
 obtain ⟨a5,c5,hs5,hS5⟩:=YV (P:=Tryz.prog) (ea:=u8c) Tryz.underlying22 Zi (some ⟨bb,o,none⟩) n cap 11 (11+N) hcap (by omega) (by omega)
 have hr5:∀ W,(Instr.slice 22 (.slice (some ⟨bb,o,none⟩) n cap) (some (.int .i64 11)) (some (.int .i64 (11+(N:Int)))) none).run Tryz.prog W=.ok (.slice a5 N c5) W:=fun W=>by
  have:=hs5 W
  rwa [show ((11+N:Nat):Int)=11+(N:Int) by omega,show 11+N - 11=N by omega] at this
 obtain ⟨a6,hs6,hS6⟩:=Yt (P:=Tryz.prog) (ea:=u8c) Tryz.underlying22 Zi (some ⟨bb,o,none⟩) n cap (11+N) hcap (by omega)
 have hr6:∀ W,(Instr.slice 22 (.slice (some ⟨bb,o,none⟩) n cap) none (some (.int .i64 (11+(N:Int)))) none).run Tryz.prog W=.ok (.slice a6 (11+N) cap) W:=fun W=>by
  have:=hs6 W
  rwa [show ((11+N:Nat):Int)=11+(N:Int) by omega] at this
 obtain ⟨body,hbody⟩:=Je ((b.take (11+N)).drop 11)
 have hq5:=hS5 W1 b hn H2.out.2.1
 rw[hbody,show 11+N - 11=N by omega] at hq5
 have hq6:=hS6 W1 b hn H2.out.2.1
 have hbl:body.length=N:=by rw[←hbody,List.length_drop,List.length_take];omega
 have hpl:=HP.out N HN.out hNb (by omega)
 rw[hbody] at hpl
 have H5:=Jh (And.intro hq5 (And.intro hq6 (And.intro hbl hpl)))
 clear hs5 hS5 hs6 hS6 hq5 hq6 hbl hpl hbody
 have h2n:(2:Int)<(n:Int):=by omega
 have iN:IntKind.i64.wrap (11+(N:Int))=11+(N:Int):=IntWalk.i64_in _ (by omega)
 have hN0:(0:Int)≤11+(N:Int):=by omega
 go_wp2_with fail
 refine Z6 (fun W:World=>W.cell? ⟨bb,o+2,none⟩=some (.int .u8 (k.toNat:Int))) (fun _=>false) (by kernel_rfl) ?_
 have hS0:(fun W:World=>W.cell? ⟨bb,o+2,none⟩=some (.int .u8 (k.toNat:Int))) W1.drew:=ck
 have H2d:Hid (Z0 u8c 1 W1.drew (.slice a5 N c5) body∧Z0 u8c 1 W1.drew (.slice a6 (11+N) cap) (b.take (11+N))∧Below w.heap.size w W1.drew):=Lib.hid ⟨H5.out.1.below (Below.refl _ _).drew,H5.out.2.1.below (Below.refl _ _).drew,H2.out.2.2.drew⟩
 clear ck
 generalize W1.drew=W2 at hS0 H2d ⊢
 refine J0 0 94 _ hS0 ?_
 try simp only[Ja]
 refine J0 1 95 (.pointer (some ⟨bb,o+2,none⟩)) hS0 ?_
 try simp only[Ja]
 refine J0 2 96 _ hS0 ?_
 try simp only[Ja]
 refine J0 3 97 _ hS0 ?_
 try simp only[Ja]
 refine J0 4 98 _ hS0 ?_
 try simp only[Ja]
 refine J0 5 99 (.int .i64 (11+(N:Int))) hS0 ?_
 try simp only[Ja]
 refine J0 6 100 (.slice a5 N c5) hS0 ?_
 try simp only[Ja]
 refine Zm (i:=7) (d:=some 101) (f:=67) (args:=#[.int .u8 (k.toNat:Int),.slice a5 N c5]) (w':=W2) (by kernel_rfl) rfl rfl (by rfl) (by go_simp;try rfl) ?_
 refine (Z61 k _ body _ H2d.out.1).mono ?_
 rintro e w3 (⟨_,v3,rfl,own3,b3⟩|⟨h,_⟩)
 rotate_left
 ·exact absurd h (by rw[H5.out.2.2.1];omega)
 obtain ⟨⟨sa,sn,sc⟩,e3⟩:=own3.sl
 dsimp only at e3
 subst e3
 have hS3:(fun W:World=>W.cell? ⟨bb,o+2,none⟩=some (.int .u8 (k.toNat:Int))) w3:=Y9 b3 hS0
 refine ⟨_,rfl,fun _=>hS3,?_⟩
 try simp only[Ja]
 refine J0 8 93 _ hS3 ?_
 try simp only[Ja]
 refine J0 9 102 (.slice sa sn sc) hS3 ?_
 try simp only[Ja]
 refine J0 10 103 (.int .i64 0) hS3 ?_
 try simp only[Ja]
 refine J0 11 7 _ hS3 ?_
 try simp only[Ja]
 refine J0 12 8 _ hS3 ?_
 try simp only[Ja]
 refine Z3 (by kernel_rfl) ?_ _
 have H3:=Jh (And.intro (own3.slice Z7) (And.intro (H2d.out.2.1.below b3) (And.intro (H2d.out.1.below b3) (And.intro hS3 (H2d.out.2.2.trans (b3.mono H2d.out.2.2.size))))))
 clear own3 b3 hS3 hS0
 go_wp2_with fail
 refine Z6 (fun W:World=>Z0 u8c 1 W (.slice sa sn sc) (Xq k body)∧Z0 u8c 1 W (.slice a6 (11+N) cap) (b.take (11+N))) (fun _=>false) (by kernel_rfl) ?_
 have hS0:(fun W:World=>Z0 u8c 1 W (.slice sa sn sc) (Xq k body)∧Z0 u8c 1 W (.slice a6 (11+N) cap) (b.take (11+N))) w3.drew:=⟨H3.out.1.below (Below.refl _ _).drew,H3.out.2.1.below (Below.refl _ _).drew⟩
 have H4:Hid (w3.drew.cell? ⟨bb,o+2,none⟩=some (.int .u8 (k.toNat:Int))∧Z0 u8c 1 w3.drew (.slice a5 N c5) body∧Below w.heap.size w w3.drew):=Lib.hid ⟨H3.out.2.2.2.1,H3.out.2.2.1.below (Below.refl _ _).drew,H3.out.2.2.2.2.drew⟩
 clear H3
 generalize w3.drew=W4 at hS0 H4 ⊢
 by_cases heq:Xq k body=b.take (11+N)
 rotate_left
 ·have HNO:=Jh (H5.out.2.2.2.2 heq)
  have HQ:=Lib.hid heq
  clear heq
  refine J2 0 104 _ hS0 ?_
  try simp only[Ja]
  refine JR 1 105 (.string ⟨(Xq k body).toArray⟩) rfl rfl hS0 (fun W hW=>by obtain ⟨q0,q1⟩:=hW;have q3:=Zs q0;go_simp;try rfl) ?_
  try simp only[Ja]
  refine J2 2 106 _ hS0 ?_
  try simp only[Ja]
  refine J2 3 107 _ hS0 ?_
  try simp only[Ja]
  refine J2 4 108 (.int .i64 (11+(N:Int))) hS0 ?_
  try simp only[Ja]
  refine J2 5 109 (.slice a6 (11+N) cap) hS0 ?_
  try simp only[Ja]
  refine JR 6 110 (.string ⟨(b.take (11+N)).toArray⟩) rfl rfl hS0 (fun W hW=>by obtain ⟨q0,q1⟩:=hW;have q3:=Zs q1;go_simp;try rfl) ?_
  try simp only[Ja]
  refine JR 7 111 (.bool true) rfl rfl hS0 (fun W hW=>by obtain ⟨q0,q1⟩:=hW;have q4:=HQ.out;go_simp;try rfl) ?_
  try simp only[Ja]
  refine Z3 (by kernel_rfl) ?_ _
  clear hS0
  go_wp2_with fail
  (try simp only[Exit.inBlock,Exit.then])
  refine bodyPost_ret (Zf rfl _ _ _) rfl ?_
  exact .inr ⟨HNO.out,⟨_,by decide,rfl⟩,H4.out.2.2⟩
 have HYES:=Jh (H5.out.2.2.2.1 heq)
 have HQ:=Lib.hid heq
 clear heq
 refine J2 0 104 _ hS0 ?_
 try simp only[Ja]
 refine JR 1 105 (.string ⟨(Xq k body).toArray⟩) rfl rfl hS0 (fun W hW=>by obtain ⟨q0,q1⟩:=hW;have q3:=Zs q0;go_simp;try rfl) ?_
 try simp only[Ja]
 refine J2 2 106 _ hS0 ?_
 try simp only[Ja]
 refine J2 3 107 _ hS0 ?_
 try simp only[Ja]
 refine J2 4 108 (.int .i64 (11+(N:Int))) hS0 ?_
 try simp only[Ja]
 refine J2 5 109 (.slice a6 (11+N) cap) hS0 ?_
 try simp only[Ja]
 refine JR 6 110 (.string ⟨(b.take (11+N)).toArray⟩) rfl rfl hS0 (fun W hW=>by obtain ⟨q0,q1⟩:=hW;have q3:=Zs q1;go_simp;try rfl) ?_
 try simp only[Ja]
 refine JR 7 111 (.bool false) rfl rfl hS0 (fun W hW=>by obtain ⟨q0,q1⟩:=hW;have q4:=HQ.out;go_simp;try rfl) ?_
 try simp only[Ja]
 refine Z3 (by kernel_rfl) ?_ _
 clear hS0
 go_wp2_with fail
 refine Z6 (fun W:World=>W.cell? ⟨bb,o+2,none⟩=some (.int .u8 (k.toNat:Int))) (fun _=>false) (by kernel_rfl) ?_
 have hS0:(fun W:World=>W.cell? ⟨bb,o+2,none⟩=some (.int .u8 (k.toNat:Int))) W4.drew:=H4.out.1
 have H6:Hid (Z0 u8c 1 W4.drew (.slice a5 N c5) body∧Below w.heap.size w W4.drew):=Lib.hid ⟨H4.out.2.1.below (Below.refl _ _).drew,H4.out.2.2.drew⟩
 clear H4
 generalize W4.drew=W5 at hS0 H6 ⊢
 refine J0 0 112 _ hS0 ?_
 try simp only[Ja]
 refine J0 1 113 (.pointer (some ⟨bb,o+2,none⟩)) hS0 ?_
 try simp only[Ja]
 refine J0 2 114 _ hS0 ?_
 try simp only[Ja]
 refine J0 4 116 _ hS0 ?_
 try simp only[Ja]
 refine J0 5 117 _ hS0 ?_
 try simp only[Ja]
 refine J0 6 118 (.int .i64 (11+(N:Int))) hS0 ?_
 try simp only[Ja]
 refine J0 7 119 (.slice a5 N c5) hS0 ?_
 try simp only[Ja]
 refine J0 9 121 _ hS0 ?_
 try simp only[Ja]
 refine J0 10 122 (.int .i64 (11+(N:Int))) hS0 ?_
 try simp only[Ja]
 have b6:Below W5.heap.size W5 (W5.alloc (.cells #[] 5)):=(Below.refl _ _).alloc (Nat.le_refl _) _
 refine Zk (i:=3) (d:=some 115) (v:=.slice (some ⟨W5.heap.size,0,none⟩) 0 0) (w':=W5.alloc (.cells #[] 5)) (by kernel_rfl) rfl rfl (by rfl) (by go_simp;try rfl) (fun _=>Y9 b6 hS0) ?_
 try simp only[Ja]
 obtain ⟨⟨ua,un,uc⟩,w7,hr7,own7,b7,z7⟩:=ZF (Z10 (base:=W5.heap.size) (Nat.le_refl _)) b6 (H6.out.1.below b6) b6.size (by simp;omega)
 rw[List.nil_append] at own7
 refine Zk (i:=8) (d:=some 120) (v:=.slice ua un uc) (w':=w7) (by kernel_rfl) rfl rfl (by rfl) (Xp rfl rfl rfl hr7) (fun _=>Y9 b7 hS0) ?_
 try simp only[Ja]
 have hS7:(fun W:World=>W.cell? ⟨bb,o+2,none⟩=some (.int .u8 (k.toNat:Int))) w7:=Y9 b7 hS0
 refine J0 11 2 _ hS7 ?_
 try simp only[Ja]
 refine J0 12 3 _ hS7 ?_
 try simp only[Ja]
 refine J0 13 4 _ hS7 ?_
 try simp only[Ja]
 refine J0 14 5 _ hS7 ?_
 try simp only[Ja]
 refine Z3 (by kernel_rfl) ?_ _
 have HFIN:=Jh (And.intro (own7.mono H6.out.2.size) (H6.out.2.trans (b7.mono H6.out.2.size)))
 clear own7 b7 b6 hS7 hS0 hr5 hr6 hr7 z7
 go_wp2_with fail
 (try simp only[Exit.inBlock,Exit.then])
 refine bodyPost_ret (Zf rfl _ _ _) rfl ?_
 refine .inl ⟨k,body,_,HYES.out,?_,HFIN.out.1,HFIN.out.2⟩
 have e11:((11+body.length:Nat):Int)=11+(N:Int):=by rw[H5.out.2.2.1];omega
 rw[e11]
 rfl
theorem TW (v:Value) (b:List UInt8) (n:Nat) (w:World) (h:Z0 u8c 1 w v b) (hn0:n≤65536):Calls Tryz.prog 109 #[v,.int .i64 n] w fun e w'=>Z6d w b n e w':=by
 obtain ⟨a,cap,rfl,hcap,hmax,hca⟩:=id h
 unfold maxLen at hmax
 obtain ⟨i0,hi,hy0,hy1,hy2⟩:=info_parts UF
 have HNA:=Jh (fun (e:a=none)=>show b=[] from Classical.byContradiction fun hne=>by obtain ⟨_,_,e2,_⟩:=hca hne;rw[e] at e2;cases e2)
 have HH:=Lib.hid h
 clear h hca
 have hn1:¬ (n:Int)<0:=by omega
 have hn2:¬ (65536:Int)<(n:Int):=by omega
 go_enter Tryz.func109,Tryz.ntmps109
 go_wp2_with fail
 go_loopg [7,8,9] (2*n+1) (fun g lv pv vv wr=>∃ (s:Sl) (l:List Bool) (p:Nat) (v:Bool),g=2*(n - l.length)+(if p=0 then 1 else 0)∧lv=.slice s.a s.n s.cap∧pv=.int .i64 p∧vv=.bool v∧s.n=l.length∧l.length≤n∧p≤b.length∧Hid (TB b n l p v)∧Hid (Own btc 1 4 w.heap.size wr (.slice s.a s.n s.cap) l∧Below w.heap.size w wr))
 case atStart=>exact ⟨⟨none,0,0⟩,[],0,false,by simp,rfl,rfl,rfl,rfl,Nat.zero_le _,Nat.zero_le _,Jh (TB.zero b n),Lib.hid ⟨Own.nil,Below.refl _ _⟩⟩
 case round =>
  obtain ⟨⟨sa,sn,sc⟩,l,p,v,hg,rfl,rfl,rfl,hsn,hln,hpb,HT,HU⟩:=hrel
  dsimp only at hsn HU ⊢
  subst hsn
  have HG:=Lib.hid hg
  clear hg
  by_cases hlt:l.length<n
  ·have hl1:(l.length:Int)<(n:Int):=by omega
   have hp1:¬ (cap:Int)<(p:Int):=by omega
   have hp2:¬ (b.length:Int)<(p:Int):=by omega
   have hp3:(p:Int)≤(b.length:Int):=by omega
   cases a with
   | none =>
    have hb:b=[]:=HNA.out rfl
    have hp0:p=0:=by rw[hb] at hpb;exact Nat.le_zero.1 hpb
    have HD:=Jh (HT.out.bad hlt (.inl (by rw[hb];simp only[List.drop_nil];exact Tr)))
    have hr0:Yg ([]:List UInt8)=.tuple #[.int .u64 0,.int .i64 0,.int .i64 31]:=by unfold Yg;rw[Tr]
    have HR0:=Lib.hid hr0
    subst hb hp0
    clear hr0
    go_wp2_with fail
    all_goals
     refine (XV _ ([]:List UInt8) _ ⟨none,_,rfl,Nat.zero_le _,by unfold maxLen;omega,fun h=>absurd rfl h⟩).mono ?_
     rintro e w5 ⟨rfl,b5⟩
     have HB5:=Jh (HU.out.2.trans (b5.mono HU.out.2.size))
     rw[HR0.out]
     clear b5 HU HR0
     go_wp2_with fail
     go_ret3
     exact .inr ⟨HD.out,rfl,HB5.out⟩
   | some ad =>
    by_cases hcp:cap=p
    ·have hdr:b.drop p=[]:=List.drop_eq_nil_of_le (by omega)
     have HD:=Jh (HT.out.bad hlt (.inl (by rw[hdr];exact Tr)))
     have hr0:Yg ([]:List UInt8)=.tuple #[.int .u64 0,.int .i64 0,.int .i64 31]:=by unfold Yg;rw[Tr]
     have HR0:=Lib.hid hr0
     have HS:Hid (Z0 u8c 1 wr (.slice (some ad) (b.length - p) 0) ([]:List UInt8)):=Lib.hid ⟨some ad,0,by rw[show b.length - p=0 by omega];rfl,Nat.le_refl _,by unfold maxLen;omega,fun h=>absurd rfl h⟩
     clear hdr hr0
     go_wp2_with fail
     refine (XV _ _ _ HS.out).mono ?_
     rintro e w5 ⟨rfl,b5⟩
     have HB5:=Jh (HU.out.2.trans (b5.mono HU.out.2.size))
     rw[HR0.out]
     clear b5 HU HS HR0
     go_wp2_with fail
     go_ret3
     exact .inr ⟨HD.out,rfl,HB5.out⟩
    have HS:=Jh ((HH.out.below HU.out.2).drop1 hpb)
    go_wp2_with fail
    have HC:=Jh (XV (.slice (some (ad.add p)) (b.length - p) (cap - p)) (b.drop p) wr HS.out)
    refine Calls.mono HC.out ?_
    rintro e w5 ⟨rfl,b5⟩
    have HB5:=Jh (HU.out.2.trans (b5.mono HU.out.2.size))
    have HO5:=Jh (HU.out.1.below1 b5)
    clear b5 HU HS
    cases hk:ZA (b.drop p) with
    | none =>
     have hr:Yg (b.drop p)=.tuple #[.int .u64 0,.int .i64 0,.int .i64 31]:=by unfold Yg;rw[hk]
     have HD:=Jh (HT.out.bad hlt (.inl hk))
     rw[hr]
     clear hk hr
     go_wp2_with fail
     go_ret3
     exact .inr ⟨HD.out,rfl,HB5.out⟩
    | some k =>
     have hr:Yg (b.drop p)=.tuple #[.int .u64 k,.int .i64 (Z5 k).length,.int .i64 0]:=by unfold Yg;rw[hk]
     have hk64:=(Zz.1 hk).1
     rw[hr]
     obtain ⟨q,hq⟩:=Je ((Z5 k).length)
     rw[hq]
     obtain ⟨r,hrr⟩:∃ r:Nat,r=n - l.length:=⟨_,rfl⟩
     have hsub:(n:Int) - (l.length:Int)=(r:Int):=by omega
     by_cases hkn:r<k
     ·have hk1:(r:Int)<(k:Int):=by omega
      have HD:=Jh (HT.out.bad hlt (.inr ⟨k,hk,.inr (by omega)⟩))
      clear hk hr hq hrr hkn
      go_wp2_with fail
      go_ret3
      exact .inr ⟨HD.out,rfl,HB5.out⟩
     ·have hk1:¬ (r:Int)<(k:Int):=by omega
      by_cases hz:k=0∧p≠0
      ·obtain ⟨rfl,hp0⟩:=hz
       have hpz:¬ (p:Int)=0:=by omega
       have hp4:(0:Int)<(p:Int):=by omega
       have HD:=Jh (HT.out.bad hlt (.inr ⟨0,hk,.inl ⟨rfl,hp0⟩⟩))
       clear hk hr hq hrr hkn hp0
       go_wp2_with fail
       go_ret3
       exact .inr ⟨HD.out,rfl,HB5.out⟩
      ·have HNX:=Jh (HT.out.step hlt hk hz (by omega))
       rw[hq] at HNX
       have hqp:=(Zz.1 hk).2.length_le
       rw[hq,List.length_drop] at hqp
       have hq0:0<q:=by rw[←hq];exact List.length_pos_iff.2 (Wl k)
       have HQ:Hid (0<q∧p+q≤b.length):=Lib.hid ⟨hq0,by omega⟩
       have HKN:Hid (k≤n - l.length∧(k=0→p=0)):=Lib.hid ⟨by omega,fun e=>Classical.byContradiction fun h=>hz ⟨e,h⟩⟩
       have hgo:¬ k=0∨(k=0∧p=0):=by by_cases e:k=0;exact .inr ⟨e,HKN.out.2 e⟩;exact .inl e
       clear hk hr hq hqp hq0 hkn hz
       have hdk:decide (n - l.length<k)=false:=decide_eq_false (by have:=HKN.out.1;omega)
       rcases hgo with hgo|hgo
       ·have hz1:¬ (k:Int)=0:=by omega
        have hz2:((k:Int) == 0)=false:=by simpa using hz1
        go_wp2_with fail
        go_loopg [7,13] k (fun g lv mv wx=>∃ (m:Nat) (s:Sl),g=k - m∧lv=.slice s.a s.n s.cap∧mv=.int .u64 m∧m≤k∧Hid (Own btc 1 4 w.heap.size wx (.slice s.a s.n s.cap) (l++List.replicate m v)∧Below w.heap.size w wx))
        case atStart=>exact ⟨0,⟨sa,l.length,sc⟩,rfl,rfl,rfl,Nat.zero_le _,Lib.hid ⟨by rw[List.replicate_zero,List.append_nil];exact HO5.out,HB5.out⟩⟩
        case round =>
         obtain ⟨m,⟨ta,tn,tc⟩,hg2,rfl,rfl,hmk,HX⟩:=hrel
         dsimp only at HX ⊢
         have HG2:=Lib.hid hg2
         clear hg2
         by_cases hm:m<k
         ·have hm1:(m:Int)<(k:Int):=by omega
          have hsz:=HX.out.2.size
          have hll:(l++List.replicate m v).length=l.length+m:=by simp
          have hkn2:=HKN.out.1
          have hbd:(l++List.replicate m v).length+1≤maxLen∧((l++List.replicate m v).length+1)*1≤140737488355328:=by rw[hll];unfold maxLen;omega
          have HBD:=Lib.hid hbd
          clear hll hkn2 hbd hm
          go_wp2_with (at_builtin;refine Y7 rfl _ _ _ rfl i0 _ 1 Tryz.underlying75 hi hy0 hy1 hy2 rfl (by omega) ZX VC rfl (HX.out.1.alloc _) v wr.heap.size 1 rfl (Um _ v) HBD.out.1 HBD.out.2 (by simp;omega) ?_)
          intro v' w3 hown3 hx3
          have hB3:=Ext.new (HX.out.2.alloc HX.out.2.size (.cells #[.bool v] 4)) hx3 (fun i hi _ e=>by have:=(HX.out.1.blk i e).1;omega) (by simp;omega)
          rw[show l++(List.replicate m v++[v])=l++List.replicate (m+1) v by rw[List.replicate_succ']] at hown3
          obtain ⟨⟨ua,un,uc⟩,e3⟩:=hown3.sl
          dsimp only at e3
          subst e3
          have HN:=Jh (And.intro hown3 hB3)
          clear hown3 hx3 hB3
          go_wp2_with fail
          go_roundg (k - (m+1))
          case measure=>rw[HG2.out];omega
          case rel=>exact ⟨m+1,⟨ua,un,uc⟩,rfl,rfl,by simp,by omega,HN⟩
         ·have hm1:¬ (m:Int)<(k:Int):=by omega
          have hmk2:m=k:=by omega
          have HX2:Hid (Own btc 1 4 w.heap.size wr (.slice ta tn tc) (l++List.replicate k v)∧Below w.heap.size w wr):=Jh (by rw[←hmk2];exact HX.out)
          have hpq:((p+q:Nat):Int)=(p:Int)+(q:Int):=by omega
          have htn:=(HX2.out.1.nlen ZX).1
          have HTN:=Lib.hid htn
          have HMK:=Lib.hid hmk2
          have HPB:=Lib.hid hpb
          have hq3:=HQ.out
          clear hm hmk2 hpq htn HX
          go_wp2_with fail
          go_roundg (2*(n - (l++List.replicate k v).length)+(if p+q=0 then 1 else 0))
          case measure=>rw[HG.out,List.length_append,List.length_replicate,if_neg (by omega)];have h1:=HKN.out;split <;> omega
          case rel=>exact ⟨⟨ta,tn,tc⟩,l++List.replicate k v,p+q,!v,rfl,rfl,by simp,rfl,HTN.out,by rw[List.length_append,List.length_replicate];have h1:=HKN.out.1;omega,by omega,HNX,HX2⟩
       ·have hz2:((k:Int) == 0)=true:=by rw[hgo.1];rfl
        have hp4:¬ (0:Int)<(p:Int):=by omega
        have hdp:decide (0<p)=false:=decide_eq_false (by omega)
        clear hgo
        go_wp2_with fail
        go_loopg [7,13] k (fun g lv mv wx=>∃ (m:Nat) (s:Sl),g=k - m∧lv=.slice s.a s.n s.cap∧mv=.int .u64 m∧m≤k∧Hid (Own btc 1 4 w.heap.size wx (.slice s.a s.n s.cap) (l++List.replicate m v)∧Below w.heap.size w wx))
        case atStart=>exact ⟨0,⟨sa,l.length,sc⟩,rfl,rfl,rfl,Nat.zero_le _,Lib.hid ⟨by rw[List.replicate_zero,List.append_nil];exact HO5.out,HB5.out⟩⟩
        case round =>
         obtain ⟨m,⟨ta,tn,tc⟩,hg2,rfl,rfl,hmk,HX⟩:=hrel
         dsimp only at HX ⊢
         have HG2:=Lib.hid hg2
         clear hg2
         by_cases hm:m<k
         ·have hm1:(m:Int)<(k:Int):=by omega
          have hsz:=HX.out.2.size
          have hll:(l++List.replicate m v).length=l.length+m:=by simp
          have hkn2:=HKN.out.1
          have hbd:(l++List.replicate m v).length+1≤maxLen∧((l++List.replicate m v).length+1)*1≤140737488355328:=by rw[hll];unfold maxLen;omega
          have HBD:=Lib.hid hbd
          clear hll hkn2 hbd hm
          go_wp2_with (at_builtin;refine Y7 rfl _ _ _ rfl i0 _ 1 Tryz.underlying75 hi hy0 hy1 hy2 rfl (by omega) ZX VC rfl (HX.out.1.alloc _) v wr.heap.size 1 rfl (Um _ v) HBD.out.1 HBD.out.2 (by simp;omega) ?_)
          intro v' w3 hown3 hx3
          have hB3:=Ext.new (HX.out.2.alloc HX.out.2.size (.cells #[.bool v] 4)) hx3 (fun i hi _ e=>by have:=(HX.out.1.blk i e).1;omega) (by simp;omega)
          rw[show l++(List.replicate m v++[v])=l++List.replicate (m+1) v by rw[List.replicate_succ']] at hown3
          obtain ⟨⟨ua,un,uc⟩,e3⟩:=hown3.sl
          dsimp only at e3
          subst e3
          have HN:=Jh (And.intro hown3 hB3)
          clear hown3 hx3 hB3
          go_wp2_with fail
          go_roundg (k - (m+1))
          case measure=>rw[HG2.out];omega
          case rel=>exact ⟨m+1,⟨ua,un,uc⟩,rfl,rfl,by simp,by omega,HN⟩
         ·have hm1:¬ (m:Int)<(k:Int):=by omega
          have hmk2:m=k:=by omega
          have HX2:Hid (Own btc 1 4 w.heap.size wr (.slice ta tn tc) (l++List.replicate k v)∧Below w.heap.size w wr):=Jh (by rw[←hmk2];exact HX.out)
          have hpq:((p+q:Nat):Int)=(p:Int)+(q:Int):=by omega
          have htn:=(HX2.out.1.nlen ZX).1
          have HTN:=Lib.hid htn
          have HMK:=Lib.hid hmk2
          have HPB:=Lib.hid hpb
          have hq3:=HQ.out
          clear hm hmk2 hpq htn HX
          go_wp2_with fail
          go_roundg (2*(n - (l++List.replicate k v).length)+(if p+q=0 then 1 else 0))
          case measure=>rw[HG.out,List.length_append,List.length_replicate,if_neg (by omega)];have h1:=HKN.out;split <;> omega
          case rel=>exact ⟨⟨ta,tn,tc⟩,l++List.replicate k v,p+q,!v,rfl,rfl,by simp,rfl,HTN.out,by rw[List.length_append,List.length_replicate];have h1:=HKN.out.1;omega,by omega,HNX,HX2⟩
  ·have hll:l.length=n:=by omega
   have hl1:¬ (l.length:Int)<(n:Int):=by omega
   have HP:=Jh (HT.out.puts hll (by omega))
   have HD:=Jh (HT.out.done hll)
   clear hll hlt
   cases a with
   | none =>
    have hb:b=[]:=HNA.out rfl
    have hp0:p=0:=by rw[hb] at hpb;exact Nat.le_zero.1 hpb
    subst hb hp0
    go_upto_region 16 with fail
    have hs2:¬ (cap:Int)<(0:Int):=by omega
    have hs3:(0:Int)≤(cap:Int):=by omega
    have b1:Below w.heap.size w wr.drew:=HU.out.2.drew
    have hS0:(fun W:World=>Z0 u8c 1 W (.slice none ([]:List UInt8).length cap) ([]:List UInt8)) wr.drew:=HH.out.below b1
    have HU1:Hid (Own btc 1 4 w.heap.size wr.drew (.slice sa l.length sc) l∧Below w.heap.size w wr.drew):=Lib.hid ⟨HU.out.1.drew,HU.out.2.drew⟩
    clear HU b1
    refine Z6 (fun W:World=>Z0 u8c 1 W (.slice none ([]:List UInt8).length cap) ([]:List UInt8)) (fun _=>false) (by kernel_rfl) ?_
    generalize wr.drew=W1 at hS0 HU1 ⊢
    refine J0 0 65 _ hS0 ?_
    try simp only[Ja]
    refine J0 3 68 _ hS0 ?_
    try simp only[Ja]
    refine J0 4 69 _ hS0 ?_
    try simp only[Ja]
    refine J0 5 70 (.slice none 0 cap) hS0 ?_
    try simp only[Ja]
    refine JR 6 71 (.string ⟨(([]:List UInt8).take 0).toArray⟩) rfl rfl hS0 (fun W hW=>by have hcv:=Zs (Z0.take1 (k:=0) hW (by omega));go_simp) ?_
    try simp only[Ja]
    refine Zm (i:=1) (d:=some 66) (f:=158) (args:=#[.slice sa l.length sc]) (w':=W1) (by kernel_rfl) rfl rfl (by rfl) (by go_simp;try rfl) ?_
    refine (UC _ l _ (HU1.out.1.slice ZX) (by omega)).mono ?_
    rintro e w5 ⟨v5,rfl,hown,b5⟩
    refine ⟨_,rfl,fun _=>Z0.below hS0 b5,?_⟩
    try simp only[Ja]
    have hS5:=Z0.below hS0 b5
    have hcv:=Zs (hown.slice Z7)
    obtain ⟨⟨ra,rn,rc⟩,e5⟩:=hown.sl
    dsimp only at e5
    subst e5
    rw[HP.out.1] at hcv
    refine Zk (i:=2) (d:=some 67) (v:=.string ⟨(([]:List UInt8).take 0).toArray⟩) (w':=w5) (by kernel_rfl) rfl rfl (by rfl) (by go_simp;try rfl) (fun _=>hS5) ?_
    try simp only[Ja]
    have he:=XK ⟨(([]:List UInt8).take 0).toArray⟩ ⟨(([]:List UInt8).take 0).toArray⟩
    rw[decide_eq_true rfl] at he
    refine Zk (i:=7) (d:=some 72) (v:=.bool false) (w':=w5) (by kernel_rfl) rfl rfl (by rfl) (by go_simp;try rfl) (fun _=>hS5) ?_
    try simp only[Ja]
    refine Z3 (by kernel_rfl) ?_ _
    have HB5:=Jh (HU1.out.2.trans (b5.mono HU1.out.2.size))
    have HO5:=Jh (HU1.out.1.below1 b5)
    clear hS0 hS5 hcv hown b5 HU1 he
    go_wp2_with fail
    go_ret3
    exact .inl ⟨l,0,_,HD.out,rfl,HO5.out,HB5.out⟩
   | some ad =>
    go_upto_region 16 with fail
    have hs2:¬ (cap:Int)<(p:Int):=by omega
    have hs3:(p:Int)≤(cap:Int):=by omega
    have b1:Below w.heap.size w wr.drew:=HU.out.2.drew
    have hS0:(fun W:World=>Z0 u8c 1 W (.slice (some ad) b.length cap) b) wr.drew:=HH.out.below b1
    have HU1:Hid (Own btc 1 4 w.heap.size wr.drew (.slice sa l.length sc) l∧Below w.heap.size w wr.drew):=Lib.hid ⟨HU.out.1.drew,HU.out.2.drew⟩
    clear HU b1
    refine Z6 (fun W:World=>Z0 u8c 1 W (.slice (some ad) b.length cap) b) (fun _=>false) (by kernel_rfl) ?_
    generalize wr.drew=W1 at hS0 HU1 ⊢
    refine J0 0 65 _ hS0 ?_
    try simp only[Ja]
    refine J0 3 68 _ hS0 ?_
    try simp only[Ja]
    refine J0 4 69 _ hS0 ?_
    try simp only[Ja]
    refine J0 5 70 (.slice (some ad) p cap) hS0 ?_
    try simp only[Ja]
    refine JR 6 71 (.string ⟨(b.take p).toArray⟩) rfl rfl hS0 (fun W hW=>by have hcv:=Zs (Z0.take1 (k:=p) hW (by omega));go_simp) ?_
    try simp only[Ja]
    refine Zm (i:=1) (d:=some 66) (f:=158) (args:=#[.slice sa l.length sc]) (w':=W1) (by kernel_rfl) rfl rfl (by rfl) (by go_simp;try rfl) ?_
    refine (UC _ l _ (HU1.out.1.slice ZX) (by omega)).mono ?_
    rintro e w5 ⟨v5,rfl,hown,b5⟩
    refine ⟨_,rfl,fun _=>Z0.below hS0 b5,?_⟩
    try simp only[Ja]
    have hS5:=Z0.below hS0 b5
    have hcv:=Zs (hown.slice Z7)
    obtain ⟨⟨ra,rn,rc⟩,e5⟩:=hown.sl
    dsimp only at e5
    subst e5
    rw[HP.out.1] at hcv
    refine Zk (i:=2) (d:=some 67) (v:=.string ⟨(b.take p).toArray⟩) (w':=w5) (by kernel_rfl) rfl rfl (by rfl) (by go_simp;try rfl) (fun _=>hS5) ?_
    try simp only[Ja]
    have he:=XK ⟨(b.take p).toArray⟩ ⟨(b.take p).toArray⟩
    rw[decide_eq_true rfl] at he
    refine Zk (i:=7) (d:=some 72) (v:=.bool false) (w':=w5) (by kernel_rfl) rfl rfl (by rfl) (by go_simp;try rfl) (fun _=>hS5) ?_
    try simp only[Ja]
    refine Z3 (by kernel_rfl) ?_ _
    have HB5:=Jh (HU1.out.2.trans (b5.mono HU1.out.2.size))
    have HO5:=Jh (HU1.out.1.below1 b5)
    clear hS0 hS5 hcv hown b5 HU1 he
    go_wp2_with fail
    go_ret3
    exact .inl ⟨l,p,_,HD.out,rfl,HO5.out,HB5.out⟩
theorem Z4G (o:OpD) (c:Nat) (hc:c<21) (w:World):Calls Tryz.prog 159 #[o.val,.int .i64 c] w fun e w'=>e=.returned (.int .i64 (fld o c))∧Below w.heap.size w w':=by
 unfold OpD.val
 obtain ⟨W1,hW1⟩:=Je (w.alloc (.cells o.cells.toArray 68))
 have hb1:Below w.heap.size w W1:=by rw[←hW1];exact (Below.refl _ _).alloc (Nat.le_refl _) _
 have ho1:OB w.heap.size o W1:=by rw[←hW1];exact OB.new w o
 rcases (by omega:c=0∨c=1∨c=2∨c=3∨c=4∨c=5∨c=6∨c=7∨c=8∨c=9∨c=10∨c=11∨c=12∨c=13∨c=14∨c=15∨c=16∨c=17∨c=18∨c=19∨c=20) with rfl|rfl|rfl|rfl|rfl|rfl|rfl|rfl|rfl|rfl|rfl|rfl|rfl|rfl|rfl|rfl|rfl|rfl|rfl|rfl|rfl
 ·have cj:=OB.cell ho1 (j:=0) rfl
  have HV:=Lib.hid hb1
  clear ho1 hb1
  simp only[show (((0:Nat):Int))=0 from rfl]
  go_enter Tryz.func159,Tryz.ntmps159
  go_wp2_with fail
  go_ret
  exact ⟨rfl,HV.out⟩
 ·have cj:=OB.cell ho1 (j:=1) rfl
  have HV:=Lib.hid hb1
  clear ho1 hb1
  simp only[show (((1:Nat):Int))=1 from rfl]
  go_enter Tryz.func159,Tryz.ntmps159
  go_wp2_with fail
  go_ret
  exact ⟨rfl,HV.out⟩
 ·have cj:=OB.cell ho1 (j:=2) rfl
  have HV:=Lib.hid hb1
  clear ho1 hb1
  simp only[show (((2:Nat):Int))=2 from rfl]
  go_enter Tryz.func159,Tryz.ntmps159
  go_wp2_with fail
  go_ret
  exact ⟨rfl,HV.out⟩
 ·have cj:=OB.cell ho1 (j:=3) rfl
  have HV:=Lib.hid hb1
  clear ho1 hb1
  simp only[show (((3:Nat):Int))=3 from rfl]
  go_enter Tryz.func159,Tryz.ntmps159
  go_wp2_with fail
  go_ret
  exact ⟨rfl,HV.out⟩
 ·have cj:=OB.cell ho1 (j:=4) rfl
  have HV:=Lib.hid hb1
  clear ho1 hb1
  simp only[show (((4:Nat):Int))=4 from rfl]
  go_enter Tryz.func159,Tryz.ntmps159
  go_wp2_with fail
  go_ret
  exact ⟨rfl,HV.out⟩
 ·have cj:=OB.cell ho1 (j:=5) rfl
  have HV:=Lib.hid hb1
  clear ho1 hb1
  simp only[show (((5:Nat):Int))=5 from rfl]
  go_enter Tryz.func159,Tryz.ntmps159
  go_wp2_with fail
  go_ret
  exact ⟨rfl,HV.out⟩
 ·have cj:=OB.cell ho1 (j:=6) rfl
  have HV:=Lib.hid hb1
  clear ho1 hb1
  simp only[show (((6:Nat):Int))=6 from rfl]
  go_enter Tryz.func159,Tryz.ntmps159
  go_wp2_with fail
  go_ret
  exact ⟨rfl,HV.out⟩
 ·have cj:=OB.cell ho1 (j:=7) rfl
  have HV:=Lib.hid hb1
  clear ho1 hb1
  simp only[show (((7:Nat):Int))=7 from rfl]
  go_enter Tryz.func159,Tryz.ntmps159
  go_wp2_with fail
  go_ret
  exact ⟨rfl,HV.out⟩
 ·have cj:=OB.cell ho1 (j:=8) rfl
  have HV:=Lib.hid hb1
  clear ho1 hb1
  simp only[show (((8:Nat):Int))=8 from rfl]
  go_enter Tryz.func159,Tryz.ntmps159
  go_wp2_with fail
  go_ret
  exact ⟨rfl,HV.out⟩
 ·have cj:=OB.cell ho1 (j:=9) rfl
  have HV:=Lib.hid hb1
  clear ho1 hb1
  simp only[show (((9:Nat):Int))=9 from rfl]
  go_enter Tryz.func159,Tryz.ntmps159
  go_wp2_with fail
  go_ret
  exact ⟨rfl,HV.out⟩
 ·have cj:=OB.cell ho1 (j:=10) rfl
  have HV:=Lib.hid hb1
  clear ho1 hb1
  simp only[show (((10:Nat):Int))=10 from rfl]
  go_enter Tryz.func159,Tryz.ntmps159
  go_wp2_with fail
  go_ret
  exact ⟨rfl,HV.out⟩
 ·have cj:=OB.cell ho1 (j:=11) rfl
  have HV:=Lib.hid hb1
  clear ho1 hb1
  simp only[show (((11:Nat):Int))=11 from rfl]
  go_enter Tryz.func159,Tryz.ntmps159
  go_wp2_with fail
  go_ret
  exact ⟨rfl,HV.out⟩
 ·have cj:=OB.cell ho1 (j:=12) rfl
  have HV:=Lib.hid hb1
  clear ho1 hb1
  simp only[show (((12:Nat):Int))=12 from rfl]
  go_enter Tryz.func159,Tryz.ntmps159
  go_wp2_with fail
  go_ret
  exact ⟨rfl,HV.out⟩
 ·have cj:=OB.cell ho1 (j:=13) rfl
  have HV:=Lib.hid hb1
  clear ho1 hb1
  simp only[show (((13:Nat):Int))=13 from rfl]
  go_enter Tryz.func159,Tryz.ntmps159
  go_wp2_with fail
  go_ret
  exact ⟨rfl,HV.out⟩
 ·have cj:=OB.cell ho1 (j:=14) rfl
  have HV:=Lib.hid hb1
  clear ho1 hb1
  simp only[show (((14:Nat):Int))=14 from rfl]
  go_enter Tryz.func159,Tryz.ntmps159
  go_wp2_with fail
  go_ret
  exact ⟨rfl,HV.out⟩
 ·have cj:=OB.cell ho1 (j:=15) rfl
  have HV:=Lib.hid hb1
  clear ho1 hb1
  simp only[show (((15:Nat):Int))=15 from rfl]
  go_enter Tryz.func159,Tryz.ntmps159
  go_wp2_with fail
  go_ret
  exact ⟨rfl,HV.out⟩
 ·have cj:=OB.cell ho1 (j:=16) rfl
  have HV:=Lib.hid hb1
  clear ho1 hb1
  simp only[show (((16:Nat):Int))=16 from rfl]
  go_enter Tryz.func159,Tryz.ntmps159
  go_wp2_with fail
  go_ret
  exact ⟨rfl,HV.out⟩
 ·have cj:=OB.cell ho1 (j:=20) rfl
  have HV:=Lib.hid hb1
  clear ho1 hb1
  simp only[show (((17:Nat):Int))=17 from rfl]
  go_enter Tryz.func159,Tryz.ntmps159
  go_wp2_with fail
  go_ret
  exact ⟨rfl,HV.out⟩
 ·have cj:=OB.cell ho1 (j:=21) rfl
  have HV:=Lib.hid hb1
  clear ho1 hb1
  simp only[show (((18:Nat):Int))=18 from rfl]
  go_enter Tryz.func159,Tryz.ntmps159
  go_wp2_with fail
  go_ret
  exact ⟨rfl,HV.out⟩
 ·have cj:=OB.cell ho1 (j:=23) rfl
  have HV:=Lib.hid hb1
  clear ho1 hb1
  simp only[show (((19:Nat):Int))=19 from rfl]
  go_enter Tryz.func159,Tryz.ntmps159
  go_wp2_with fail
  go_ret
  exact ⟨rfl,HV.out⟩
 ·have cj:=OB.cell ho1 (j:=24) rfl
  have HV:=Lib.hid hb1
  clear ho1 hb1
  simp only[show (((20:Nat):Int))=20 from rfl]
  go_enter Tryz.func159,Tryz.ntmps159
  go_wp2_with fail
  go_ret
  exact ⟨rfl,HV.out⟩
theorem Z1v (o:OpD) (c:Nat) (hc:c<3) (w:World):Calls Tryz.prog 161 #[o.val,.int .i64 c] w fun e w'=>e=.returned (.string (txt o c))∧Below w.heap.size w w':=by
 unfold OpD.val
 obtain ⟨W1,hW1⟩:=Je (w.alloc (.cells o.cells.toArray 68))
 have hb1:Below w.heap.size w W1:=by rw[←hW1];exact (Below.refl _ _).alloc (Nat.le_refl _) _
 have ho1:OB w.heap.size o W1:=by rw[←hW1];exact OB.new w o
 rcases (by omega:c=0∨c=1∨c=2) with rfl|rfl|rfl
 ·have cj:=OB.cell ho1 (j:=17) rfl
  have HV:=Lib.hid hb1
  clear ho1 hb1
  simp only[show (((0:Nat):Int))=0 from rfl]
  go_enter Tryz.func161,Tryz.ntmps161
  go_wp2_with fail
  go_ret
  exact ⟨rfl,HV.out⟩
 ·have cj:=OB.cell ho1 (j:=18) rfl
  have HV:=Lib.hid hb1
  clear ho1 hb1
  simp only[show (((1:Nat):Int))=1 from rfl]
  go_enter Tryz.func161,Tryz.ntmps161
  go_wp2_with fail
  go_ret
  exact ⟨rfl,HV.out⟩
 ·have cj:=OB.cell ho1 (j:=19) rfl
  have HV:=Lib.hid hb1
  clear ho1 hb1
  simp only[show (((2:Nat):Int))=2 from rfl]
  go_enter Tryz.func161,Tryz.ntmps161
  go_wp2_with fail
  go_ret
  exact ⟨rfl,HV.out⟩
theorem UQ (c:Nat) (hc:c<21) (w:World):Calls Tryz.prog 56 #[.int .i64 c] w fun e w'=>e=.returned (.bool (dlt c))∧w'=w:=by
 rcases (by omega:c=0∨c=1∨c=2∨c=3∨c=4∨c=5∨c=6∨c=7∨c=8∨c=9∨c=10∨c=11∨c=12∨c=13∨c=14∨c=15∨c=16∨c=17∨c=18∨c=19∨c=20) with rfl|rfl|rfl|rfl|rfl|rfl|rfl|rfl|rfl|rfl|rfl|rfl|rfl|rfl|rfl|rfl|rfl|rfl|rfl|rfl|rfl
 ·simp only[show (((0:Nat):Int))=0 from rfl]
  go_enter Tryz.func56,Tryz.ntmps56
  go_wp2_with fail
  go_ret
  exact ⟨rfl,rfl⟩
 ·simp only[show (((1:Nat):Int))=1 from rfl]
  go_enter Tryz.func56,Tryz.ntmps56
  go_wp2_with fail
  go_ret
  exact ⟨rfl,rfl⟩
 ·simp only[show (((2:Nat):Int))=2 from rfl]
  go_enter Tryz.func56,Tryz.ntmps56
  go_wp2_with fail
  go_ret
  exact ⟨rfl,rfl⟩
 ·simp only[show (((3:Nat):Int))=3 from rfl]
  go_enter Tryz.func56,Tryz.ntmps56
  go_wp2_with fail
  go_ret
  exact ⟨rfl,rfl⟩
 ·simp only[show (((4:Nat):Int))=4 from rfl]
  go_enter Tryz.func56,Tryz.ntmps56
  go_wp2_with fail
  go_ret
  exact ⟨rfl,rfl⟩
 ·simp only[show (((5:Nat):Int))=5 from rfl]
  go_enter Tryz.func56,Tryz.ntmps56
  go_wp2_with fail
  go_ret
  exact ⟨rfl,rfl⟩
 ·simp only[show (((6:Nat):Int))=6 from rfl]
  go_enter Tryz.func56,Tryz.ntmps56
  go_wp2_with fail
  go_ret
  exact ⟨rfl,rfl⟩
 ·simp only[show (((7:Nat):Int))=7 from rfl]
  go_enter Tryz.func56,Tryz.ntmps56
  go_wp2_with fail
  go_ret
  exact ⟨rfl,rfl⟩
 ·simp only[show (((8:Nat):Int))=8 from rfl]
  go_enter Tryz.func56,Tryz.ntmps56
  go_wp2_with fail
  go_ret
  exact ⟨rfl,rfl⟩
 ·simp only[show (((9:Nat):Int))=9 from rfl]
  go_enter Tryz.func56,Tryz.ntmps56
  go_wp2_with fail
  go_ret
  exact ⟨rfl,rfl⟩
 ·simp only[show (((10:Nat):Int))=10 from rfl]
  go_enter Tryz.func56,Tryz.ntmps56
  go_wp2_with fail
  go_ret
  exact ⟨rfl,rfl⟩
 ·simp only[show (((11:Nat):Int))=11 from rfl]
  go_enter Tryz.func56,Tryz.ntmps56
  go_wp2_with fail
  go_ret
  exact ⟨rfl,rfl⟩
 ·simp only[show (((12:Nat):Int))=12 from rfl]
  go_enter Tryz.func56,Tryz.ntmps56
  go_wp2_with fail
  go_ret
  exact ⟨rfl,rfl⟩
 ·simp only[show (((13:Nat):Int))=13 from rfl]
  go_enter Tryz.func56,Tryz.ntmps56
  go_wp2_with fail
  go_ret
  exact ⟨rfl,rfl⟩
 ·simp only[show (((14:Nat):Int))=14 from rfl]
  go_enter Tryz.func56,Tryz.ntmps56
  go_wp2_with fail
  go_ret
  exact ⟨rfl,rfl⟩
 ·simp only[show (((15:Nat):Int))=15 from rfl]
  go_enter Tryz.func56,Tryz.ntmps56
  go_wp2_with fail
  go_ret
  exact ⟨rfl,rfl⟩
 ·simp only[show (((16:Nat):Int))=16 from rfl]
  go_enter Tryz.func56,Tryz.ntmps56
  go_wp2_with fail
  go_ret
  exact ⟨rfl,rfl⟩
 ·simp only[show (((17:Nat):Int))=17 from rfl]
  go_enter Tryz.func56,Tryz.ntmps56
  go_wp2_with fail
  go_ret
  exact ⟨rfl,rfl⟩
 ·simp only[show (((18:Nat):Int))=18 from rfl]
  go_enter Tryz.func56,Tryz.ntmps56
  go_wp2_with fail
  go_ret
  exact ⟨rfl,rfl⟩
 ·simp only[show (((19:Nat):Int))=19 from rfl]
  go_enter Tryz.func56,Tryz.ntmps56
  go_wp2_with fail
  go_ret
  exact ⟨rfl,rfl⟩
 ·simp only[show (((20:Nat):Int))=20 from rfl]
  go_enter Tryz.func56,Tryz.ntmps56
  go_wp2_with fail
  go_ret
  exact ⟨rfl,rfl⟩
def SQ (w0:World) (v:Value) (r:List UInt8) (res:Option (List OpD × List UInt8)) (e:Ending) (w':World):Prop :=
 (∃ l2 p,p≤r.length∧res=some (l2,r.drop p)∧e=.returned (.int .i64 (p:Nat))∧Own OpD.cells 26 68 w0.heap.size w' v l2∧Below w0.heap.size w0 w') ∨
 (res=none∧e=.returned (.int .i64 (-1))∧Below w0.heap.size w0 w')
theorem Z7f (f g:Nat→OpD→OpD) (n:Nat) (ls:List OpD):Xb g n (Xb f n ls)=Xb (fun j o=>g j (f j o)) n ls:=by
 apply List.ext_getElem?
 intro j
 simp only[Xb,List.getElem?_mapIdx,Option.map_map]
 congr 1
 funext o
 show (if j<n then g j (if j<n then f j o else o) else (if j<n then f j o else o))=_
 by_cases h:j<n
 ·simp[h]
 ·simp[h]
theorem Wr {B g:Nat} {w0 w:World} (h:Below B w0 w) (hg:B≤g) (o:Nat) (u:Value):Below B w0 (w.setCell ⟨g,o,none⟩ u):=h.setCell hg _
def VM (V0 V1:List Bool) (j:Nat) (o:OpD):OpD:=(o.setT 0 (V0.getD j false)).setT 1 (V1.getD j false)
theorem Z3J (w0 w:World) (v tb:Value) (r:List UInt8) (ls:List OpD) (ho:Own OpD.cells 26 68 w0.heap.size w v ls) (hb:Below w0.heap.size w0 w) (hs:Z0 u8c 1 w0 tb r) (hn:ls.length≤200):Calls Tryz.prog 59 #[v,tb] w fun e w'=>SQ w0 v r (tkT ls.length 2 (ls,r)) e w':=by
 obtain ⟨⟨la,ln,lc⟩,el⟩:=ho.sl
 dsimp only at el
 subst el
 obtain rfl:ln=ls.length:=(ho.nlen OpD.len).1
 obtain ⟨a,cap,rfl,hcap,hmax,-⟩:=id hs
 unfold maxLen at hmax
 obtain ⟨n,hn'⟩:∃ n,n=ls.length:=⟨_,rfl⟩
 have HH:=Lib.hid hs
 have HB:=Lib.hid hb
 have HLN:=Lib.hid hn'
 rw[←hn'] at hn ho ⊢
 have HO:=Lib.hid ho
 clear ho hb hs hn'
 go_enter Tryz.func59,Tryz.ntmps59
 go_wp2_with fail
 refine (TW _ r n w (HH.out.below HB.out) (by omega)).mono ?_
 rintro e w5 (⟨V0,u,v5,hd,rfl,hown,hb5⟩|⟨hd,rfl,hb5⟩)
 ·have HB5:=Jh (HB.out.trans (hb5.mono HB.out.size))
  have HO5:=Jh (HO.out.below1 (hb5.mono (Nat.le_refl _)))
  have hcf:=SO (by omega) hd
  have hul:=hcf.2
  obtain ⟨⟨pa,pn,pc⟩,ep⟩:=hown.sl
  dsimp only at ep
  subst ep
  obtain rfl:pn=n:=by have h:=(hown.nlen ZX).1;rw[hcf.1] at h;exact h
  have HV0:Hid (V0.length=pn∧Own btc 1 4 w0.heap.size w5 (.slice pa pn pc) V0):=Lib.hid ⟨hcf.1,hown.mono HB.out.size⟩
  have HD:=Jh (Qx (n:=pn) (c:=0) (p:=(ls,r)) (q:=(ls,r)) rfl hd)
  obtain ⟨a1,c1,hsl,hS1,-⟩:=ZE (P:=Tryz.prog) (ea:=u8c) Tryz.underlying22 Zi a r.length cap u hcap hul
  have HS:=Jh (hS1 w0 r rfl HH.out)
  clear hd hcf hown hb5 hS1 HO HB
  go_wp2_with fail
  refine (TW _ (r.drop u) pn w5 ?_ (by omega)).mono ?_
  ·have h:=HS.out.below HB5.out;first|exact h|(rw[List.length_drop] at h;exact h)
  rintro e w6 (⟨V1,u1,v6,hd,rfl,hown,hb6⟩|⟨hd,rfl,hb6⟩)
  ·have HB6:=Jh (HB5.out.trans (hb6.mono HB5.out.size))
   have HO6:=Jh (HO5.out.below1 hb6)
   have hcf:=SO (by omega) hd
   have hul1:=hcf.2
   rw[List.length_drop] at hul1
   obtain ⟨⟨qa,qn,qc⟩,ep⟩:=hown.sl
   dsimp only at ep
   subst ep
   obtain rfl:qn=pn:=by have h:=(hown.nlen ZX).1;rw[hcf.1] at h;exact h
   have HV6:=Jh (HV0.out.2.below1 hb6)
   have HV1:Hid (V1.length=qn∧Own btc 1 4 w0.heap.size w6 (.slice qa qn qc) V1):=Lib.hid ⟨hcf.1,hown.mono HB5.out.size⟩
   have HVL:=Lib.hid HV0.out.1
   have HD2:=Jh (Qx HD.out hd)
   clear hd hcf hown hb6 HD HO5 HB5 HV0 HS hsl
   go_wp2_with fail
   go_loopg [11] qn (fun g iv wr=>∃ i:Nat,g=qn - i∧iv=.int .i64 i∧i≤qn∧Hid (Own OpD.cells 26 68 w0.heap.size wr (.slice la qn lc) (Xb (VM V0 V1) i ls)∧Own btc 1 4 w0.heap.size wr (.slice pa qn pc) V0∧Own btc 1 4 w0.heap.size wr (.slice qa qn qc) V1∧Below w0.heap.size w0 wr))
   case atStart=>exact ⟨0,rfl,rfl,Nat.zero_le _,Lib.hid ⟨by rw[VI];exact HO6.out,HV6.out,HV1.out.2,HB6.out⟩⟩
   case round =>
    clear HB6 HO6 HV6
    obtain ⟨i,hg,rfl,hi,HI⟩:=hrel
    have HG:=Lib.hid hg
    clear hg
    by_cases hlt:i<qn
    ·have hi1:(i:Int)<(qn:Int):=by omega
     have hi0:(0:Int)≤(i:Int):=by omega
     obtain ⟨x,hx⟩:∃ x,ls[i]?=some x:=⟨_,List.getElem?_eq_getElem (by rw[←HLN.out];exact hlt)⟩
     obtain ⟨y0,hy0⟩:∃ y,V0[i]?=some y:=⟨_,List.getElem?_eq_getElem (by rw[HVL.out];exact hlt)⟩
     obtain ⟨y1,hy1⟩:∃ y,V1[i]?=some y:=⟨_,List.getElem?_eq_getElem (by rw[HV1.out.1];exact hlt)⟩
     have hmx:=VG (VM V0 V1) i hx
     have HMX:=Lib.hid hmx
     obtain ⟨g,gcap,e,hg1,hg3⟩:=HI.out.1.eq_slice.resolve_left (fun e=>by rw[e.2] at hmx;simp at hmx)
     injection e with e1 e2 e3
     subst e1 e3
     clear e2
     have hln:(Xb (VM V0 V1) i ls).length=qn:=by rw[YH];exact HLN.out.symm
     have ho1:=HI.out.1
     rw[←hln] at ho1
     have c22:=ho1.cellAt OpD.len hmx (j:=22) rfl
     have f22:=ho1.free (i*26+22)
     have h1:=ho1.setAt OpD.len hmx (j:=22) (y:=x.setT 0 y0) (u:=.bool y0) (by omega) (Sv x 0 y0)
     have hln1:((Xb (VM V0 V1) i ls).set i (x.setT 0 y0)).length=qn:=by rw[List.length_set];exact hln
     rw[hln] at h1
     have HI1:Hid (Own OpD.cells 26 68 w0.heap.size (wr.setCell ⟨g,i*26+22,none⟩ (.bool y0)) (.slice (some ⟨g,0,none⟩) qn lc) ((Xb (VM V0 V1) i ls).set i (x.setT 0 y0))∧Own btc 1 4 w0.heap.size (wr.setCell ⟨g,i*26+22,none⟩ (.bool y0)) (.slice pa qn pc) V0∧Own btc 1 4 w0.heap.size (wr.setCell ⟨g,i*26+22,none⟩ (.bool y0)) (.slice qa qn qc) V1∧Below w0.heap.size w0 (wr.setCell ⟨g,i*26+22,none⟩ (.bool y0))):=Lib.hid ⟨h1,HI.out.2.1.notg ho1 (by decide) rfl _ _,HI.out.2.2.1.notg ho1 (by decide) rfl _ _,Wr HI.out.2.2.2 (ho1.blk g rfl).1 _ _⟩
     obtain ⟨vb,vo,ev,cv⟩:=(HI.out.2.1.slice ZX).at1 hy0 rfl
     cases ev
     have HX:=Lib.hid hx
     have HY0:=Lib.hid hy0
     have HY1:=Lib.hid hy1
     have HLL:=Lib.hid hln1
     clear h1 ho1 hx hy0 hy1 hmx hln hln1 HI hg1 hg3
     go_upto_region 11 with fail
     generalize wr.setCell ⟨g,i*26+22,none⟩ (.bool y0)=W2 at HI1 ⊢
     clear c22 f22 cv
     have ho1:=HI1.out.1
     rw[←HLL.out] at ho1
     have hmx:((Xb (VM V0 V1) i ls).set i (x.setT 0 y0))[i]?=some (x.setT 0 y0):=List.getElem?_set_self (by rw[YH,←HLN.out];exact hlt)
     have c25:=ho1.cellAt OpD.len hmx (j:=25) rfl
     have f25:=ho1.free (i*26+25)
     have h1:=ho1.setAt OpD.len hmx (j:=25) (y:=(x.setT 0 y0).setT 1 y1) (u:=.bool y1) (by omega) (Sv (x.setT 0 y0) 1 y1)
     have e9:((Xb (VM V0 V1) i ls).set i (x.setT 0 y0)).set i ((x.setT 0 y0).setT 1 y1)=Xb (VM V0 V1) (i+1) ls:=by
      rw[List.set_set,Rj (VM V0 V1) (VM V0 V1) i HX.out (fun _ _=>rfl)]
      unfold VM
      rw[List.getD_eq_getElem?_getD,List.getD_eq_getElem?_getD,HY0.out,HY1.out]
      rfl
     rw[e9,HLL.out] at h1
     have HI2:Hid (Own OpD.cells 26 68 w0.heap.size (W2.setCell ⟨g,i*26+25,none⟩ (.bool y1)) (.slice (some ⟨g,0,none⟩) qn lc) (Xb (VM V0 V1) (i+1) ls)∧Own btc 1 4 w0.heap.size (W2.setCell ⟨g,i*26+25,none⟩ (.bool y1)) (.slice (some ⟨vb,vo,none⟩) qn pc) V0∧Own btc 1 4 w0.heap.size (W2.setCell ⟨g,i*26+25,none⟩ (.bool y1)) (.slice qa qn qc) V1∧Below w0.heap.size w0 (W2.setCell ⟨g,i*26+25,none⟩ (.bool y1))):=Lib.hid ⟨h1,HI1.out.2.1.notg ho1 (by decide) rfl _ _,HI1.out.2.2.1.notg ho1 (by decide) rfl _ _,Wr HI1.out.2.2.2 (ho1.blk g rfl).1 _ _⟩
     obtain ⟨zb,zo,ev,cv⟩:=(HI1.out.2.2.1.slice ZX).at1 HY1.out rfl
     cases ev
     clear h1 e9 ho1 hmx HI1
     go_upto_region 9 with fail
     generalize W2.setCell ⟨g,i*26+25,none⟩ (.bool y1)=W3 at HI2 ⊢
     clear c25 f25 cv
     go_wp2_with fail
     go_roundg (qn - (i+1))
     case measure=>rw[HG.out];omega
     case rel=>exact ⟨i+1,rfl,by simp,by omega,HI2⟩
    ·obtain rfl:i=qn:=by omega
     have hi1:¬ (i:Int)<(i:Int):=by omega
     have HE:Hid (Ym 1 V1 i (Ym 0 V0 i ls)=Xb (VM V0 V1) i ls):=Jh (by unfold Ym;rw[Z7f];rfl)
     have HI3:=Jh (And.intro HI.out.1 HI.out.2.2.2)
     clear HI
     go_wp2_with fail
     go_ret
     refine .inl ⟨Xb (VM V0 V1) i ls,u+u1,by omega,?_,by simp,HI3.out.1,HI3.out.2⟩
     have h:=HD2.out
     rw[HE.out,List.drop_drop] at h
     exact h
  ·have HBAD:Hid (tkT pn 2 (ls,r)=none):=Jh (Z0D HD.out hd (by omega))
   have HB6:=Jh (HB5.out.trans (hb6.mono HB5.out.size))
   clear hd hb6
   go_wp2_with fail
   go_ret
   exact .inr ⟨HBAD.out,rfl,HB6.out⟩
 ·have HBAD:Hid (tkT n 2 (ls,r)=none):=Jh (Z0D (c:=0) (q:=(ls,r)) rfl hd (by omega))
  have HB6:=Jh (HB.out.trans (hb5.mono HB.out.size))
  clear hd hb5
  go_wp2_with fail
  go_ret
  exact .inr ⟨HBAD.out,rfl,HB6.out⟩
theorem Z3b {x:Int} (h:Yf x<18446744073709551616):-9223372036854775808≤x∧x≤9223372036854775807:=by
 have:=Z0F h
 rwa [Z13] at this
theorem Qd {l:List Int} {p:Nat} {b:List UInt8}:(ByteArray.mk (Zc l).toArray=ByteArray.mk (b.take p).toArray)↔Zc l=b.take p:=by
 constructor
 ·intro h
  have:=congrArg (fun x=>x.data.toList) h
  simpa using this
 ·intro h;rw[h]
theorem WH (v:Value) (b:List UInt8) (n:Nat) (w:World) (h:Z0 u8c 1 w v b) (hn0:n≤65536):Calls Tryz.prog 55 #[v,.int .i64 n] w fun e w'=>Z5y w b n e w':=by
 obtain ⟨a,cap,rfl,hcap,hmax,-⟩:=id h
 unfold maxLen at hmax
 obtain ⟨i0,hi,hy0,hy1,hy2⟩:=info_parts Wa
 have HH:=Lib.hid h
 clear h
 have hn1:¬ (n:Int)<0:=by omega
 have hn2:¬ (65536:Int)<(n:Int):=by omega
 go_enter Tryz.func55,Tryz.ntmps55
 go_wp2_with fail
 go_loopg [7,8] n (fun g lv pv wr=>∃ (s:Sl) (l:List Int) (p:Nat),g=n - l.length∧lv=.slice s.a s.n s.cap∧pv=.int .i64 p∧s.n=l.length∧l.length≤n∧p≤b.length∧Hid (TRd b n l p)∧Hid (Own Zh 1 3 w.heap.size wr (.slice s.a s.n s.cap) l∧Below w.heap.size w wr))
 case atStart=>exact ⟨⟨none,0,0⟩,[],0,rfl,rfl,rfl,rfl,Nat.zero_le _,Nat.zero_le _,Jh (TRd.zero b n),Lib.hid ⟨Own.nil,Below.refl _ _⟩⟩
 case round =>
  obtain ⟨⟨sa,sn,sc⟩,l,p,hg,rfl,rfl,hsn,hln,hpb,HT,HU⟩:=hrel
  dsimp only at hsn HU ⊢
  subst hsn
  have HG:=Lib.hid hg
  clear hg
  by_cases hlt:l.length<n
  ·have hl1:(l.length:Int)<(n:Int):=by omega
   obtain ⟨a1,c1,hsl,hS1,-⟩:=ZE (P:=Tryz.prog) (ea:=u8c) Tryz.underlying22 Zi a b.length cap p hcap hpb
   have HS:=Jh (hS1 wr b rfl (HH.out.below HU.out.2))
   clear hS1
   go_wp2_with fail
   refine (XV _ _ _ HS.out).mono ?_
   rintro e w5 ⟨rfl,b5⟩
   have HB5:=Jh (HU.out.2.trans (b5.mono HU.out.2.size))
   have HO5:=Jh (HU.out.1.below1 b5)
   clear b5 HU
   cases hk:ZA (b.drop p) with
   | none =>
    have hr:Yg (b.drop p)=.tuple #[.int .u64 0,.int .i64 0,.int .i64 31]:=by unfold Yg;rw[hk]
    have HD:=Jh (HT.out.bad hlt (.inl hk))
    rw[hr]
    have HR:=Lib.hid hr
    have HS5:=Jh (show Z0 u8c 1 w5 _ (b.drop p) from by obtain ⟨a3,c3,hsl3,hS3,-⟩:=ZE (P:=Tryz.prog) (ea:=u8c) Tryz.underlying22 Zi a b.length cap p hcap hpb;have e:=(hsl w5).symm.trans (hsl3 w5);cases e;exact hS3 w5 b rfl (HH.out.below HB5.out))
    clear hk hr HS
    have hp00:(p:Int)+0=(p:Int):=by omega
    go_wp2_with fail
    refine (XV _ _ _ HS5.out).mono ?_
    rintro e w6 ⟨rfl,b6⟩
    have HB6:=Jh (HB5.out.trans (b6.mono HB5.out.size))
    rw[HR.out]
    clear b6 HB5 HO5 HS5 hsl
    go_wp2_with fail
    go_ret3
    exact .inr ⟨HD.out,rfl,HB6.out⟩
   | some k =>
    have hr:Yg (b.drop p)=.tuple #[.int .u64 k,.int .i64 (Z5 k).length,.int .i64 0]:=by unfold Yg;rw[hk]
    have hk64:=(Zz.1 hk).1
    have hqp:=(Zz.1 hk).2.length_le
    rw[List.length_drop] at hqp
    have hq0:0<(Z5 k).length:=List.length_pos_iff.2 (Wl k)
    rw[hr]
    obtain ⟨q,hq⟩:=Je ((Z5 k).length)
    rw[hq] at hqp hq0 ⊢
    obtain ⟨a2,c2,hsl2,hS2,-⟩:=ZE (P:=Tryz.prog) (ea:=u8c) Tryz.underlying22 Zi a b.length cap (p+q) hcap (by omega)
    have HS2:=Jh (hS2 w5 b rfl (HH.out.below HB5.out))
    simp only[Int.natCast_add] at hsl2
    clear hS2 hr HS hsl
    go_wp2_with fail
    refine (XV _ _ _ HS2.out).mono ?_
    rintro e w6 ⟨rfl,b6⟩
    have HB6:=Jh (HB5.out.trans (b6.mono HB5.out.size))
    have HO6:=Jh (HO5.out.below1 b6)
    clear b6 HS2 HB5 HO5
    cases hv:ZA (b.drop (p+q)) with
    | none =>
     have hr:Yg (b.drop (p+q))=.tuple #[.int .u64 0,.int .i64 0,.int .i64 31]:=by unfold Yg;rw[hv]
     have HD:=Jh (HT.out.bad hlt (.inr ⟨k,hk,.inl (by rw[hq];exact hv)⟩))
     rw[hr]
     clear hk hr hv hsl2 hq
     go_wp2_with fail
     go_ret3
     exact .inr ⟨HD.out,rfl,HB6.out⟩
    | some v =>
     have hr:Yg (b.drop (p+q))=.tuple #[.int .u64 v,.int .i64 (Z5 v).length,.int .i64 0]:=by unfold Yg;rw[hv]
     have hv64:=(Zz.1 hv).1
     have hqp2:=(Zz.1 hv).2.length_le
     rw[List.length_drop] at hqp2
     rw[hr]
     have HBAD:=Jh (fun h=>HT.out.bad hlt (.inr ⟨k,hk,.inr ⟨v,by rw[hq];exact hv,h⟩⟩))
     have HSTEP:=Jh (fun h0 h1=>HT.out.step hlt hk (by rw[hq];exact hv) h0 h1)
     rw[hq] at HSTEP
     obtain ⟨q2,hq2⟩:=Je ((Z5 v).length)
     rw[hq2] at hqp2 HSTEP ⊢
     obtain ⟨x,hx⟩:=Je (YL v)
     rw[hx] at HSTEP
     have hQ:0<q∧p+q+q2≤b.length:=⟨hq0,by omega⟩
     have HQ:=Lib.hid hQ
     have hxin:=Z0F hv64
     rw[hx] at hxin
     have HZAG:=Lib.hid hx
     clear hr hsl2 hk hv hq hq2 hqp hqp2 hq0 hQ hx
     obtain ⟨r,hrr⟩:∃ r:Nat,r=n - l.length:=⟨_,rfl⟩
     have hsub:(n:Int) - (l.length:Int)=(r:Int):=by omega
     by_cases hkn:r<k
     ·have hk1:(r:Int)<(k:Int):=by omega
      have HD:=Jh (HBAD.out (.inr (by omega)))
      have hdk:decide (r<k)=true:=decide_eq_true (by omega)
      clear hkn hrr HBAD HSTEP HT
      go_wp2_with fail
      go_ret3
      exact .inr ⟨HD.out,rfl,HB6.out⟩
     ·have hk1:¬ (r:Int)<(k:Int):=by omega
      have hdk:decide (r<k)=false:=decide_eq_false (by omega)
      have HKN:Hid (k≤n - l.length):=Jh (by omega)
      clear hkn hrr HT
      go_wp2_with fail
      go_loopg [7,15] k (fun g lv mv wx=>∃ (m:Nat) (s:Sl),g=k - m∧lv=.slice s.a s.n s.cap∧mv=.int .u64 m∧m≤k∧Hid (Own Zh 1 3 w.heap.size wx (.slice s.a s.n s.cap) (l++List.replicate m x)∧Below w.heap.size w wx))
      case atStart=>exact ⟨0,⟨sa,l.length,sc⟩,rfl,rfl,rfl,Nat.zero_le _,Lib.hid ⟨by rw[List.replicate_zero,List.append_nil];exact HO6.out,HB6.out⟩⟩
      case round =>
       obtain ⟨m,⟨ta,tn,tc⟩,hg2,rfl,rfl,hmk,HX⟩:=hrel
       dsimp only at HX ⊢
       have HG2:=Lib.hid hg2
       clear hg2
       by_cases hm:m<k
       ·have hm1:(m:Int)<(k:Int):=by omega
        have hsz:=HX.out.2.size
        have hll:(l++List.replicate m x).length=l.length+m:=by simp
        have hkn2:=HKN.out
        have hbd:(l++List.replicate m x).length+1≤maxLen∧((l++List.replicate m x).length+1)*8≤140737488355328:=by rw[hll];unfold maxLen;omega
        have HBD:=Lib.hid hbd
        clear hll hkn2 hbd hm
        go_wp2_with fail
        refine (Z6s v _ hv64).mono ?_
        rintro e w7 ⟨rfl,e7⟩
        rw[←e7,HZAG.out]
        clear e7 w7
        go_wp2_with (at_builtin;refine Y7 rfl _ _ _ rfl i0 _ 8 Tryz.underlying100 hi hy0 hy1 hy2 rfl (by omega) Zg XF rfl (HX.out.1.alloc _) x wr.heap.size 1 rfl (Wm _ x) HBD.out.1 HBD.out.2 (by simp;omega) ?_)
        intro v' w3 hown3 hx3
        have hB3:=Ext.new (HX.out.2.alloc HX.out.2.size (.cells #[.int .i64 x] 3)) hx3 (fun i hi _ e=>by have:=(HX.out.1.blk i e).1;omega) (by simp;omega)
        rw[show l++(List.replicate m x++[x])=l++List.replicate (m+1) x by rw[List.replicate_succ']] at hown3
        obtain ⟨⟨ua,un,uc⟩,e3⟩:=hown3.sl
        dsimp only at e3
        subst e3
        have HN:=Jh (And.intro hown3 hB3)
        clear hown3 hx3 hB3
        go_wp2_with fail
        go_roundg (k - (m+1))
        case measure=>rw[HG2.out];omega
        case rel=>exact ⟨m+1,⟨ua,un,uc⟩,rfl,rfl,by simp,by omega,HN⟩
       ·have hm1:¬ (m:Int)<(k:Int):=by omega
        have hmk2:m=k:=by omega
        have HX2:Hid (Own Zh 1 3 w.heap.size wr (.slice ta tn tc) (l++List.replicate k x)∧Below w.heap.size w wr):=Jh (by rw[←hmk2];exact HX.out)
        have hpq:((p+q:Nat):Int)=(p:Int)+(q:Int):=by omega
        have htn:=(HX2.out.1.nlen Zg).1
        have HTN:=Lib.hid htn
        have HPB:=Lib.hid hpb
        have hq3:=HQ.out
        clear hm hmk2 htn HX
        by_cases hz:k=0
        ·have hz2:((k:Int) == 0)=true:=by rw[hz];rfl
         have HD:=Jh (HBAD.out (.inl hz))
         clear hz HBAD HSTEP hpq
         go_wp2_with fail
         go_ret3
         exact .inr ⟨HD.out,rfl,HX2.out.2⟩
        ·have hz1:¬ (k:Int)=0:=by omega
         have hz2:((k:Int) == 0)=false:=by simpa using hz1
         have HNX:=Jh (HSTEP.out hz HKN.out)
         have HZ:=Lib.hid hz
         clear hz hz1 HBAD HSTEP hpq
         go_wp2_with fail
         go_roundg (n - (l++List.replicate k x).length)
         case measure=>rw[HG.out,List.length_append,List.length_replicate];have h1:=HKN.out;have h2:=HZ.out;omega
         case rel=>exact ⟨⟨ta,tn,tc⟩,l++List.replicate k x,p+q+q2,rfl,rfl,by simp <;> omega,HTN.out,by rw[List.length_append,List.length_replicate];have h1:=HKN.out;omega,HQ.out.2,HNX,HX2⟩
  ·have hll:l.length=n:=by omega
   have hl1:¬ (l.length:Int)<(n:Int):=by omega
   have HLL:=Lib.hid hll
   obtain ⟨a2,hsl,hS2⟩:=Z3r (P:=Tryz.prog) (ea:=u8c) Tryz.underlying22 Zi a b.length cap p hcap hpb
   have HPB:=Lib.hid hpb
   clear hll hlt
   go_upto_region 17 with fail
   have hS0:(fun W:World=>Z0 u8c 1 W (.slice a b.length cap) b) wr.drew:=HH.out.below HU.out.2.drew
   have HU1:Hid (Own Zh 1 3 w.heap.size wr.drew (.slice sa l.length sc) l∧Below w.heap.size w wr.drew):=Lib.hid ⟨HU.out.1.drew,HU.out.2.drew⟩
   clear HU
   refine Z6 (fun W:World=>Z0 u8c 1 W (.slice a b.length cap) b) (fun _=>false) (by kernel_rfl) ?_
   generalize wr.drew=W1 at hS0 HU1 ⊢
   refine J0 0 76 _ hS0 ?_
   try simp only[Ja]
   refine J0 3 79 _ hS0 ?_
   try simp only[Ja]
   refine J0 4 80 _ hS0 ?_
   try simp only[Ja]
   refine JR 5 81 (.slice a2 p cap) rfl rfl hS0 (fun W hW=>by first|exact hsl W|(go_simp;try rfl)) ?_
   try simp only[Ja]
   refine JR 6 82 (.string ⟨(b.take p).toArray⟩) rfl rfl hS0 (fun W hW=>by have hcv:=Zs (hS2 W b rfl hW);go_simp;try rfl) ?_
   try simp only[Ja]
   refine Zm (i:=1) (d:=some 77) (f:=108) (args:=#[.slice sa l.length sc]) (w':=W1) (by kernel_rfl) rfl rfl (by rfl) (by go_simp;try rfl) ?_
   refine (TH _ l _ (HU1.out.1.slice Zg) (by have:=HLL.out;omega) (fun x hx=>Z3b (HT.out.2 x hx))).mono ?_
   rintro e w5 ⟨v5,rfl,hown,b5⟩
   refine ⟨_,rfl,fun _=>Z0.below hS0 b5,?_⟩
   try simp only[Ja]
   have hS5:=Z0.below hS0 b5
   have hcv:=Zs (hown.slice Z7)
   obtain ⟨⟨ra,rn,rc⟩,e5⟩:=hown.sl
   dsimp only at e5
   subst e5
   refine Zk (i:=2) (d:=some 78) (v:=.string ⟨(Zc l).toArray⟩) (w':=w5) (by kernel_rfl) rfl rfl (by rfl) (by go_simp;try rfl) (fun _=>hS5) ?_
   try simp only[Ja]
   have he:=XK ⟨(Zc l).toArray⟩ ⟨(b.take p).toArray⟩
   have HB5:=Jh (HU1.out.2.trans (b5.mono HU1.out.2.size))
   have HO5:=Jh (HU1.out.1.below1 b5)
   by_cases hrb:Zc l=b.take p
   ·rw[decide_eq_true (Qd.2 hrb)] at he
    refine Zk (i:=7) (d:=some 83) (v:=.bool false) (w':=w5) (by kernel_rfl) rfl rfl (by rfl) (by go_simp;try rfl) (fun _=>hS5) ?_
    try simp only[Ja]
    refine Z3 (by kernel_rfl) ?_ _
    have HRB:=Lib.hid hrb
    clear hS0 hS5 hcv hown b5 HU1 he hrb hsl hS2
    go_wp2_with fail
    go_ret3
    exact .inl ⟨l,p,_,HT.out.good HLL.out (by omega) HPB.out HRB.out,rfl,HO5.out,HB5.out⟩
   ·rw[decide_eq_false (fun e=>hrb (Qd.1 e))] at he
    refine Zk (i:=7) (d:=some 83) (v:=.bool true) (w':=w5) (by kernel_rfl) rfl rfl (by rfl) (by go_simp;try rfl) (fun _=>hS5) ?_
    try simp only[Ja]
    refine Z3 (by kernel_rfl) ?_ _
    have HRB:=Lib.hid hrb
    clear hS0 hS5 hcv hown b5 HU1 he hrb hsl hS2
    go_wp2_with fail
    go_ret3
    exact .inr ⟨HT.out.wrong HLL.out (by omega) HRB.out,rfl,HB5.out⟩
theorem Rf {P:Program} {α:Type} {ea:α→List Value} {z:Nat} {t e:TypeId} (ht:P.underlying t=some (.slice e)) (hsz:(P.info? e).map (·.size)=some z) (a:Option Addr) (n cap p q:Nat) (hn:n≤cap) (hp:p≤q) (hq:q≤n) :
  ∃ a' c',(∀ W,(Instr.slice t (.slice a n cap) (some (.int .i64 (p:Int))) (some (.int .i64 (q:Int))) none).run P W=.ok (.slice a' (q - p) c') W)∧(∀ W (l:List α),l.length=n→Z0 ea z W (.slice a n cap) l→Z0 ea z W (.slice a' (q - p) c') ((l.drop p).take (q - p))):=by
 obtain ⟨i,hi,hz⟩:∃ i,P.info? e=some i∧i.size=z:=by
  cases h:P.info? e with
  | none=>rw[h] at hsz;cases hsz
  | some i=>rw[h] at hsz;exact ⟨i,rfl,Option.some.inj hsz⟩
 have hqc:q≤cap:=by omega
 refine ⟨if cap=p then a else a.map (·.add (p*z)),cap - p,fun W=>?_,fun W l hl h=>?_⟩
 ·simp[Instr.slice,Instr.sliceBounds,Instr.sliceBound,asIntOf,run_underlying ht,sizeOf,typeInfo,hi,hz,hp,hqc]
 ·obtain ⟨a2,c2,h1,h2,-⟩:=ZE (P:=P) (ea:=ea) ht hsz a n cap p hn (by omega)
  have h3:=h2 W l hl h
  have h4:(Instr.slice t (.slice a n cap) (some (.int .i64 (p:Int))) none none).run P W=.ok (.slice (if cap=p then a else a.map (·.add (p*z))) (n - p) (cap - p)) W:=by
   have hpn:p≤n:=by omega
   simp[Instr.slice,Instr.sliceBounds,Instr.sliceBound,asIntOf,run_underlying ht,sizeOf,typeInfo,hi,hz,hpn,hn]
  have h5:=(h1 W).symm.trans h4
  cases h5
  exact h3.take1 (by rw[List.length_drop];omega)
theorem Z0H {n c p:Nat} {ls:List OpD} {r r2:List UInt8} {V:List Int} {X:List ByteArray} (h:YT n none r=some (V,p)) (h2:XN V n (r.drop p)=some (X,r2)):Yr n c (ls,r)=some (Y3 c X n ls,r2):=by
 unfold Yr
 simp only[h,Option.bind_some,h2,Option.map_some]
theorem Qz {n c:Nat} {ls:List OpD} {r:List UInt8} (h:YT n none r=none):Yr n c (ls,r)=none:=by
 unfold Yr
 simp only[h]
 rfl
theorem U0 {n c p:Nat} {ls:List OpD} {r:List UInt8} {V:List Int} (h:YT n none r=some (V,p)) (h2:XN V n (r.drop p)=none):Yr n c (ls,r)=none:=by
 unfold Yr
 simp only[h,Option.bind_some,h2,Option.map_none]
theorem Z79 (w0 w:World) (v tb:Value) (r:List UInt8) (ls:List OpD) (ho:Own OpD.cells 26 68 w0.heap.size w v ls) (hb:Below w0.heap.size w0 w) (hs:Z0 u8c 1 w0 tb r) (hn:ls.length≤200):Calls Tryz.prog 60 #[v,tb,.int .i64 0] w fun e w'=>SQ w0 v r (Yr ls.length 0 (ls,r)) e w':=by
 obtain ⟨⟨la,ln,lc⟩,el⟩:=ho.sl
 dsimp only at el
 subst el
 obtain rfl:ln=ls.length:=(ho.nlen OpD.len).1
 obtain ⟨a,cap,rfl,hcap,hmax,-⟩:=id hs
 unfold maxLen at hmax
 obtain ⟨n,hn'⟩:∃ n,n=ls.length:=⟨_,rfl⟩
 have HH:=Lib.hid hs
 have HB:=Lib.hid hb
 have HLN:=Lib.hid hn'
 rw[←hn'] at hn ho ⊢
 have HO:=Lib.hid ho
 clear ho hb hs hn'
 go_enter Tryz.func60,Tryz.ntmps60
 go_wp2_with fail
 refine (WH _ r n w (HH.out.below HB.out) (by omega)).mono ?_
 rintro e w5 (⟨V,u,v5,hd,rfl,hown,hb5⟩|⟨hd,rfl,hb5⟩)
 ·have HB5:=Jh (HB.out.trans (hb5.mono HB.out.size))
  have HO5:=Jh (HO.out.below1 hb5)
  have hcf:=Vi (by omega) hd
  have hul:=hcf.2
  obtain ⟨⟨pa,pn,pc⟩,ep⟩:=hown.sl
  dsimp only at ep
  subst ep
  obtain rfl:pn=n:=by have h:=(hown.nlen Zg).1;rw[hcf.1] at h;exact h
  have HVL:Hid (V.length=pn):=Lib.hid hcf.1
  have HV:Hid (Own Zh 1 3 w0.heap.size w5 (.slice pa pn pc) V):=Jh (hown.mono HB.out.size)
  have HD:=Lib.hid hd
  clear hd hcf hown hb5 HO HB
  go_wp2_with fail
  go_loopg [8,10] pn (fun g pv iv wr=>∃ (i:Nat) (p:Nat) (X:List ByteArray),g=pn - i∧pv=.int .i64 p∧iv=.int .i64 i∧i≤pn∧p≤r.length∧Hid (XN V i (r.drop u)=some (X,r.drop p)∧Own OpD.cells 26 68 w0.heap.size wr (.slice la pn lc) (Y3 0 X i ls)∧Own Zh 1 3 w0.heap.size wr (.slice pa pn pc) V∧Below w0.heap.size w0 wr))
  case atStart=>exact ⟨0,u,[],rfl,rfl,rfl,Nat.zero_le _,hul,Lib.hid ⟨rfl,by unfold Y3;rw[VI];exact HO5.out,HV.out,HB5.out⟩⟩
  case round =>
   clear HB5 HO5 HV hul
   obtain ⟨i,p,X,hg,rfl,rfl,hi,hpr,HI⟩:=hrel
   have HG:=Lib.hid hg
   clear hg
   by_cases hlt:i<pn
   ·have hi1:(i:Int)<(pn:Int):=by omega
    have hi0:(0:Int)≤(i:Int):=by omega
    obtain ⟨x,hx⟩:∃ x,ls[i]?=some x:=⟨_,List.getElem?_eq_getElem (by rw[←HLN.out];exact hlt)⟩
    obtain ⟨y,hy⟩:∃ y,V[i]?=some y:=⟨_,List.getElem?_eq_getElem (by rw[HVL.out];exact hlt)⟩
    obtain ⟨vb,vo,ev,cv⟩:=(HI.out.2.2.1.slice Zg).at1 hy rfl
    cases ev
    have HX:=Lib.hid hx
    have HY:=Lib.hid hy
    by_cases hneg:y<0
    ·have HBAD:Hid (Yr pn 0 (ls,r)=none):=Jh (U0 HD.out (Vx HI.out.1 hy (.inl hneg) hlt))
     have HB9:=Lib.hid HI.out.2.2.2
     clear hx hy HI
     go_wp2_with fail
     go_ret
     exact .inr ⟨HBAD.out,rfl,HB9.out⟩
    ·obtain ⟨k,rfl⟩:∃ k:Nat,y=(k:Int):=⟨y.toNat,by omega⟩
     have hneg0:¬ (k:Int)<0:=hneg
     obtain ⟨m,hm⟩:∃ m:Nat,m=r.length - p:=⟨_,rfl⟩
     have hsub:(r.length:Int) - (p:Int)=(m:Int):=by omega
     by_cases hgt:m<k
     ·have hgt1:(m:Int)<(k:Int):=by omega
      have HBAD:Hid (Yr pn 0 (ls,r)=none):=Jh (U0 HD.out (Vx HI.out.1 hy (.inr (by rw[List.length_drop];omega)) hlt))
      have HB9:=Lib.hid HI.out.2.2.2
      clear hx hy HI hm hneg hgt
      go_wp2_with fail
      go_ret
      exact .inr ⟨HBAD.out,rfl,HB9.out⟩
     ·have hgt1:¬ (m:Int)<(k:Int):=by omega
      have hpk:p+k≤r.length:=by omega
      obtain ⟨a1,c1,hsl,hS1⟩:=Rf (P:=Tryz.prog) (ea:=u8c) Tryz.underlying22 Zi a r.length cap p (p+k) hcap (by omega) hpk
      have hpk0:p+k - p=k:=by omega
      rw[hpk0] at hS1
      simp only[hpk0,Int.natCast_add] at hsl
      have hcv:=fun W hW=>Zs (hS1 W r rfl hW)
      obtain ⟨s,hsE⟩:∃ s:ByteArray,s=⟨((r.drop p).take k).toArray⟩:=⟨_,rfl⟩
      rw[←hsE] at hcv
      have hcv1:=hcv wr (HH.out.below HI.out.2.2.2)
      have hmx:=VG (fun j o=>o.setX 0 (X.getD j ZJ)) i hx
      obtain ⟨g,gcap,e,hg1,hg3⟩:=HI.out.2.1.eq_slice.resolve_left (fun e=>by have e2:=e.2;unfold Y3 at e2;rw[e2] at hmx;simp at hmx)
      injection e with e1 e2 e3
      subst e1 e3
      clear e2
      have hln:(Y3 0 X i ls).length=pn:=by unfold Y3;rw[YH];exact HLN.out.symm
      have ho1:=HI.out.2.1
      rw[←hln] at ho1
      have c17:=ho1.cellAt OpD.len hmx (j:=17) rfl
      have f17:=ho1.free (i*26+17)
      have h1:=ho1.setAt OpD.len hmx (j:=17) (y:=x.setX 0 s) (u:=.string s) (by omega) (UB x 0 s)
      have hXl:=(UU HI.out.1).1
      rw[hln,←Tw 0 i hXl hx (s:=s)] at h1
      have HC:=Jh (Tz HI.out.1 hy (by rw[List.length_drop];omega))
      rw[List.drop_drop,←hsE] at HC
      have HI2:Hid (Own OpD.cells 26 68 w0.heap.size (wr.setCell ⟨g,i*26+17,none⟩ (.string s)) (.slice (some ⟨g,0,none⟩) pn lc) (Y3 0 (X++[s]) (i+1) ls)∧Own Zh 1 3 w0.heap.size (wr.setCell ⟨g,i*26+17,none⟩ (.string s)) (.slice (some ⟨vb,vo,none⟩) pn pc) V∧Below w0.heap.size w0 (wr.setCell ⟨g,i*26+17,none⟩ (.string s))):=Lib.hid ⟨h1,HI.out.2.2.1.notg ho1 (by decide) rfl _ _,Wr HI.out.2.2.2 (ho1.blk g rfl).1 _ _⟩
      clear h1 ho1 hx hy hmx hln HI hg1 hg3 hS1 hcv hsE hXl hneg hgt hm
      go_upto_region 17 with fail
      generalize wr.setCell ⟨g,i*26+17,none⟩ (.string s)=W2 at HI2 ⊢
      clear c17 f17 cv hcv1 hsl
      obtain ⟨zb,zo,ev,cv⟩:=(HI2.out.2.1.slice Zg).at1 HY.out rfl
      cases ev
      go_wp2_with fail
      go_roundg (pn - (i+1))
      case measure=>rw[HG.out];omega
      case rel=>exact ⟨i+1,p+k,X++[s],rfl,by simp,by simp,by omega,by omega,Lib.hid ⟨HC.out,HI2.out⟩⟩
   ·obtain rfl:i=pn:=by omega
    have hi1:¬ (i:Int)<(i:Int):=by omega
    have HI3:=Lib.hid HI.out
    clear HI
    go_wp2_with fail
    go_ret
    exact .inl ⟨Y3 0 X i ls,p,hpr,Z0H HD.out HI3.out.1,rfl,HI3.out.2.1,HI3.out.2.2.2⟩
 ·have HBAD:Hid (Yr n 0 (ls,r)=none):=Jh (Qz hd)
  have HB6:=Jh (HB.out.trans (hb5.mono HB.out.size))
  clear hd hb5
  go_wp2_with fail
  go_ret
  exact .inr ⟨HBAD.out,rfl,HB6.out⟩
theorem Z6n (w0 w:World) (v tb:Value) (r:List UInt8) (ls:List OpD) (ho:Own OpD.cells 26 68 w0.heap.size w v ls) (hb:Below w0.heap.size w0 w) (hs:Z0 u8c 1 w0 tb r) (hn:ls.length≤200):Calls Tryz.prog 60 #[v,tb,.int .i64 1] w fun e w'=>SQ w0 v r (Yr ls.length 1 (ls,r)) e w':=by
 obtain ⟨⟨la,ln,lc⟩,el⟩:=ho.sl
 dsimp only at el
 subst el
 obtain rfl:ln=ls.length:=(ho.nlen OpD.len).1
 obtain ⟨a,cap,rfl,hcap,hmax,-⟩:=id hs
 unfold maxLen at hmax
 obtain ⟨n,hn'⟩:∃ n,n=ls.length:=⟨_,rfl⟩
 have HH:=Lib.hid hs
 have HB:=Lib.hid hb
 have HLN:=Lib.hid hn'
 rw[←hn'] at hn ho ⊢
 have HO:=Lib.hid ho
 clear ho hb hs hn'
 go_enter Tryz.func60,Tryz.ntmps60
 go_wp2_with fail
 refine (WH _ r n w (HH.out.below HB.out) (by omega)).mono ?_
 rintro e w5 (⟨V,u,v5,hd,rfl,hown,hb5⟩|⟨hd,rfl,hb5⟩)
 ·have HB5:=Jh (HB.out.trans (hb5.mono HB.out.size))
  have HO5:=Jh (HO.out.below1 hb5)
  have hcf:=Vi (by omega) hd
  have hul:=hcf.2
  obtain ⟨⟨pa,pn,pc⟩,ep⟩:=hown.sl
  dsimp only at ep
  subst ep
  obtain rfl:pn=n:=by have h:=(hown.nlen Zg).1;rw[hcf.1] at h;exact h
  have HVL:Hid (V.length=pn):=Lib.hid hcf.1
  have HV:Hid (Own Zh 1 3 w0.heap.size w5 (.slice pa pn pc) V):=Jh (hown.mono HB.out.size)
  have HD:=Lib.hid hd
  clear hd hcf hown hb5 HO HB
  go_wp2_with fail
  go_loopg [8,10] pn (fun g pv iv wr=>∃ (i:Nat) (p:Nat) (X:List ByteArray),g=pn - i∧pv=.int .i64 p∧iv=.int .i64 i∧i≤pn∧p≤r.length∧Hid (XN V i (r.drop u)=some (X,r.drop p)∧Own OpD.cells 26 68 w0.heap.size wr (.slice la pn lc) (Y3 1 X i ls)∧Own Zh 1 3 w0.heap.size wr (.slice pa pn pc) V∧Below w0.heap.size w0 wr))
  case atStart=>exact ⟨0,u,[],rfl,rfl,rfl,Nat.zero_le _,hul,Lib.hid ⟨rfl,by unfold Y3;rw[VI];exact HO5.out,HV.out,HB5.out⟩⟩
  case round =>
   clear HB5 HO5 HV hul
   obtain ⟨i,p,X,hg,rfl,rfl,hi,hpr,HI⟩:=hrel
   have HG:=Lib.hid hg
   clear hg
   by_cases hlt:i<pn
   ·have hi1:(i:Int)<(pn:Int):=by omega
    have hi0:(0:Int)≤(i:Int):=by omega
    obtain ⟨x,hx⟩:∃ x,ls[i]?=some x:=⟨_,List.getElem?_eq_getElem (by rw[←HLN.out];exact hlt)⟩
    obtain ⟨y,hy⟩:∃ y,V[i]?=some y:=⟨_,List.getElem?_eq_getElem (by rw[HVL.out];exact hlt)⟩
    obtain ⟨vb,vo,ev,cv⟩:=(HI.out.2.2.1.slice Zg).at1 hy rfl
    cases ev
    have HX:=Lib.hid hx
    have HY:=Lib.hid hy
    by_cases hneg:y<0
    ·have HBAD:Hid (Yr pn 1 (ls,r)=none):=Jh (U0 HD.out (Vx HI.out.1 hy (.inl hneg) hlt))
     have HB9:=Lib.hid HI.out.2.2.2
     clear hx hy HI
     go_wp2_with fail
     go_ret
     exact .inr ⟨HBAD.out,rfl,HB9.out⟩
    ·obtain ⟨k,rfl⟩:∃ k:Nat,y=(k:Int):=⟨y.toNat,by omega⟩
     have hneg0:¬ (k:Int)<0:=hneg
     obtain ⟨m,hm⟩:∃ m:Nat,m=r.length - p:=⟨_,rfl⟩
     have hsub:(r.length:Int) - (p:Int)=(m:Int):=by omega
     by_cases hgt:m<k
     ·have hgt1:(m:Int)<(k:Int):=by omega
      have HBAD:Hid (Yr pn 1 (ls,r)=none):=Jh (U0 HD.out (Vx HI.out.1 hy (.inr (by rw[List.length_drop];omega)) hlt))
      have HB9:=Lib.hid HI.out.2.2.2
      clear hx hy HI hm hneg hgt
      go_wp2_with fail
      go_ret
      exact .inr ⟨HBAD.out,rfl,HB9.out⟩
     ·have hgt1:¬ (m:Int)<(k:Int):=by omega
      have hpk:p+k≤r.length:=by omega
      obtain ⟨a1,c1,hsl,hS1⟩:=Rf (P:=Tryz.prog) (ea:=u8c) Tryz.underlying22 Zi a r.length cap p (p+k) hcap (by omega) hpk
      have hpk0:p+k - p=k:=by omega
      rw[hpk0] at hS1
      simp only[hpk0,Int.natCast_add] at hsl
      have hcv:=fun W hW=>Zs (hS1 W r rfl hW)
      obtain ⟨s,hsE⟩:∃ s:ByteArray,s=⟨((r.drop p).take k).toArray⟩:=⟨_,rfl⟩
      rw[←hsE] at hcv
      have hcv1:=hcv wr (HH.out.below HI.out.2.2.2)
      have hmx:=VG (fun j o=>o.setX 1 (X.getD j ZJ)) i hx
      obtain ⟨g,gcap,e,hg1,hg3⟩:=HI.out.2.1.eq_slice.resolve_left (fun e=>by have e2:=e.2;unfold Y3 at e2;rw[e2] at hmx;simp at hmx)
      injection e with e1 e2 e3
      subst e1 e3
      clear e2
      have hln:(Y3 1 X i ls).length=pn:=by unfold Y3;rw[YH];exact HLN.out.symm
      have ho1:=HI.out.2.1
      rw[←hln] at ho1
      have c17:=ho1.cellAt OpD.len hmx (j:=18) rfl
      have f17:=ho1.free (i*26+18)
      have h1:=ho1.setAt OpD.len hmx (j:=18) (y:=x.setX 1 s) (u:=.string s) (by omega) (UB x 1 s)
      have hXl:=(UU HI.out.1).1
      rw[hln,←Tw 1 i hXl hx (s:=s)] at h1
      have HC:=Jh (Tz HI.out.1 hy (by rw[List.length_drop];omega))
      rw[List.drop_drop,←hsE] at HC
      have HI2:Hid (Own OpD.cells 26 68 w0.heap.size (wr.setCell ⟨g,i*26+18,none⟩ (.string s)) (.slice (some ⟨g,0,none⟩) pn lc) (Y3 1 (X++[s]) (i+1) ls)∧Own Zh 1 3 w0.heap.size (wr.setCell ⟨g,i*26+18,none⟩ (.string s)) (.slice (some ⟨vb,vo,none⟩) pn pc) V∧Below w0.heap.size w0 (wr.setCell ⟨g,i*26+18,none⟩ (.string s))):=Lib.hid ⟨h1,HI.out.2.2.1.notg ho1 (by decide) rfl _ _,Wr HI.out.2.2.2 (ho1.blk g rfl).1 _ _⟩
      clear h1 ho1 hx hy hmx hln HI hg1 hg3 hS1 hcv hsE hXl hneg hgt hm
      go_upto_region 17 with fail
      generalize wr.setCell ⟨g,i*26+18,none⟩ (.string s)=W2 at HI2 ⊢
      clear c17 f17 cv hcv1 hsl
      obtain ⟨zb,zo,ev,cv⟩:=(HI2.out.2.1.slice Zg).at1 HY.out rfl
      cases ev
      go_wp2_with fail
      go_roundg (pn - (i+1))
      case measure=>rw[HG.out];omega
      case rel=>exact ⟨i+1,p+k,X++[s],rfl,by simp,by simp,by omega,by omega,Lib.hid ⟨HC.out,HI2.out⟩⟩
   ·obtain rfl:i=pn:=by omega
    have hi1:¬ (i:Int)<(i:Int):=by omega
    have HI3:=Lib.hid HI.out
    clear HI
    go_wp2_with fail
    go_ret
    exact .inl ⟨Y3 1 X i ls,p,hpr,Z0H HD.out HI3.out.1,rfl,HI3.out.2.1,HI3.out.2.2.2⟩
 ·have HBAD:Hid (Yr n 1 (ls,r)=none):=Jh (Qz hd)
  have HB6:=Jh (HB.out.trans (hb5.mono HB.out.size))
  clear hd hb5
  go_wp2_with fail
  go_ret
  exact .inr ⟨HBAD.out,rfl,HB6.out⟩
theorem Z7i (w0 w:World) (v tb:Value) (r:List UInt8) (ls:List OpD) (ho:Own OpD.cells 26 68 w0.heap.size w v ls) (hb:Below w0.heap.size w0 w) (hs:Z0 u8c 1 w0 tb r) (hn:ls.length≤200):Calls Tryz.prog 60 #[v,tb,.int .i64 2] w fun e w'=>SQ w0 v r (Yr ls.length 2 (ls,r)) e w':=by
 obtain ⟨⟨la,ln,lc⟩,el⟩:=ho.sl
 dsimp only at el
 subst el
 obtain rfl:ln=ls.length:=(ho.nlen OpD.len).1
 obtain ⟨a,cap,rfl,hcap,hmax,-⟩:=id hs
 unfold maxLen at hmax
 obtain ⟨n,hn'⟩:∃ n,n=ls.length:=⟨_,rfl⟩
 have HH:=Lib.hid hs
 have HB:=Lib.hid hb
 have HLN:=Lib.hid hn'
 rw[←hn'] at hn ho ⊢
 have HO:=Lib.hid ho
 clear ho hb hs hn'
 go_enter Tryz.func60,Tryz.ntmps60
 go_wp2_with fail
 refine (WH _ r n w (HH.out.below HB.out) (by omega)).mono ?_
 rintro e w5 (⟨V,u,v5,hd,rfl,hown,hb5⟩|⟨hd,rfl,hb5⟩)
 ·have HB5:=Jh (HB.out.trans (hb5.mono HB.out.size))
  have HO5:=Jh (HO.out.below1 hb5)
  have hcf:=Vi (by omega) hd
  have hul:=hcf.2
  obtain ⟨⟨pa,pn,pc⟩,ep⟩:=hown.sl
  dsimp only at ep
  subst ep
  obtain rfl:pn=n:=by have h:=(hown.nlen Zg).1;rw[hcf.1] at h;exact h
  have HVL:Hid (V.length=pn):=Lib.hid hcf.1
  have HV:Hid (Own Zh 1 3 w0.heap.size w5 (.slice pa pn pc) V):=Jh (hown.mono HB.out.size)
  have HD:=Lib.hid hd
  clear hd hcf hown hb5 HO HB
  go_wp2_with fail
  go_loopg [8,10] pn (fun g pv iv wr=>∃ (i:Nat) (p:Nat) (X:List ByteArray),g=pn - i∧pv=.int .i64 p∧iv=.int .i64 i∧i≤pn∧p≤r.length∧Hid (XN V i (r.drop u)=some (X,r.drop p)∧Own OpD.cells 26 68 w0.heap.size wr (.slice la pn lc) (Y3 2 X i ls)∧Own Zh 1 3 w0.heap.size wr (.slice pa pn pc) V∧Below w0.heap.size w0 wr))
  case atStart=>exact ⟨0,u,[],rfl,rfl,rfl,Nat.zero_le _,hul,Lib.hid ⟨rfl,by unfold Y3;rw[VI];exact HO5.out,HV.out,HB5.out⟩⟩
  case round =>
   clear HB5 HO5 HV hul
   obtain ⟨i,p,X,hg,rfl,rfl,hi,hpr,HI⟩:=hrel
   have HG:=Lib.hid hg
   clear hg
   by_cases hlt:i<pn
   ·have hi1:(i:Int)<(pn:Int):=by omega
    have hi0:(0:Int)≤(i:Int):=by omega
    obtain ⟨x,hx⟩:∃ x,ls[i]?=some x:=⟨_,List.getElem?_eq_getElem (by rw[←HLN.out];exact hlt)⟩
    obtain ⟨y,hy⟩:∃ y,V[i]?=some y:=⟨_,List.getElem?_eq_getElem (by rw[HVL.out];exact hlt)⟩
    obtain ⟨vb,vo,ev,cv⟩:=(HI.out.2.2.1.slice Zg).at1 hy rfl
    cases ev
    have HX:=Lib.hid hx
    have HY:=Lib.hid hy
    by_cases hneg:y<0
    ·have HBAD:Hid (Yr pn 2 (ls,r)=none):=Jh (U0 HD.out (Vx HI.out.1 hy (.inl hneg) hlt))
     have HB9:=Lib.hid HI.out.2.2.2
     clear hx hy HI
     go_wp2_with fail
     go_ret
     exact .inr ⟨HBAD.out,rfl,HB9.out⟩
    ·obtain ⟨k,rfl⟩:∃ k:Nat,y=(k:Int):=⟨y.toNat,by omega⟩
     have hneg0:¬ (k:Int)<0:=hneg
     obtain ⟨m,hm⟩:∃ m:Nat,m=r.length - p:=⟨_,rfl⟩
     have hsub:(r.length:Int) - (p:Int)=(m:Int):=by omega
     by_cases hgt:m<k
     ·have hgt1:(m:Int)<(k:Int):=by omega
      have HBAD:Hid (Yr pn 2 (ls,r)=none):=Jh (U0 HD.out (Vx HI.out.1 hy (.inr (by rw[List.length_drop];omega)) hlt))
      have HB9:=Lib.hid HI.out.2.2.2
      clear hx hy HI hm hneg hgt
      go_wp2_with fail
      go_ret
      exact .inr ⟨HBAD.out,rfl,HB9.out⟩
     ·have hgt1:¬ (m:Int)<(k:Int):=by omega
      have hpk:p+k≤r.length:=by omega
      obtain ⟨a1,c1,hsl,hS1⟩:=Rf (P:=Tryz.prog) (ea:=u8c) Tryz.underlying22 Zi a r.length cap p (p+k) hcap (by omega) hpk
      have hpk0:p+k - p=k:=by omega
      rw[hpk0] at hS1
      simp only[hpk0,Int.natCast_add] at hsl
      have hcv:=fun W hW=>Zs (hS1 W r rfl hW)
      obtain ⟨s,hsE⟩:∃ s:ByteArray,s=⟨((r.drop p).take k).toArray⟩:=⟨_,rfl⟩
      rw[←hsE] at hcv
      have hcv1:=hcv wr (HH.out.below HI.out.2.2.2)
      have hmx:=VG (fun j o=>o.setX 2 (X.getD j ZJ)) i hx
      obtain ⟨g,gcap,e,hg1,hg3⟩:=HI.out.2.1.eq_slice.resolve_left (fun e=>by have e2:=e.2;unfold Y3 at e2;rw[e2] at hmx;simp at hmx)
      injection e with e1 e2 e3
      subst e1 e3
      clear e2
      have hln:(Y3 2 X i ls).length=pn:=by unfold Y3;rw[YH];exact HLN.out.symm
      have ho1:=HI.out.2.1
      rw[←hln] at ho1
      have c17:=ho1.cellAt OpD.len hmx (j:=19) rfl
      have f17:=ho1.free (i*26+19)
      have h1:=ho1.setAt OpD.len hmx (j:=19) (y:=x.setX 2 s) (u:=.string s) (by omega) (UB x 2 s)
      have hXl:=(UU HI.out.1).1
      rw[hln,←Tw 2 i hXl hx (s:=s)] at h1
      have HC:=Jh (Tz HI.out.1 hy (by rw[List.length_drop];omega))
      rw[List.drop_drop,←hsE] at HC
      have HI2:Hid (Own OpD.cells 26 68 w0.heap.size (wr.setCell ⟨g,i*26+19,none⟩ (.string s)) (.slice (some ⟨g,0,none⟩) pn lc) (Y3 2 (X++[s]) (i+1) ls)∧Own Zh 1 3 w0.heap.size (wr.setCell ⟨g,i*26+19,none⟩ (.string s)) (.slice (some ⟨vb,vo,none⟩) pn pc) V∧Below w0.heap.size w0 (wr.setCell ⟨g,i*26+19,none⟩ (.string s))):=Lib.hid ⟨h1,HI.out.2.2.1.notg ho1 (by decide) rfl _ _,Wr HI.out.2.2.2 (ho1.blk g rfl).1 _ _⟩
      clear h1 ho1 hx hy hmx hln HI hg1 hg3 hS1 hcv hsE hXl hneg hgt hm
      go_upto_region 17 with fail
      generalize wr.setCell ⟨g,i*26+19,none⟩ (.string s)=W2 at HI2 ⊢
      clear c17 f17 cv hcv1 hsl
      obtain ⟨zb,zo,ev,cv⟩:=(HI2.out.2.1.slice Zg).at1 HY.out rfl
      cases ev
      go_wp2_with fail
      go_roundg (pn - (i+1))
      case measure=>rw[HG.out];omega
      case rel=>exact ⟨i+1,p+k,X++[s],rfl,by simp,by simp,by omega,by omega,Lib.hid ⟨HC.out,HI2.out⟩⟩
   ·obtain rfl:i=pn:=by omega
    have hi1:¬ (i:Int)<(i:Int):=by omega
    have HI3:=Lib.hid HI.out
    clear HI
    go_wp2_with fail
    go_ret
    exact .inl ⟨Y3 2 X i ls,p,hpr,Z0H HD.out HI3.out.1,rfl,HI3.out.2.1,HI3.out.2.2.2⟩
 ·have HBAD:Hid (Yr n 2 (ls,r)=none):=Jh (Qz hd)
  have HB6:=Jh (HB.out.trans (hb5.mono HB.out.size))
  clear hd hb5
  go_wp2_with fail
  go_ret
  exact .inr ⟨HBAD.out,rfl,HB6.out⟩
theorem Z4I (w0 w:World) (v tb:Value) (r:List UInt8) (ls:List OpD) (c:Nat) (hc:c<3) (ho:Own OpD.cells 26 68 w0.heap.size w v ls) (hb:Below w0.heap.size w0 w) (hs:Z0 u8c 1 w0 tb r) (hn:ls.length≤200):Calls Tryz.prog 60 #[v,tb,.int .i64 c] w fun e w'=>SQ w0 v r (Yr ls.length c (ls,r)) e w':=by
 rcases (by omega:c=0∨c=1∨c=2) with rfl|rfl|rfl
 ·exact Z79 w0 w v tb r ls ho hb hs hn
 ·exact Z6n w0 w v tb r ls ho hb hs hn
 ·exact Z7i w0 w v tb r ls ho hb hs hn
end Go.Proofs.YtgmdimbiipemhaaGreatDoor
