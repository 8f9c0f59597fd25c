/- ViewKinds, part 19 of what the proof leans on (made short by a program). -/
import Derived.Test.YtlgipkemoldckaaGreatDoorVkZ18
set_option linter.unusedSimpArgs false
set_option linter.unusedVariables false
set_option linter.unusedSectionVars false
set_option maxRecDepth 20000
set_option maxHeartbeats 30000000
namespace Go.Proofs.YtlgipkemoldckaaGreatDoor
open Go.RowKit
theorem NdB.setText {W:World} {b:Nat} {id:St} {kind:ByteArray} {x y z:Sl} (h:NdB W b id kind x y z) (x':Sl):NdB (W.setCell ⟨b,4,none⟩ (.slice x'.a x'.n x'.cap)) b id kind x x' z:=by
 have h:=show W.heap[b]?=_ from h
 show (World.heap _)[b]?=_
 simp only[World.setCell,Array.getElem?_modify,if_true,h]
 rfl
def Hit (l:List El) (u:St) (k:Nat):Prop:=∃ j x,1≤j∧j<k∧(ZY l)[j]?=some x∧x.blk=u
theorem Z1a {l:List El} (hu:XO l) {j:Nat} {x:Spn} (h1:1≤j) (hx:(ZY l)[j]?=some x):YD l x.blk=some x:=by
 refine Rx (Tg hu) ?_
 unfold ZJ
 refine List.mem_map.2 ⟨x,?_,rfl⟩
 obtain ⟨n0,R,e⟩:=Xq l
 rw[e] at hx ⊢
 match j,h1,hx with
 | j+1,_,hx=>exact List.mem_of_getElem? (by simpa using hx)
theorem Z3d {l:List El} {u:St} {s:Spn} (h:YD l u=some s):Hit l u (ZY l).length:=by
 have:(u,s)∈ZJ l:=by
  unfold YD at h
  generalize ZJ l=M at h
  induction M with
  | nil=>cases h
  | cons p r ih =>
   obtain ⟨k',v'⟩:=p
   simp only[Z3] at h
   split at h
   ·rename_i e;subst e;cases h;exact List.mem_cons_self ..
   ·exact List.mem_cons_of_mem _ (ih h)
 unfold ZJ at this
 obtain ⟨t,ht,e⟩:=List.mem_map.1 this
 obtain ⟨n0,R,e2⟩:=Xq l
 rw[e2] at ht
 obtain ⟨j,hj⟩:=List.getElem?_of_mem ht
 have hj2:(ZY l)[j+1]?=some t:=by rw[e2];simpa using hj
 cases e
 exact ⟨j+1,_,by omega,(List.getElem?_eq_some_iff.1 hj2).1,hj2,rfl⟩
theorem QL {l:List El} {u:St} {k:Nat} {x:Spn} (hx:(ZY l)[k]?=some x) (hn:x.blk≠u) (h:Hit l u (k+1)):Hit l u k:=by
 obtain ⟨j,y,h1,h2,h3,h4⟩:=h
 by_cases e:j=k
 ·subst e;rw[hx] at h3;cases h3;exact absurd h4 hn
 ·exact ⟨j,y,h1,by omega,h3,h4⟩
theorem QX (V:Vw) (b:Rw) (n:Nat) (hrow:UD V b n):QQ V b n:=by
 intro u s w hB hsp
 have hB0:Below w.heap.size w ((((w.alloc (.cells #[.slice b.va b.l.length b.ca,.slice b.vk b.D.length b.ck,.pointer (some ⟨b.gp,0,none⟩),.slice b.vb b.ms.length b.cb] 121)).alloc (.cells #[.int .i64 u.n,.int .i64 u.r] 23)).alloc (.cells #[.int .i64 0,.int .i64 0,.string ⟨#[]⟩,.slice none 0 0,.slice none 0 0,.slice none 0 0] 28)).alloc (.cells #[.int .i64 u.n,.int .i64 u.r,.string ⟨#[112,97,114,97]⟩,.slice none 0 0,.slice none 0 0,.slice none 0 0] 28)):=((((Below.refl _ _).alloc (Nat.le_refl _) _).alloc (by simp) _).alloc (by simp;omega) _).alloc (by simp;omega) _
 have hz1:((((w.alloc (.cells #[.slice b.va b.l.length b.ca,.slice b.vk b.D.length b.ck,.pointer (some ⟨b.gp,0,none⟩),.slice b.vb b.ms.length b.cb] 121)).alloc (.cells #[.int .i64 u.n,.int .i64 u.r] 23)).alloc (.cells #[.int .i64 0,.int .i64 0,.string ⟨#[]⟩,.slice none 0 0,.slice none 0 0,.slice none 0 0] 28)).alloc (.cells #[.int .i64 u.n,.int .i64 u.r,.string ⟨#[112,97,114,97]⟩,.slice none 0 0,.slice none 0 0,.slice none 0 0] 28)).heap.size=w.heap.size+4:=by simp
 have hwb:RwB ((((w.alloc (.cells #[.slice b.va b.l.length b.ca,.slice b.vk b.D.length b.ck,.pointer (some ⟨b.gp,0,none⟩),.slice b.vb b.ms.length b.cb] 121)).alloc (.cells #[.int .i64 u.n,.int .i64 u.r] 23)).alloc (.cells #[.int .i64 0,.int .i64 0,.string ⟨#[]⟩,.slice none 0 0,.slice none 0 0,.slice none 0 0] 28)).alloc (.cells #[.int .i64 u.n,.int .i64 u.r,.string ⟨#[112,97,114,97]⟩,.slice none 0 0,.slice none 0 0,.slice none 0 0] 28)) w.heap.size b:=((Below.heap_alloc _ _ _ (by simp;omega)).trans ((Below.heap_alloc _ _ _ (by simp;omega)).trans ((Below.heap_alloc _ _ _ (by simp)).trans (World.alloc_heap_new w _))))
 have hrb:NdB ((((w.alloc (.cells #[.slice b.va b.l.length b.ca,.slice b.vk b.D.length b.ck,.pointer (some ⟨b.gp,0,none⟩),.slice b.vb b.ms.length b.cb] 121)).alloc (.cells #[.int .i64 u.n,.int .i64 u.r] 23)).alloc (.cells #[.int .i64 0,.int .i64 0,.string ⟨#[]⟩,.slice none 0 0,.slice none 0 0,.slice none 0 0] 28)).alloc (.cells #[.int .i64 u.n,.int .i64 u.r,.string ⟨#[112,97,114,97]⟩,.slice none 0 0,.slice none 0 0,.slice none 0 0] 28)) (w.heap.size+2) ⟨0,0⟩ ⟨#[]⟩ Z2 Z2 Z2:=by
  have:=(X8 ((w.alloc (.cells #[.slice b.va b.l.length b.ca,.slice b.vk b.D.length b.ck,.pointer (some ⟨b.gp,0,none⟩),.slice b.vb b.ms.length b.cb] 121)).alloc (.cells #[.int .i64 u.n,.int .i64 u.r] 23))).ext ((Ext.refl (fun _=>False) _).alloc (.cells #[.int .i64 u.n,.int .i64 u.r,.string ⟨#[112,97,114,97]⟩,.slice none 0 0,.slice none 0 0,.slice none 0 0] 28)) (fun f=>f)
  rwa [World.size_alloc,World.size_alloc] at this
 have hnb:NdB ((((w.alloc (.cells #[.slice b.va b.l.length b.ca,.slice b.vk b.D.length b.ck,.pointer (some ⟨b.gp,0,none⟩),.slice b.vb b.ms.length b.cb] 121)).alloc (.cells #[.int .i64 u.n,.int .i64 u.r] 23)).alloc (.cells #[.int .i64 0,.int .i64 0,.string ⟨#[]⟩,.slice none 0 0,.slice none 0 0,.slice none 0 0] 28)).alloc (.cells #[.int .i64 u.n,.int .i64 u.r,.string ⟨#[112,97,114,97]⟩,.slice none 0 0,.slice none 0 0,.slice none 0 0] 28)) (w.heap.size+3) u Zs Z2 Z2 Z2:=by
  have:=World.alloc_heap_new (((w.alloc (.cells #[.slice b.va b.l.length b.ca,.slice b.vk b.D.length b.ck,.pointer (some ⟨b.gp,0,none⟩),.slice b.vb b.ms.length b.cb] 121)).alloc (.cells #[.int .i64 u.n,.int .i64 u.r] 23)).alloc (.cells #[.int .i64 0,.int .i64 0,.string ⟨#[]⟩,.slice none 0 0,.slice none 0 0,.slice none 0 0] 28)) (.cells #[.int .i64 u.n,.int .i64 u.r,.string ⟨#[112,97,114,97]⟩,.slice none 0 0,.slice none 0 0,.slice none 0 0] 28)
  rwa [World.size_alloc,World.size_alloc,World.size_alloc] at this
 have x0:((((w.alloc (.cells #[.slice b.va b.l.length b.ca,.slice b.vk b.D.length b.ck,.pointer (some ⟨b.gp,0,none⟩),.slice b.vb b.ms.length b.cb] 121)).alloc (.cells #[.int .i64 u.n,.int .i64 u.r] 23)).alloc (.cells #[.int .i64 0,.int .i64 0,.string ⟨#[]⟩,.slice none 0 0,.slice none 0 0,.slice none 0 0] 28)).alloc (.cells #[.int .i64 u.n,.int .i64 u.r,.string ⟨#[112,97,114,97]⟩,.slice none 0 0,.slice none 0 0,.slice none 0 0] 28)).cell? ⟨w.heap.size+1,0,none⟩=some (.int .i64 u.n):=by go_simp
 have x1:((((w.alloc (.cells #[.slice b.va b.l.length b.ca,.slice b.vk b.D.length b.ck,.pointer (some ⟨b.gp,0,none⟩),.slice b.vb b.ms.length b.cb] 121)).alloc (.cells #[.int .i64 u.n,.int .i64 u.r] 23)).alloc (.cells #[.int .i64 0,.int .i64 0,.string ⟨#[]⟩,.slice none 0 0,.slice none 0 0,.slice none 0 0] 28)).alloc (.cells #[.int .i64 u.n,.int .i64 u.r,.string ⟨#[112,97,114,97]⟩,.slice none 0 0,.slice none 0 0,.slice none 0 0] 28)).cell? ⟨w.heap.size+1,1,none⟩=some (.int .i64 u.r):=by go_simp
 have HB0:=Lib.hid hB0
 have HW1:=Jh (hB.below hB0)
 have HW0:=Lib.hid hB
 have HR:=Lib.hid hrow
 have HSP:=Lib.hid hsp
 obtain ⟨w0,w1',w2',w3'⟩:=hwb.cells
 have HWB:=Lib.hid hwb
 have HRB:=Lib.hid hrb
 have HNB:=Lib.hid hnb
 have HX01:=Jh (And.intro x0 x1)
 unfold Rw.val
 clear hB hB0 hrow hsp hwb hrb hnb
 go_enter Tryz.func85,Tryz.ntmps85
 go_upto_region 2 with fail
 generalize ((((w.alloc (.cells #[.slice b.va b.l.length b.ca,.slice b.vk b.D.length b.ck,.pointer (some ⟨b.gp,0,none⟩),.slice b.vb b.ms.length b.cb] 121)).alloc (.cells #[.int .i64 u.n,.int .i64 u.r] 23)).alloc (.cells #[.int .i64 0,.int .i64 0,.string ⟨#[]⟩,.slice none 0 0,.slice none 0 0,.slice none 0 0] 28)).alloc (.cells #[.int .i64 u.n,.int .i64 u.r,.string ⟨#[112,97,114,97]⟩,.slice none 0 0,.slice none 0 0,.slice none 0 0] 28))=w1 at *
 have hz1l:w.heap.size+4≤w1.heap.size:=by omega
 clear hz1
 obtain ⟨nb,hnbe⟩:=Je (w.heap.size+3)
 rw[hnbe] at HNB ⊢
 have hnb1:w.heap.size+3≤nb∧nb<w1.heap.size:=by omega
 clear hnbe
 obtain ⟨hnb1,hnb2⟩:=hnb1
 go_wp2_with fail
 refine (HW1.out.rg w1 (Below.refl _ _) u).mono ?_
 rintro e w2 ⟨v2,rfl,hown2,hll,b2⟩
 obtain ⟨L,hL⟩:=Je (V.regs u)
 rw[hL] at hown2 hll
 have HLL:=Lib.hid hL
 obtain ⟨a2,cap2,rfl,hcc2,hmm2,-⟩:=hown2.slice (fun _=>rfl)
 unfold maxLen at hmm2
 have hz2:=b2.size
 have HB2:=Jh (HB0.out.trans (b2.mono HB0.out.size))
 have HW2:=Jh (HW1.out.below b2)
 have HWB2:=Jh (HWB.out.ext (Ext.of_below (S:=fun _=>False) b2) (fun f=>f))
 have HRB2:=Jh (HRB.out.ext (Ext.of_below (S:=fun _=>False) b2) (fun f=>f))
 have HNB2:=Jh (HNB.out.ext (Ext.of_below (S:=fun _=>False) b2) (fun f=>f))
 have HX2:=Jh (And.intro (Z0 b2 HX01.out.1) (Z0 b2 HX01.out.2))
 have HOW:=Lib.hid hown2
 obtain ⟨i0,hi,hz0,hz1q,hz2q⟩:=info_parts W5
 clear hL hown2 b2 hcc2 x0 x1 w0 w1' w2' w3' HB0 HW1 HWB HRB HNB HX01
 go_wp2_with fail
 go_loopg [9] L.length (fun g iv wx=>∃ (k:Nat) (sv:Sl),g=L.length - k∧k≤L.length∧iv=.int .i64 k∧Hid (NdB wx nb u (ZX (L.take k)).1 sv Z2 Z2)∧Hid (Own Atr.cells 2 73 w2.heap.size wx sv.val (ZX (L.take k)).2)∧Hid (Ext (·=nb) w2 wx))
 case atStart=>exact ⟨0,Z2,rfl,Nat.zero_le _,rfl,HNB2,Lib.hid Own.nil,Jh (Ext.refl _ _)⟩
 case round =>
  obtain ⟨k,sv,hg,hk,rfl,HNB,HO,HX⟩:=hrel
  have HG:=Lib.hid hg
  have hwz:=HX.out.size
  clear hg
  by_cases hlt:k<L.length
  ·obtain ⟨⟨nm,vl⟩,hx⟩:∃ x,L[k]?=some x:=⟨_,List.getElem?_eq_getElem hlt⟩
   have hkk:(k:Int)<(L.length:Int):=by omega
   have hk0:(0:Int)≤(k:Int):=by omega
   have hw4:=HOW.out.ext HX.out (fun j hj e=>by have:=(HOW.out.blk j hj).1;omega)
   obtain ⟨ba,oa,ca1,e1,hcs⟩:=(hw4.slice (fun _=>rfl)).acells (by intro e;rw[e] at hlt;simp at hlt)
   cases e1
   have hba:=(HOW.out.blk ba rfl)
   obtain ⟨y0,y1⟩:=hcs k _ hx
   simp only at y0 y1
   have HST:=Jh (Sz hx)
   have hpl:=Rn (L.take k)
   rw[List.length_take] at hpl
   have hpl2:(ZX (L.take k)).2.length≤1000000:=by omega
   obtain ⟨kd,hkd⟩:=Je ((ZX (L.take k)).1)
   obtain ⟨al,hal⟩:=Je ((ZX (L.take k)).2)
   have HRP:Hid (ZX (L.take k)=(kd,al)):=Jh (by rw[←hkd,←hal])
   rw[hkd] at HNB
   rw[hal] at HO hpl2
   clear hx hcs hw4 hpl hkd hal
   by_cases hv:vl=⟨#[]⟩
   ·subst hv
    go_wp2_with fail
    go_roundg (L.length - (k+1))
    case measure=>rw[HG.out];omega
    case rel =>
     refine ⟨k+1,sv,rfl,hlt,by go_num,?_,?_,HX⟩
     ·rw[HST.out,HRP.out];unfold ZI;rw[if_pos rfl];exact Jh (HNB.out)
     ·rw[HST.out,HRP.out];unfold ZI;rw[if_pos rfl];exact Jh (HO.out)
   ·have hv1:(vl.toList == [])=false:=by
     cases h:(vl.toList == []) with
     | false=>rfl
     | true=>exact absurd ((ZO vl ⟨#[]⟩).1 (by simpa using eq_of_beq h)) hv
    have hv2:(vl == ⟨#[]⟩)=false:=by rw[Xe];simp[hv]
    have HV:=Lib.hid hv
    clear hv
    by_cases hn:nm=ZV
    ·subst hn
     obtain ⟨g0,g1,g2,g3,g4,g5,gf⟩:=HNB.out.cells
     have gf2:=gf 2
     clear gf g0 g1 g3 g4 g5
     have hnw:=HNB.out.lt
     unfold ZV at y0
     go_wp2_with fail
     go_roundg (L.length - (k+1))
     case measure=>rw[HG.out];omega
     case rel =>
      refine ⟨k+1,sv,rfl,hlt,by go_num,?_,?_,Jh (HX.out.setCell (p:=⟨nb,2,none⟩) (.inr rfl) _)⟩
      ·rw[HST.out,HRP.out];unfold ZI;rw[if_neg HV.out,if_pos rfl];exact Jh (HNB.out.setKind vl)
      ·rw[HST.out,HRP.out];unfold ZI;rw[if_neg HV.out,if_pos rfl];exact Jh (HO.out.ext (S:=(·=nb)) ((Ext.refl (·=nb) wr).setCell (p:=⟨nb,2,none⟩) (.inr rfl) _) (fun j hj e=>by have:=(HO.out.blk j hj).1;omega))
    ·have hn1:(nm.toList == [107,105,110,100])=false:=by
      cases h:(nm.toList == [107,105,110,100]) with
      | false=>rfl
      | true=>exact absurd ((ZO nm ZV).1 (by simpa [ZV] using eq_of_beq h)) hn
     have hn2:(nm == ⟨#[107,105,110,100]⟩)=false:=by rw[Xe];simp;exact hn
     have HN:=Lib.hid hn
     clear hn
     obtain ⟨sa,sn,sc⟩:=sv
     obtain ⟨g0,g1,g2,g3,g4,g5,gf⟩:=HNB.out.cells
     clear gf g0 g1 g2 g4 g5
     have hnw:=HNB.out.lt
     simp only at g3
     go_upto_region 6 with fail
     have hS0:(fun W:World=>W.cell? ⟨nb,3,none⟩=some (.slice sa sn sc)∧W.cell? ⟨ba,oa+k*2,none⟩=some (.string nm)∧W.cell? ⟨ba,oa+k*2+1,none⟩=some (.string vl)) wr.drew:=⟨g3,y0,y1⟩
     have hod:=HO.out.drew
     have hbk:∀ j,(Sl.mk sa sn sc).val.ownBlock=some j→w2.heap.size≤j∧j<wr.heap.size:=fun j hj=>HO.out.blk j hj
     obtain ⟨v8,w8,hr8,hown8,hx8,hfr8⟩:=Yx (P:=Tryz.prog) 24 24 i0 (.agg #[.string ⟨#[]⟩,.string ⟨#[]⟩]) 32 Tryz.underlying24 hi hz0 hz1q hz2q rfl (by omega) (fun _=>rfl) (fun x u hu=>by simp[Atr.cells] at hu;rcases hu with rfl|rfl <;> rfl) (hod.alloc (.cells (Atr.cells ⟨nm,vl⟩).toArray 73)) ⟨nm,vl⟩ wr.drew.heap.size 1 (fun j u hj=>ZG j u hj) (by unfold maxLen;omega) (by omega) (by simp;omega)
     obtain ⟨⟨g8,n8,c8⟩,rfl⟩:=hown8.sl20
     simp only[Sl.val] at hr8
     have hxw:Ext (·=nb) w2 w8:=Ext.new2 ((HX.out.drew).alloc _) hx8 (fun j hj e=>by have:=(hbk j e).1;omega)
     have hnb8:=(HNB.out.ext (((Ext.refl (fun _=>False) wr).drew).alloc (.cells (Atr.cells ⟨nm,vl⟩).toArray 73)) (fun f=>f)).ext hx8 (fun e=>by have:=(hbk _ e).1;omega)
     obtain ⟨-,-,-,z3,-,-,zf⟩:=hnb8.cells
     have zf3:=zf 3
     simp only at z3
     have hS8:(fun W:World=>W.cell? ⟨nb,3,none⟩=some (.slice sa sn sc)∧W.cell? ⟨ba,oa+k*2,none⟩=some (.string nm)∧W.cell? ⟨ba,oa+k*2+1,none⟩=some (.string vl)) w8:=⟨z3,hx8.keep (Z1 y0 _) (fun e=>by have:=(hbk _ e).1;omega),hx8.keep (Z1 y1 _) (fun e=>by have:=(hbk _ e).1;omega)⟩
     have hS7:(fun W:World=>W.cell? ⟨nb,3,none⟩=some (.slice sa sn sc)∧W.cell? ⟨ba,oa+k*2,none⟩=some (.string nm)∧W.cell? ⟨ba,oa+k*2+1,none⟩=some (.string vl)) (wr.drew.alloc (.cells (Atr.cells ⟨nm,vl⟩).toArray 73)):=⟨Z1 g3 _,Z1 y0 _,Z1 y1 _⟩
     refine Zf (fun W:World=>W.cell? ⟨nb,3,none⟩=some (.slice sa sn sc)∧W.cell? ⟨ba,oa+k*2,none⟩=some (.string nm)∧W.cell? ⟨ba,oa+k*2+1,none⟩=some (.string vl)) (fun i=>i == 9) (by kernel_rfl) ?_
     refine J3 0 24 _ hS0 ?_
     try simp only[Ja]
     refine J3 1 25 (.slice sa sn sc) hS0 ?_
     try simp only[Ja]
     refine J3 2 26 _ hS0 ?_
     try simp only[Ja]
     refine J3 3 27 _ hS0 ?_
     try simp only[Ja]
     refine J3 4 28 _ hS0 ?_
     try simp only[Ja]
     refine J3 5 29 (.agg #[.string nm,.string vl]) hS0 ?_
     try simp only[Ja]
     refine Zl (i:=6) (d:=some 30) (v:=.slice (some ⟨wr.drew.heap.size,0,none⟩) 1 1) (w':=wr.drew.alloc (.cells (Atr.cells ⟨nm,vl⟩).toArray 73)) (by kernel_rfl) rfl rfl (by rfl) (by simp only[Atr.cells];go_simp;try rfl) (fun _=>hS7) ?_
     try simp only[Ja]
     refine Zl (i:=7) (d:=some 31) (v:=.slice g8 n8 c8) (w':=w8) (by kernel_rfl) rfl rfl (by rfl) (Yp rfl rfl rfl hr8) (fun _=>hS8) ?_
     try simp only[Ja]
     refine J3 8 32 _ hS8 ?_
     try simp only[Ja]
     refine Zh (i:=9) (d:=none) (w':=w8.setCell ⟨nb,3,none⟩ (.slice g8 n8 c8)) (by kernel_rfl) rfl rfl (by rfl) (by go_simp;try rfl) (fun h=>by cases h) ?_
     try simp only[Ja]
     refine Zd (by kernel_rfl) ?_ _
     have HN8:=Jh (hnb8.setAttrs ⟨g8,n8,c8⟩)
     have HO8:=Jh (hown8.ext (S:=(·=nb)) ((Ext.refl (·=nb) w8).setCell (p:=⟨nb,3,none⟩) (.inr rfl) (.slice g8 n8 c8)) (fun j hj e=>by have:=(hown8.blk j hj).1;(try simp only at e);omega))
     have HX8:=Jh (hxw.setCell (p:=⟨nb,3,none⟩) (.inr rfl) (.slice g8 n8 c8))
     clear hS0 hS7 hS8 hr8 hown8 hx8 hfr8 hxw hnb8 z3 zf zf3 g3 y0 y1 hod
     generalize w8.setCell ⟨nb,3,none⟩ (.slice g8 n8 c8)=w9 at *
     go_wp2_with fail
     go_roundg (L.length - (k+1))
     case measure=>rw[HG.out];omega
     case rel =>
      refine ⟨k+1,⟨g8,n8,c8⟩,rfl,hlt,by go_num,?_,?_,HX8⟩
      ·rw[HST.out,HRP.out];unfold ZI;rw[if_neg HV.out,if_neg HN.out];exact Jh (HN8.out)
      ·rw[HST.out,HRP.out];unfold ZI;rw[if_neg HV.out,if_neg HN.out];exact Jh (HO8.out)
  ·obtain rfl:k=L.length:=by omega
   have hkk:¬ (L.length:Int)<(L.length:Int):=by omega
   rw[List.take_length] at HNB HO
   have HBr:=Jh (Ext.new HB2.out HX.out (fun i hi _ e=>by (try simp only at e);omega) HB2.out.size)
   have HWr:=Jh (HW0.out.below HBr.out)
   have HWBr:=Jh (HWB2.out.ext HX.out (fun e=>by (try simp only at e);omega))
   have HRBr:=Jh (HRB2.out.ext HX.out (fun e=>by (try simp only at e);omega))
   have HXr:=Jh (And.intro (HX.out.keep HX2.out.1 (by show ¬ w.heap.size+1=nb;omega)) (HX.out.keep HX2.out.2 (by show ¬ w.heap.size+1=nb;omega)))
   clear hlt hk HNB2 HW2 HWB2 HRB2 HX2 HB2 HX
   obtain ⟨c0,-,-,-⟩:=HWBr.out.cells
   go_wp2_with fail
   refine (TG _ b.l wr HWr.out.el (by have:=HWr.out.ln;omega)).mono ?_
   rintro e w5 ⟨u5,rfl,hown5,b5⟩
   rcases hown5.eq_slice with ⟨_,e⟩|⟨gb,cs,e5,hg1,hg2⟩
   ·exact absurd e (by obtain ⟨n0,R,e2⟩:=Xq b.l;rw[e2];exact List.cons_ne_nil _ _)
   obtain ⟨N,hN⟩:=Je ((ZY b.l).length)
   rw[hN] at e5
   subst e5
   have hN1:1≤N:=by obtain ⟨n0,R,e2⟩:=Xq b.l;rw[e2,List.length_cons] at hN;omega
   have hN2:N≤1000:=by have:=UP b.l;have:=HWr.out.ln;omega
   have HNN:=Lib.hid hN
   have HO5:=Lib.hid hown5
   have hz5:=b5.size
   have HB5:=Jh (HBr.out.trans (b5.mono HBr.out.size))
   have HNB5:=Jh (HNB.out.ext (Ext.of_below (S:=fun _=>False) b5) (fun f=>f))
   have HAT5:=Jh (HO.out.ext (Ext.of_below (S:=fun _=>False) b5) (fun _ _ f=>f))
   have HWB5:=Jh (HWBr.out.ext (Ext.of_below (S:=fun _=>False) b5) (fun f=>f))
   have HRB5:=Jh (HRBr.out.ext (Ext.of_below (S:=fun _=>False) b5) (fun f=>f))
   have HX5:=Jh (And.intro (Z0 b5 HXr.out.1) (Z0 b5 HXr.out.2))
   have hnw5:nb<w5.heap.size:=by omega
   clear hown5 hN b5 HNB HO HWBr HRBr HXr HBr HWr c0 hkk HOW
   go_wp2_with fail
   go_loopg [11] (N - 1) (fun g iv wx=>∃ (k:Nat) (ts:Sl),g=N - k∧1≤k∧k≤N∧iv=.int .i64 k∧Hid (NdB wx nb u (ZX L).1 sv ts Z2)∧Hid (Hit b.l u k→YJ (fun j=>w5.heap.size≤j) wx (.slice ts.a ts.n ts.cap) (V.txt u))∧Hid (Ext (·=nb) w5 wx))
   case atStart=>exact ⟨1,Z2,rfl,Nat.le_refl _,hN1,rfl,HNB5,Jh (fun ⟨j,x,h1,h2,_⟩=>by omega),Jh (Ext.refl _ _)⟩
   case round =>
    obtain ⟨k,ts,hg,hk1,hk,rfl,HNB,HT,HX⟩:=hrel
    have HG:=Lib.hid hg
    have hwz:=HX.out.size
    clear hg
    have hbr:=HB5.out
    have HBw:=Jh (Ext.new HB5.out HX.out (fun i hi _ e=>by (try simp only at e);omega) HB5.out.size)
    have HWw:=Jh (HW0.out.below HBw.out)
    have HWBw:=Jh (HWB5.out.ext HX.out (fun e=>by (try simp only at e);omega))
    have HXw:=Jh (And.intro (HX.out.keep HX5.out.1 (by show ¬ w.heap.size+1=nb;omega)) (HX.out.keep HX5.out.2 (by show ¬ w.heap.size+1=nb;omega)))
    clear hbr
    obtain ⟨c0,c1,c2x,c3⟩:=HWBw.out.cells
    obtain ⟨x0,x1⟩:=HXw.out
    by_cases hlt:k<N
    ·obtain ⟨x,hx⟩:∃ x,(ZY b.l)[k]?=some x:=⟨_,List.getElem?_eq_getElem (by rw[HNN.out];exact hlt)⟩
     have hkk:(k:Int)<(N:Int):=by omega
     have hk0:(0:Int)≤(k:Int):=by omega
     have hw4:=HO5.out.ext HX.out (fun j hj e=>by have:=(HO5.out.blk j hj).1;(try simp only at e);omega)
     obtain ⟨ba,oa,ca1,e1,hcs⟩:=(hw4.slice (fun _=>rfl)).spcells (by intro e;have:=HNN.out;rw[e,List.length_nil] at this;omega)
     rw[HNN.out] at e1
     cases e1
     obtain ⟨y0,y1,y2,y3⟩:=hcs k x hx
     simp only[Nat.zero_add] at y0 y1 y2 y3
     have HXX:=Lib.hid hx
     obtain ⟨⟨xn,xr⟩,xlo,xhi⟩:=x
     simp only at y0 y1 y2 y3
     clear hx hcs hw4
     by_cases hq:(⟨xn,xr⟩:St)=u
     ·obtain ⟨hq1,hq2⟩:xn=u.n∧xr=u.r:=by rw[←hq];exact ⟨rfl,rfl⟩
      subst hq1
      subst hq2
      clear hq
      go_upto_region 14 with fail
      have hS0:(fun W:World=>W.cell? ⟨gb,k*4,none⟩=some (.int .i64 u.n)∧W.cell? ⟨gb,k*4+1,none⟩=some (.int .i64 u.r)∧W.cell? ⟨w.heap.size+1,0,none⟩=some (.int .i64 u.n)∧W.cell? ⟨w.heap.size+1,1,none⟩=some (.int .i64 u.r)) wr.drew:=⟨y0,y1,x0,x1⟩
      refine Zf (fun W:World=>W.cell? ⟨gb,k*4,none⟩=some (.int .i64 u.n)∧W.cell? ⟨gb,k*4+1,none⟩=some (.int .i64 u.r)∧W.cell? ⟨w.heap.size+1,0,none⟩=some (.int .i64 u.n)∧W.cell? ⟨w.heap.size+1,1,none⟩=some (.int .i64 u.r)) (fun _=>false) (by kernel_rfl) ?_
      refine J4 0 62 _ hS0 ?_
      try simp only[Ja]
      refine J4 1 63 _ hS0 ?_
      try simp only[Ja]
      refine J4 2 64 _ hS0 ?_
      try simp only[Ja]
      refine J4 3 65 _ hS0 ?_
      try simp only[Ja]
      refine J4 4 66 (.agg #[.int .i64 u.n,.int .i64 u.r]) hS0 ?_
      try simp only[Ja]
      refine J4 5 67 (.agg #[.int .i64 u.n,.int .i64 u.r]) hS0 ?_
      try simp only[Ja]
      refine J4 6 68 (.bool true) hS0 ?_
      try simp only[Ja]
      refine Zd (by kernel_rfl) ?_ _
      clear hS0
      go_upto_region 15 with fail
      have HS:Hid (∀ W,Below wr.heap.size wr W→W.cell? ⟨w.heap.size,0,none⟩=some (.slice b.va b.l.length b.ca)∧W.cell? ⟨w.heap.size,3,none⟩=some (.slice b.vb b.ms.length b.cb)∧W.cell? ⟨gb,k*4,none⟩=some (.int .i64 u.n)∧W.cell? ⟨gb,k*4+1,none⟩=some (.int .i64 u.r)∧W.cell? ⟨gb,k*4+2,none⟩=some (.int .i64 xlo)∧W.cell? ⟨gb,k*4+3,none⟩=some (.int .i64 xhi)):=Jh (fun W hW=>⟨Z0 hW c0,Z0 hW c3,Z0 hW y0,Z0 hW y1,Z0 hW y2,Z0 hW y3⟩)
      have hbd:Below wr.heap.size wr wr.drew.drew:=(Below.refl _ _).drew.drew
      have hS0:(fun W:World=>W.cell? ⟨w.heap.size,0,none⟩=some (.slice b.va b.l.length b.ca)∧W.cell? ⟨w.heap.size,3,none⟩=some (.slice b.vb b.ms.length b.cb)∧W.cell? ⟨gb,k*4,none⟩=some (.int .i64 u.n)∧W.cell? ⟨gb,k*4+1,none⟩=some (.int .i64 u.r)∧W.cell? ⟨gb,k*4+2,none⟩=some (.int .i64 xlo)∧W.cell? ⟨gb,k*4+3,none⟩=some (.int .i64 xhi)) wr.drew.drew:=HS.out _ hbd
      refine Zf (fun W:World=>W.cell? ⟨w.heap.size,0,none⟩=some (.slice b.va b.l.length b.ca)∧W.cell? ⟨w.heap.size,3,none⟩=some (.slice b.vb b.ms.length b.cb)∧W.cell? ⟨gb,k*4,none⟩=some (.int .i64 u.n)∧W.cell? ⟨gb,k*4+1,none⟩=some (.int .i64 u.r)∧W.cell? ⟨gb,k*4+2,none⟩=some (.int .i64 xlo)∧W.cell? ⟨gb,k*4+3,none⟩=some (.int .i64 xhi)) (fun i=>i == 10) (by kernel_rfl) ?_
      refine JR 0 69 _ rfl rfl hS0 (fun W hW=>by obtain ⟨q0,q1,q2,q3,q4,q5⟩:=hW;go_simp;try rfl) ?_
      try simp only[Ja]
      refine JR 1 70 (.slice b.va b.l.length b.ca) rfl rfl hS0 (fun W hW=>by obtain ⟨q0,q1,q2,q3,q4,q5⟩:=hW;go_simp;try rfl) ?_
      try simp only[Ja]
      refine JR 2 71 _ rfl rfl hS0 (fun W hW=>by obtain ⟨q0,q1,q2,q3,q4,q5⟩:=hW;go_simp;try rfl) ?_
      try simp only[Ja]
      refine JR 3 72 _ rfl rfl hS0 (fun W hW=>by obtain ⟨q0,q1,q2,q3,q4,q5⟩:=hW;go_simp;try rfl) ?_
      try simp only[Ja]
      refine JR 4 73 _ rfl rfl hS0 (fun W hW=>by obtain ⟨q0,q1,q2,q3,q4,q5⟩:=hW;go_simp;try rfl) ?_
      try simp only[Ja]
      refine JR 5 74 (.agg #[.int .i64 u.n,.int .i64 u.r,.int .i64 xlo,.int .i64 xhi]) rfl rfl hS0 (fun W hW=>by obtain ⟨q0,q1,q2,q3,q4,q5⟩:=hW;go_simp;try rfl) ?_
      try simp only[Ja]
      refine JR 6 75 _ rfl rfl hS0 (fun W hW=>by obtain ⟨q0,q1,q2,q3,q4,q5⟩:=hW;go_simp;try rfl) ?_
      try simp only[Ja]
      refine JR 7 76 (.slice b.vb b.ms.length b.cb) rfl rfl hS0 (fun W hW=>by obtain ⟨q0,q1,q2,q3,q4,q5⟩:=hW;go_simp;try rfl) ?_
      try simp only[Ja]
      refine ZB (i:=8) (d:=some 77) (w':=wr.drew.drew) (by kernel_rfl) rfl rfl (by rfl) (by go_simp;try rfl) ((Tl b.va b.vb b.ca b.cb b.l b.ms u.n u.r xlo xhi wr.drew.drew (HWw.out.below hbd).el (HWw.out.below hbd).op (by have:=HWw.out.ln;omega) (by have:=HWw.out.ln;omega)).mono ?_)
      rintro e w6 ⟨q,rfl,hq,b6⟩
      obtain ⟨qs,rfl⟩:=hq.out.sl
      have hb6:Below wr.heap.size wr w6:=hbd.trans b6
      have hz6:=hb6.size
      have hnb6:=HNB.out.ext (Ext.of_below (S:=fun _=>False) hb6) (fun f=>f)
      obtain ⟨-,-,-,-,z4,-,zf⟩:=hnb6.cells
      have zf4:=zf 4
      clear zf
      refine ⟨_,rfl,fun _=>HS.out _ hb6,?_⟩
      try simp only[Ja]
      refine Xi (i:=9) (d:=some 78) rfl rfl rfl (by kernel_rfl) (by kernel_rfl) (by kernel_rfl) (by kernel_rfl) (fun _ _ _ h=>h) (.inl ⟨by rfl,fun W hW=>by obtain ⟨q0,q1,q2,q3,q4,q5⟩:=hW;go_simp;try rfl⟩) (HS.out _ hb6) ?_
      try simp only[Ja]
      refine Zh (i:=10) (d:=none) (w':=w6.setCell ⟨nb,4,none⟩ (.slice qs.a qs.n qs.cap)) (by kernel_rfl) rfl rfl (by rfl) (by go_simp;try rfl) (fun h=>by cases h) ?_
      try simp only[Ja]
      refine Zd (by kernel_rfl) ?_ _
      have hxd:Ext (·=nb) w6 (w6.setCell ⟨nb,4,none⟩ (.slice qs.a qs.n qs.cap)):=(Ext.refl (·=nb) w6).setCell (p:=⟨nb,4,none⟩) (.inr rfl) _
      have htx:V.txt u=Yb b.l b.ms xlo xhi:=HW0.out.tx u _ (Z1a HW0.out.ul hk1 HXX.out)
      have hqd:=hq.out.toD
      rw[←htx] at hqd
      have HTn:Hid (Hit b.l u (k+1)→YJ (fun j=>w5.heap.size≤j) (w6.setCell ⟨nb,4,none⟩ (.slice qs.a qs.n qs.cap)) (.slice qs.a qs.n qs.cap) (V.txt u)):=Jh (fun _=>(hqd.ext hxd (fun j hj _ e=>by have:wr.drew.drew.heap.size=wr.heap.size:=rfl;(try simp only at e);omega)).mono (fun j hj=>by have:wr.drew.drew.heap.size=wr.heap.size:=rfl;omega))
      have HNn:=Jh (hnb6.setText qs)
      have HXn:=Jh ((HX.out.trans (Ext.of_below hb6)).trans hxd)
      clear hS0 HS z4 zf4 hnb6 hxd hqd hq b6 hb6 HT HNB HX x0 x1 y0 y1 y2 y3 c0 c1 c2x c3 HXw HWBw HWw HBw hbd htx
      generalize w6.setCell ⟨nb,4,none⟩ (.slice qs.a qs.n qs.cap)=w7 at *
      go_wp2_with fail
      go_roundg (N - (k+1))
      case measure=>rw[HG.out];omega
      case rel=>exact ⟨k+1,qs,rfl,by omega,hlt,by go_num,HNn,HTn,HXn⟩
     ·have HQ:=Lib.hid hq
      by_cases hq1:xn=u.n
      ·have hq2:¬ xr=u.r:=fun e=>hq (by rw[hq1,e])
       subst hq1
       clear hq
       go_upto_region 14 with fail
       have hS0:(fun W:World=>W.cell? ⟨gb,k*4,none⟩=some (.int .i64 u.n)∧W.cell? ⟨gb,k*4+1,none⟩=some (.int .i64 xr)∧W.cell? ⟨w.heap.size+1,0,none⟩=some (.int .i64 u.n)∧W.cell? ⟨w.heap.size+1,1,none⟩=some (.int .i64 u.r)) wr.drew:=⟨y0,y1,x0,x1⟩
       refine Zf (fun W:World=>W.cell? ⟨gb,k*4,none⟩=some (.int .i64 u.n)∧W.cell? ⟨gb,k*4+1,none⟩=some (.int .i64 xr)∧W.cell? ⟨w.heap.size+1,0,none⟩=some (.int .i64 u.n)∧W.cell? ⟨w.heap.size+1,1,none⟩=some (.int .i64 u.r)) (fun _=>false) (by kernel_rfl) ?_
       refine J4 0 62 _ hS0 ?_
       try simp only[Ja]
       refine J4 1 63 _ hS0 ?_
       try simp only[Ja]
       refine J4 2 64 _ hS0 ?_
       try simp only[Ja]
       refine J4 3 65 _ hS0 ?_
       try simp only[Ja]
       refine J4 4 66 (.agg #[.int .i64 u.n,.int .i64 xr]) hS0 ?_
       try simp only[Ja]
       refine J4 5 67 (.agg #[.int .i64 u.n,.int .i64 u.r]) hS0 ?_
       try simp only[Ja]
       refine J4 6 68 (.bool false) hS0 ?_
       try simp only[Ja]
       refine Zd (by kernel_rfl) ?_ _
       clear hS0
       have HTn:Hid (Hit b.l u (k+1)→YJ (fun j=>w5.heap.size≤j) wr.drew (.slice ts.a ts.n ts.cap) (V.txt u)):=Jh (fun h=>(HT.out (QL HXX.out HQ.out h)).ext (Ext.refl (fun _=>False) wr).drew (fun _ _ _ f=>f))
       have HNn:Hid (NdB wr.drew nb u (ZX L).1 sv ts Z2):=Lib.hid HNB.out
       have HXn:=Lib.hid HX.out.drew
       clear HT HNB HX x0 x1 y0 y1 y2 y3 c0 c1 c2x c3 HXw HWBw HWw HBw
       go_wp2_with fail
       go_roundg (N - (k+1))
       case measure=>rw[HG.out];omega
       case rel=>exact ⟨k+1,ts,rfl,by omega,hlt,by go_num,HNn,HTn,HXn⟩
      ·clear hq
       go_upto_region 14 with fail
       have hS0:(fun W:World=>W.cell? ⟨gb,k*4,none⟩=some (.int .i64 xn)∧W.cell? ⟨gb,k*4+1,none⟩=some (.int .i64 xr)∧W.cell? ⟨w.heap.size+1,0,none⟩=some (.int .i64 u.n)∧W.cell? ⟨w.heap.size+1,1,none⟩=some (.int .i64 u.r)) wr.drew:=⟨y0,y1,x0,x1⟩
       refine Zf (fun W:World=>W.cell? ⟨gb,k*4,none⟩=some (.int .i64 xn)∧W.cell? ⟨gb,k*4+1,none⟩=some (.int .i64 xr)∧W.cell? ⟨w.heap.size+1,0,none⟩=some (.int .i64 u.n)∧W.cell? ⟨w.heap.size+1,1,none⟩=some (.int .i64 u.r)) (fun _=>false) (by kernel_rfl) ?_
       refine J4 0 62 _ hS0 ?_
       try simp only[Ja]
       refine J4 1 63 _ hS0 ?_
       try simp only[Ja]
       refine J4 2 64 _ hS0 ?_
       try simp only[Ja]
       refine J4 3 65 _ hS0 ?_
       try simp only[Ja]
       refine J4 4 66 (.agg #[.int .i64 xn,.int .i64 xr]) hS0 ?_
       try simp only[Ja]
       refine J4 5 67 (.agg #[.int .i64 u.n,.int .i64 u.r]) hS0 ?_
       try simp only[Ja]
       refine J4 6 68 (.bool false) hS0 ?_
       try simp only[Ja]
       refine Zd (by kernel_rfl) ?_ _
       clear hS0
       have HTn:Hid (Hit b.l u (k+1)→YJ (fun j=>w5.heap.size≤j) wr.drew (.slice ts.a ts.n ts.cap) (V.txt u)):=Jh (fun h=>(HT.out (QL HXX.out HQ.out h)).ext (Ext.refl (fun _=>False) wr).drew (fun _ _ _ f=>f))
       have HNn:Hid (NdB wr.drew nb u (ZX L).1 sv ts Z2):=Lib.hid HNB.out
       have HXn:=Lib.hid HX.out.drew
       clear HT HNB HX x0 x1 y0 y1 y2 y3 c0 c1 c2x c3 HXw HWBw HWw HBw
       go_wp2_with fail
       go_roundg (N - (k+1))
       case measure=>rw[HG.out];omega
       case rel=>exact ⟨k+1,ts,rfl,by omega,hlt,by go_num,HNn,HTn,HXn⟩
    ·obtain rfl:k=N:=by omega
     have hkk:¬ (k:Int)<(k:Int):=by omega
     have hhit:=Z3d HSP.out
     rw[HNN.out] at hhit
     have HTX:=Jh (HT.out hhit)
     clear hhit hlt HT
     obtain ⟨g0,g1,g2,g3,g4,g5,gf⟩:=HNB.out.cells
     skip
     go_wp2_with fail
     refine (HR.out u wr HWw.out).mono ?_
     rintro e w6 ⟨kv,us,rfl,hown6,hn6,b6⟩
     obtain ⟨ks,rfl⟩:=hown6.sl20
     have hb6:Below wr.heap.size wr w6:=b6
     have hz6:=hb6.size
     have hnb6:=HNB.out.ext (Ext.of_below (S:=fun _=>False) hb6) (fun f=>f)
     obtain ⟨-,-,-,-,-,z5,zf⟩:=hnb6.cells
     have zf5:=zf 5
     clear zf
     simp only[Z2] at z5
     go_upto_region 17 with fail
     have hxd:Ext (·=nb) w6 (w6.setCell ⟨nb,5,none⟩ (.slice ks.a ks.n ks.cap)):=(Ext.refl (·=nb) w6).setCell (p:=⟨nb,5,none⟩) (.inr rfl) _
     have hxr:Ext (·=nb) w5 (w6.setCell ⟨nb,5,none⟩ (.slice ks.a ks.n ks.cap)):=(HX.out.trans (Ext.of_below hb6)).trans hxd
     have HNn:=Jh (hnb6.setKids ks)
     have HTn:=Jh ((HTX.out.ext (Ext.of_below (S:=fun _=>False) hb6) (fun _ _ _ f=>f)).ext hxd (fun j hj _ e=>by (try simp only at e);omega))
     have HAn:=Jh (HAT5.out.ext hxr (fun j hj e=>by have:=(HAT5.out.blk j hj).1;(try simp only at e);omega))
     have hk6:=hown6.sliceD NdV.len
     have HKn:=Jh ((hk6.mono (D':=fun j=>wr.heap.size≤j) (fun j hj=>(hown6.blk j hj).1)).ext hxd (fun j hj _ e=>by (try simp only at e);omega) (fun _=>Nat.zero_lt_succ 5))
     have HSn:=Jh ((hn6.mono (D':=fun j=>wr.heap.size≤j) (fun j hj=>hj.1)).ext hxd (fun j hj _ e=>by (try simp only at e);omega))
     have hrn:=HRB5.out.ext hxr (fun e=>by (try simp only at e);omega)
     have HRn:=Lib.hid hrn
     have HBn:=Jh (Ext.new HB5.out hxr (fun i hi _ e=>by (try simp only at e);omega) HB5.out.size)
     have hsz7:=hxr.size
     clear z5 zf5 hnb6 hxd hxr hk6 hown6 hn6 b6 hb6 HNB HX x0 x1 c0 c1 c2x c3 g0 g1 g2 g3 g4 g5 gf HXw HWBw HWw HBw hrn
     generalize w6.setCell ⟨nb,5,none⟩ (.slice ks.a ks.n ks.cap)=w7 at *
     obtain ⟨g0,g1,g2,g3,g4,g5,-⟩:=HNn.out.cells
     obtain ⟨r0,r1,r2,r3,r4,r5,rf⟩:=HRn.out.cells
     have rf0:=rf 0
     have rf1:=rf 1
     have rf2:=rf 2
     have rf3:=rf 3
     have rf4:=rf 4
     have rf5:=rf 5
     unfold Z2 at r3 r4 r5
     simp only at r0 r1 r2 r3 r4 r5
     clear rf
     go_wp2_with fail
     (try simp only[Exit.inBlock,Exit.then])
     refine bodyPost_ret (v:=.agg #[.int .i64 u.n,.int .i64 u.r,.string (ZX L).1,.slice sv.a sv.n sv.cap,.slice ts.a ts.n ts.cap,.slice ks.a ks.n ks.cap]) (by rw[X7 rfl];go_simp) rfl ?_
     have hfx:Ext (·=w.heap.size+2) w7 ((((((w7.setCell ⟨w.heap.size+2,0,none⟩ (.int .i64 u.n)).setCell ⟨w.heap.size+2,1,none⟩ (.int .i64 u.r)).setCell ⟨w.heap.size+2,2,none⟩ (.string (ZX L).1)).setCell ⟨w.heap.size+2,3,none⟩ (.slice sv.a sv.n sv.cap)).setCell ⟨w.heap.size+2,4,none⟩ (.slice ts.a ts.n ts.cap)).setCell ⟨w.heap.size+2,5,none⟩ (.slice ks.a ks.n ks.cap)) :=
      ((((((Ext.refl (·=w.heap.size+2) w7).setCell (p:=⟨w.heap.size+2,0,none⟩) (.inr rfl) _).setCell (p:=⟨w.heap.size+2,1,none⟩) (.inr rfl) _).setCell (p:=⟨w.heap.size+2,2,none⟩) (.inr rfl) _).setCell (p:=⟨w.heap.size+2,3,none⟩) (.inr rfl) _).setCell (p:=⟨w.heap.size+2,4,none⟩) (.inr rfl) _).setCell (p:=⟨w.heap.size+2,5,none⟩) (.inr rfl) _
     have hb5s:=HB5.out.size
     have ho2:=HAn.out.ext hfx (fun j hj e=>by have:=(HAn.out.blk j hj).1;(try simp only at e);omega)
     refine ⟨⟨u,(ZX L).1,sv,ts,ks⟩,rfl,?_,Ext.new HBn.out hfx (fun i hi _ e=>by (try simp only at e);omega) HBn.out.size⟩
     unfold Vw.nd
     rw[HLL.out]
     refine Zv.make rfl rfl ((ho2.sliceD (fun _=>rfl)).mono (fun j hj=>by have:=(ho2.blk j hj).1;omega)) ?_ (vs:=us) ?_ ?_
     ·exact (HTn.out.ext hfx (fun j hj _ e=>by (try simp only at e);omega)).mono (fun j hj=>by omega)
     ·exact (HKn.out.ext hfx (fun j hj _ e=>by (try simp only at e);omega) (fun _=>Nat.zero_lt_succ 5)).mono (fun j hj=>by omega)
     ·exact (HSn.out.ext hfx (fun j hj _ e=>by (try simp only at e);omega)).mono (fun j hj=>by omega)
theorem Z24 (V:Vw) (b:Rw):UD V b 0:=by
 intro u w hB
 have hB0:Below w.heap.size w ((w.alloc (.cells #[.slice b.va b.l.length b.ca,.slice b.vk b.D.length b.ck,.pointer (some ⟨b.gp,0,none⟩),.slice b.vb b.ms.length b.cb] 121)).alloc (.cells #[.int .i64 u.n,.int .i64 u.r] 23)):=((Below.refl _ _).alloc (Nat.le_refl _) _).alloc (by simp) _
 have HB0:=Lib.hid hB0
 have HW1:=Jh (hB.below hB0)
 unfold Rw.val
 clear hB hB0
 go_enter Tryz.func56,Tryz.ntmps56
 go_upto_region 2 with fail
 have x0:((w.alloc (.cells #[.slice b.va b.l.length b.ca,.slice b.vk b.D.length b.ck,.pointer (some ⟨b.gp,0,none⟩),.slice b.vb b.ms.length b.cb] 121)).alloc (.cells #[.int .i64 u.n,.int .i64 u.r] 23)).cell? ⟨w.heap.size+1,0,none⟩=some (.int .i64 u.n):=by go_simp
 have x1:((w.alloc (.cells #[.slice b.va b.l.length b.ca,.slice b.vk b.D.length b.ck,.pointer (some ⟨b.gp,0,none⟩),.slice b.vb b.ms.length b.cb] 121)).alloc (.cells #[.int .i64 u.n,.int .i64 u.r] 23)).cell? ⟨w.heap.size+1,1,none⟩=some (.int .i64 u.r):=by go_simp
 have x2:((w.alloc (.cells #[.slice b.va b.l.length b.ca,.slice b.vk b.D.length b.ck,.pointer (some ⟨b.gp,0,none⟩),.slice b.vb b.ms.length b.cb] 121)).alloc (.cells #[.int .i64 u.n,.int .i64 u.r] 23)).cell? ⟨w.heap.size,1,none⟩=some (.slice b.vk b.D.length b.ck):=by go_simp
 generalize (w.alloc (.cells #[.slice b.va b.l.length b.ca,.slice b.vk b.D.length b.ck,.pointer (some ⟨b.gp,0,none⟩),.slice b.vb b.ms.length b.cb] 121)).alloc (.cells #[.int .i64 u.n,.int .i64 u.r] 23)=w1 at *
 go_wp2_with fail
 refine (TE _ b.D u.n u.r w1 HW1.out.al (by have:=HW1.out.ln;omega) HW1.out.ao).mono ?_
 rintro e w2 ⟨v2,K,rfl,hown2,hk,b2⟩
 obtain ⟨a2,c2,e2,hc2,hm2,-⟩:=hown2.slice (fun _=>rfl)
 rw[List.length_map] at e2
 subst e2
 have HF:Hid (Vq V 0 u w (.returned (.slice none 0 0)) w2):=Lib.hid ⟨_,[],rfl,Own.nil,Zc.nil,HB0.out.trans (b2.mono HB0.out.size)⟩
 clear hown2 hk b2 x0 x1 x2
 go_wp2_with fail
 go_loopg [7,9] 0 (fun g ov iv wx=>g=0∧ov=.slice none 0 0∧iv=.int .i64 0∧wx=w2)
 case atStart=>exact ⟨rfl,rfl,rfl,rfl⟩
 case round =>
  obtain ⟨hg,rfl,rfl,rfl⟩:=hrel
  by_cases hK:(0:Int)<(K.length:Int)
  ·go_wp2_with fail
   go_ret
   exact HF.out
  ·go_wp2_with fail
   go_ret
   exact HF.out
theorem U8 (V:Vw) (b:Rw):∀ n,n≤100001→UD V b n
 | 0,_=>Z24 V b
 | n+1,h=>Z1Y V b n (by omega) (U8 V b n (by omega)) (QX V b n (U8 V b n (by omega)))
end Go.Proofs.YtlgipkemoldckaaGreatDoor
