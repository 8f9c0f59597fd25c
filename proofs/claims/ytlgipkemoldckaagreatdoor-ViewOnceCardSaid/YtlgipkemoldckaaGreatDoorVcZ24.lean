/- VAll20, part 24 of what the proof leans on (made short by a program). -/
import Derived.Test.YtlgipkemoldckaaGreatDoorVcZ23
set_option linter.unusedSimpArgs false
set_option linter.unusedVariables false
set_option linter.unusedSectionVars false
set_option maxRecDepth 20000
set_option maxHeartbeats 30000000
namespace Go.Proofs.YtlgipkemoldckaaGreatDoor
open Go.RowKit
theorem Z46 {i:St} {k:ByteArray} {az:List Atr} {t:Pcs} {ks:List Nd} {m:Nd} (hm:m∈ks) {s:St} (hs:s∈m.ids):s∈(Nd.mk i k az t ks).ids:=by
 rw[Nd.ids]
 refine List.mem_append_right _ ?_
 induction ks with
 | nil=>cases hm
 | cons q ks ih =>
  rw[ZS]
  rcases List.mem_cons.1 hm with rfl|hm
  ·exact List.mem_append_left _ hs
  ·exact List.mem_append_right _ (ih hm)
theorem Z3F {m:Nd} (h:m.id≠⟨0,0⟩):m.id∈m.ids:=by
 obtain ⟨i,k,az,t,ks⟩:=m
 rw[Nd.ids]
 refine List.mem_append_left _ ?_
 rw[if_neg (show ¬ i=⟨0,0⟩ from h)]
 exact List.mem_singleton_self _
theorem QZ {h:Zf} {live:St→Bool} {s t:St} (hn:X3 h live s t) (h0:h s=none):t=⟨0,0⟩:=by
 cases hn with
 | off=>rfl
 | stop h1=>rw[h0] at h1;cases h1
 | up h1=>rw[h0] at h1;cases h1
theorem TB {h:Zf} {live:St→Bool} {s t:St} {c:Ch} (hn:X3 h live s t) (h0:h s=some c) (hl:live c.under=true∨c.under=⟨0,0⟩):t=c.under:=by
 cases hn with
 | off h1=>rw[h0] at h1;cases h1
 | stop h1=>rw[h0] at h1;cases h1;rfl
 | up h1 h2 h3=>rw[h0] at h1;cases h1;rcases hl with hl|hl;rw[h2] at hl;cases hl;exact absurd hl h3
theorem Z2V {h:Zf} {live:St→Bool} {s t:St} {c:Ch} (hn:X3 h live s t) (h0:h s=some c) (hl:live c.under=false) (hz:c.under≠⟨0,0⟩):X3 h live c.under t:=by
 cases hn with
 | off h1=>rw[h0] at h1;cases h1
 | stop h1 h2=>rw[h0] at h1;cases h1;rcases h2 with h2|h2;rw[hl] at h2;cases h2;exact absurd h2 hz
 | up h1 h2 h3 h4=>rw[h0] at h1;cases h1;exact h4
structure SO (h:Zf) (l:List El) (A:List Ch) (a0 ax:Option Addr) (n0 c0 cx:Nat) (w:World):Prop where
 el:Z4 El.cells 4 w (.slice a0 n0 c0) l
 ch:Z4 Ch.cells 5 w (.slice ax A.length cx) A
 all:Zh h A
 keyed:ZO h
 acyc:Xf h
 len:A.length≤1000
 pos:∀ c∈A,c.under=⟨0,0⟩∨c.under.n≠0
theorem SO.below {h:Zf} {l:List El} {A:List Ch} {a0 ax:Option Addr} {n0 c0 cx:Nat} {w w':World} (u:SO h l A a0 ax n0 c0 cx w) (hb:Below w.heap.size w w'):SO h l A a0 ax n0 c0 cx w':=⟨u.el.below hb,u.ch.below hb,u.all,u.keyed,u.acyc,u.len,u.pos⟩
def Z3V (h:Zf) (l:List El) (A:List Ch) (a0 ax:Option Addr) (n0 c0 cx:Nat) (n:Nd):Prop:=∀ (top:St) (D:Nat→Prop) (x:NdV) (w:World),Zo D w x n→SO h l A a0 ax n0 c0 cx w→XQ h (Y4 l) top n→(∀ s∈n.ids,s.n≠0) →
 Calls Tryz.prog 21 #[x.val,.agg #[.int .i64 top.n,.int .i64 top.r],.slice a0 n0 c0,.slice ax A.length cx] w fun e w'=>e=.returned (.bool true)∧Below w.heap.size w w'
theorem Z1c (h:Zf) (l:List El) (A:List Ch) (a0 ax:Option Addr) (n0 c0 cx:Nat) (pn pr:Int) (D:Nat→Prop) (xn xr:Int) (xk:ByteArray) (aa ta sa:Option Addr) (an ac tn tc sn sc:Nat) (vs:List NdV) (ks:List Nd) (w:World)
  (hs:Zw D NdV.cells 6 w (.slice sa sn sc) vs) (hn:Zb D w vs ks) (hu:SO h l A a0 ax n0 c0 cx w) (hun:∀ m∈ks,m.id≠⟨0,0⟩→X3 h (Y4 l) m.id ⟨pn,pr⟩∧XQ h (Y4 l) m.id m) (hpos:∀ m∈ks,∀ s∈m.ids,s.n≠0) (ih:∀ n∈ks,Z3V h l A a0 ax n0 c0 cx n) :
  Calls Tryz.prog 21 #[.agg #[.int .i64 xn,.int .i64 xr,.string xk,.slice aa an ac,.slice ta tn tc,.slice sa sn sc],.agg #[.int .i64 pn,.int .i64 pr],.slice a0 n0 c0,.slice ax A.length cx] w fun e w'=>e=.returned (.bool true)∧Below w.heap.size w w':=by
 have hsn:sn=vs.length∧vs.length≤9223372036854775807:=by
  obtain ⟨⟨a,c,e,h1,h2,_⟩,_⟩:=hs
  injection e with _ e2 _
  unfold maxLen at h2
  exact ⟨e2,Nat.le_trans h1 h2⟩
 have hsnn:sn≤9223372036854775807:=by omega
 have hB0:Below w.heap.size w ((w.alloc (.cells #[.int .i64 xn,.int .i64 xr,.string xk,.slice aa an ac,.slice ta tn tc,.slice sa sn sc] 28)).alloc (.cells #[.int .i64 pn,.int .i64 pr] 23)):=((Below.refl _ _).alloc (Nat.le_refl _) _).alloc (by simp) _
 have hz1:((w.alloc (.cells #[.int .i64 xn,.int .i64 xr,.string xk,.slice aa an ac,.slice ta tn tc,.slice sa sn sc] 28)).alloc (.cells #[.int .i64 pn,.int .i64 pr] 23)).heap.size=w.heap.size+2:=by simp
 have x5:((w.alloc (.cells #[.int .i64 xn,.int .i64 xr,.string xk,.slice aa an ac,.slice ta tn tc,.slice sa sn sc] 28)).alloc (.cells #[.int .i64 pn,.int .i64 pr] 23)).cell? ⟨w.heap.size,5,none⟩=some (.slice sa sn sc):=by go_simp
 have y0:((w.alloc (.cells #[.int .i64 xn,.int .i64 xr,.string xk,.slice aa an ac,.slice ta tn tc,.slice sa sn sc] 28)).alloc (.cells #[.int .i64 pn,.int .i64 pr] 23)).cell? ⟨w.heap.size+1,0,none⟩=some (.int .i64 pn):=by go_simp
 have y1:((w.alloc (.cells #[.int .i64 xn,.int .i64 xr,.string xk,.slice aa an ac,.slice ta tn tc,.slice sa sn sc] 28)).alloc (.cells #[.int .i64 pn,.int .i64 pr] 23)).cell? ⟨w.heap.size+1,1,none⟩=some (.int .i64 pr):=by go_simp
 have HZ1:=Jh (And.intro hz1 hsn)
 have HB0:=Lib.hid hB0
 have HI:=Jh (And.intro hs hn)
 have HU:=Lib.hid hu
 have HUN:=Lib.hid hun
 have HPS:=Lib.hid hpos
 have HIH:=Lib.hid ih
 have hal:A.length≤1000:=hu.len
 clear hz1 hsn hB0 hs hn hu hun hpos ih
 go_enter Tryz.func21,Tryz.ntmps21
 go_upto_region 1 with fail
 generalize ((w.alloc (.cells #[.int .i64 xn,.int .i64 xr,.string xk,.slice aa an ac,.slice ta tn tc,.slice sa sn sc] 28)).alloc (.cells #[.int .i64 pn,.int .i64 pr] 23))=w1 at *
 go_wp2_with fail
 go_loopg [9] sn (fun g iv wr=>∃ k:Nat,g=sn - k∧k≤sn∧iv=.int .i64 k∧Hid (Below w1.heap.size w1 wr))
 case atStart=>exact ⟨0,by omega,Nat.zero_le _,rfl,Jh (Below.refl _ _)⟩
 case round =>
  obtain ⟨k,hg,hk,rfl,HB⟩:=hrel
  have HG:=Lib.hid hg
  clear hg
  replace x5:=Z0 HB.out x5
  have y00:=y0
  have y10:=y1
  replace y0:=Z0 HB.out y0
  replace y1:=Z0 HB.out y1
  have HBW:=Jh (HB0.out.trans (HB.out.mono HB0.out.size))
  by_cases hkl:k<sn
  ·obtain ⟨⟨⟨zn,zr⟩,zk,⟨b1,b2,b3⟩,⟨b4,b5,b6⟩,⟨d1,d2,d3⟩⟩,hx⟩:∃ x,vs[k]?=some x:=⟨_,List.getElem?_eq_getElem (by have:=HZ1.out;omega)⟩
   obtain ⟨m,hm⟩:∃ x,ks[k]?=some x:=⟨_,List.getElem?_eq_getElem (by have:=HZ1.out;have:=HI.out.2.1;omega)⟩
   obtain ⟨q,o,c7,e5,u0,u1,u2,u3,u4,u5⟩:=(HI.out.1.below HBW.out (fun _=>Nat.zero_lt_succ 5)).node6 hx
   injection e5 with e5 e6 e7
   clear e6 e7
   subst e5
   simp only at u0 u1 u2 u3 u4 u5
   have hnd:=(HI.out.2.2 k _ m hx hm).belowW HBW.out
   have hid:(⟨zn,zr⟩:St)=m.id:=hnd.parts.1
   have hkk:(k:Int)<(sn:Int):=by omega
   have hmk:=List.mem_of_getElem? hm
   have HND:=Lib.hid hnd
   have HND0:Hid (∀ W,Below w.heap.size w W→Zo D W ⟨⟨zn,zr⟩,zk,⟨b1,b2,b3⟩,⟨b4,b5,b6⟩,⟨d1,d2,d3⟩⟩ m):=Jh (fun W hW=>(HI.out.2.2 k _ m hx hm).belowW hW)
   have HID:=Lib.hid hid
   have HMK:=Lib.hid hmk
   have HB9:Hid (Below w1.heap.size w1 (wr.alloc (.cells #[.int .i64 zn,.int .i64 zr,.string zk,.slice b1 b2 b3,.slice b4 b5 b6,.slice d1 d2 d3] 28))):=Jh (HB.out.alloc HB.out.size _)
   clear hnd hid hx hm hmk
   have z0:(wr.alloc (.cells #[.int .i64 zn,.int .i64 zr,.string zk,.slice b1 b2 b3,.slice b4 b5 b6,.slice d1 d2 d3] 28)).cell? ⟨wr.heap.size,0,none⟩=some (.int .i64 zn):=by go_simp
   have z1:(wr.alloc (.cells #[.int .i64 zn,.int .i64 zr,.string zk,.slice b1 b2 b3,.slice b4 b5 b6,.slice d1 d2 d3] 28)).cell? ⟨wr.heap.size,1,none⟩=some (.int .i64 zr):=by go_simp
   have z2:(wr.alloc (.cells #[.int .i64 zn,.int .i64 zr,.string zk,.slice b1 b2 b3,.slice b4 b5 b6,.slice d1 d2 d3] 28)).cell? ⟨wr.heap.size,2,none⟩=some (.string zk):=by go_simp
   have z3:(wr.alloc (.cells #[.int .i64 zn,.int .i64 zr,.string zk,.slice b1 b2 b3,.slice b4 b5 b6,.slice d1 d2 d3] 28)).cell? ⟨wr.heap.size,3,none⟩=some (.slice b1 b2 b3):=by go_simp
   have z4:(wr.alloc (.cells #[.int .i64 zn,.int .i64 zr,.string zk,.slice b1 b2 b3,.slice b4 b5 b6,.slice d1 d2 d3] 28)).cell? ⟨wr.heap.size,4,none⟩=some (.slice b4 b5 b6):=by go_simp
   have z5:(wr.alloc (.cells #[.int .i64 zn,.int .i64 zr,.string zk,.slice b1 b2 b3,.slice b4 b5 b6,.slice d1 d2 d3] 28)).cell? ⟨wr.heap.size,5,none⟩=some (.slice d1 d2 d3):=by go_simp
   by_cases hz:zn=0∧zr=0
   ·obtain ⟨rfl,rfl⟩:=hz
    go_upto_region 5 with fail
    generalize wr.alloc (.cells #[.int .i64 0,.int .i64 0,.string zk,.slice b1 b2 b3,.slice b4 b5 b6,.slice d1 d2 d3] 28)=w9 at *
    go_wp2_with fail
    go_roundg (sn - (k+1))
    case measure=>rw[HG.out];omega
    case rel=>exact ⟨k+1,rfl,hkl,by go_num,HB9⟩
   ·have hm0:m.id≠⟨0,0⟩:=fun e=>hz (by rw[←HID.out] at e;exact ⟨congrArg St.n e,congrArg St.r e⟩)
    have hzn:¬ zn=0:=by have:=HPS.out m HMK.out m.id (Z3F hm0);rw[←HID.out] at this;exact this
    have HNE:=Jh (HUN.out m HMK.out hm0)
    clear hm0 hz
    have HHE:Hid (∃ mm,mm≤A.length∧ZJ h mm ⟨zn,zr⟩):=Jh (by obtain ⟨mm,h1,h2⟩:=Un HU.out.keyed HU.out.acyc HU.out.all ⟨zn,zr⟩;exact ⟨mm,h2,h1⟩)
    have hub:((wr.alloc (.cells #[.int .i64 zn,.int .i64 zr,.string zk,.slice b1 b2 b3,.slice b4 b5 b6,.slice d1 d2 d3] 28)).alloc (.cells #[.int .i64 zn,.int .i64 zr] 23)).heap[wr.heap.size+1]?=some (.cells #[.int .i64 zn,.int .i64 zr] 23):=by have:=World.alloc_heap_new (wr.alloc (.cells #[.int .i64 zn,.int .i64 zr,.string zk,.slice b1 b2 b3,.slice b4 b5 b6,.slice d1 d2 d3] 28)) (.cells #[.int .i64 zn,.int .i64 zr] 23);rwa [World.size_alloc] at this
    have HUB:=Lib.hid hub
    have HB10:Hid (Below w1.heap.size w1 ((wr.alloc (.cells #[.int .i64 zn,.int .i64 zr,.string zk,.slice b1 b2 b3,.slice b4 b5 b6,.slice d1 d2 d3] 28)).alloc (.cells #[.int .i64 zn,.int .i64 zr] 23))):=Jh (HB9.out.alloc HB9.out.size _)
    have hz10:((wr.alloc (.cells #[.int .i64 zn,.int .i64 zr,.string zk,.slice b1 b2 b3,.slice b4 b5 b6,.slice d1 d2 d3] 28)).alloc (.cells #[.int .i64 zn,.int .i64 zr] 23)).heap.size=wr.heap.size+2:=by simp
    have HZ10:=Lib.hid hz10
    clear hub hz10
    replace z0:=Z1 z0 (.cells #[.int .i64 zn,.int .i64 zr] 23)
    replace z1:=Z1 z1 (.cells #[.int .i64 zn,.int .i64 zr] 23)
    replace z2:=Z1 z2 (.cells #[.int .i64 zn,.int .i64 zr] 23)
    replace z3:=Z1 z3 (.cells #[.int .i64 zn,.int .i64 zr] 23)
    replace z4:=Z1 z4 (.cells #[.int .i64 zn,.int .i64 zr] 23)
    replace z5:=Z1 z5 (.cells #[.int .i64 zn,.int .i64 zr] 23)
    go_upto_region 7 with fail
    generalize (wr.alloc (.cells #[.int .i64 zn,.int .i64 zr,.string zk,.slice b1 b2 b3,.slice b4 b5 b6,.slice d1 d2 d3] 28)).alloc (.cells #[.int .i64 zn,.int .i64 zr] 23)=w9 at *
    obtain ⟨wo,hwo⟩:∃ wo,wo=wr:=⟨_,rfl⟩
    subst hwo
    go_upto_block 2 with fail
    go_cut [12,13,14] from 16 to 72 (fun _ _ _ wx=>wx.cell? ⟨wo.heap.size+1,0,none⟩=some (.int .i64 pn)∧wx.cell? ⟨wo.heap.size+1,1,none⟩=some (.int .i64 pr)∧Hid (Ext (fun b=>b=wo.heap.size+1) w9 wx))
    case first =>
     clear HIH x5 y0 y1 z0 z1 z2 z3 z4 z5 u0 u1 u2 u3 u4 u5
     go_wp2_with fail
     go_loopg [12] (A.length+1) (fun g jv wr=>∃ (j:Nat) (u:St) (mm:Nat),g=A.length+1 - j∧jv=.int .i64 j∧j+mm≤A.length∧Hid (ZJ h mm u)∧Hid (X3 h (Y4 l) u ⟨pn,pr⟩)∧Hid (wr.heap[wo.heap.size+1]?=some (.cells #[.int .i64 u.n,.int .i64 u.r] 23 (0,0)))∧Hid (Ext (fun b=>b=wo.heap.size+1) w9 wr))
     case atStart =>
      obtain ⟨mm,h1,h2⟩:=HHE.out
      exact ⟨0,⟨zn,zr⟩,mm,rfl,rfl,by omega,Lib.hid h2,Jh (by rw[HID.out];exact HNE.out.1),HUB,Jh (Ext.refl _ _)⟩
     case round =>
      obtain ⟨j,⟨un,ur⟩,mm,hg2,rfl,hjm,HEN,HNT,HCU,HXU⟩:=hrel
      have HG2:=Lib.hid hg2
      clear hg2
      obtain ⟨g0,g1,f0,f1⟩:=WJ HCU.out
      try simp only at g0 g1
      have hjl:(j:Int)≤(A.length:Int):=by omega
      have hjl2:¬ ((A.length:Int)<(j:Int)):=by omega
      have HWR:Hid (Below w.heap.size w wr):=Jh (Ext.new (HB0.out.trans (HB10.out.mono HB0.out.size)) HXU.out (fun i hi _ e=>by have:=HBW.out.size;omega) (by have:=HBW.out.size;have:=HZ10.out;omega))
      have HFI:=Jh (WH (.slice ax A.length cx) A un ur wr (HU.out.ch.below HWR.out) (by omega))
      go_wp2_with fail
      refine HFI.out.mono ?_
      rintro e w10 ⟨rfl,b10⟩
      have HB11:=Lib.hid b10
      have hcu:=(b10.block (wo.heap.size+1) (Array.getElem?_eq_some_iff.1 HCU.out).1).trans HCU.out
      have HCU2:=Lib.hid hcu
      obtain ⟨g0,g1,f0,f1⟩:=WJ hcu
      try simp only at g0 g1
      have HX11:Hid (Ext (fun b=>b=wo.heap.size+1) w9 w10):=Jh (HXU.out.then_below b10)
      clear b10 hcu
      rcases HU.out.all.find HU.out.keyed (b:=⟨un,ur⟩) with ⟨hf,hn0⟩|⟨i,c,hf,hci,hcs,-⟩
      ·have hfi:ZT A ⟨un,ur⟩=-1:=by unfold ZT;rw[hf]
       have ht0:=QZ HNT.out hn0
       have hp0:pn=0:=congrArg St.n ht0
       have hp1:pr=0:=congrArg St.r ht0
       rw[hfi]
       subst hp0
       subst hp1
       have hst:=T5 (c:=.int .i64 0) (d:=.int .i64 0) HCU2.out
       obtain ⟨k0,k1,-,-⟩:=WJ hst
       have hxs:Ext (fun b=>b=wo.heap.size+1) w9 ((w10.setCell ⟨wo.heap.size+1,0,none⟩ (.int .i64 0)).setCell ⟨wo.heap.size+1,1,none⟩ (.int .i64 0)):=(HX11.out.setCell (p:=⟨wo.heap.size+1,0,none⟩) (.inr rfl) _).setCell (p:=⟨wo.heap.size+1,1,none⟩) (.inr rfl) _
       have HK:=Jh (And.intro k0 (And.intro k1 hxs))
       clear hf hn0 ht0 hfi hst k0 k1 hxs
       go_wp2_with fail
       go_meet
       exact ⟨HK.out.1,HK.out.2.1,Lib.hid HK.out.2.2⟩
      ·have hfi:ZT A ⟨un,ur⟩=(i:Int):=by unfold ZT;rw[hf]
       rw[hfi]
       obtain ⟨cb,⟨vn,vr⟩,ck⟩:=c
       have hil:=(List.getElem?_eq_some_iff.1 hci).1
       obtain ⟨b9,o9,c9,e9,hd9⟩:=(HU.out.ch.below HWR.out).dcells (by intro e;rw[e] at hil;simp at hil)
       injection e9 with e9 e10 e11
       clear e10 e11
       subst e9
       obtain ⟨-,-,d2,d3,-⟩:=hd9 i _ hci
       try simp only at d2 d3
       replace d2:=Z0 HB11.out d2
       replace d3:=Z0 HB11.out d3
       have hi0:(0:Int)≤(i:Int):=by omega
       have hi1:¬ ((i:Int)<0):=by omega
       have hi2:(i:Int)<(A.length:Int):=by omega
       have hvp:=HU.out.pos _ (List.mem_of_getElem? hci)
       have hst:=T5 (c:=.int .i64 vn) (d:=.int .i64 vr) HCU2.out
       obtain ⟨k0,k1,k2,k3⟩:=WJ hst
       have hxs:Ext (fun b=>b=wo.heap.size+1) w9 ((w10.setCell ⟨wo.heap.size+1,0,none⟩ (.int .i64 vn)).setCell ⟨wo.heap.size+1,1,none⟩ (.int .i64 vr)):=(HX11.out.setCell (p:=⟨wo.heap.size+1,0,none⟩) (.inr rfl) _).setCell (p:=⟨wo.heap.size+1,1,none⟩) (.inr rfl) _
       have HWS:Hid (Below w.heap.size w ((w10.setCell ⟨wo.heap.size+1,0,none⟩ (.int .i64 vn)).setCell ⟨wo.heap.size+1,1,none⟩ (.int .i64 vr))):=Jh (Ext.new (HB0.out.trans (HB10.out.mono HB0.out.size)) hxs (fun i hi _ e=>by have:=HBW.out.size;omega) (by have:=HBW.out.size;have:=HZ10.out;omega))
       have HXS:=Lib.hid hxs
       have HST:=Lib.hid hst
       have HCS:=Jh (And.intro hcs hvp)
       obtain ⟨lv,hlv⟩:=Je (Y4 l ⟨vn,vr⟩)
       have HLV:Hid (Calls Tryz.prog 40 #[.slice a0 n0 c0,.agg #[.int .i64 vn,.int .i64 vr]] ((w10.setCell ⟨wo.heap.size+1,0,none⟩ (.int .i64 vn)).setCell ⟨wo.heap.size+1,1,none⟩ (.int .i64 vr)) fun e w'=>e=.returned (.bool lv)∧Below (World.heap ((w10.setCell ⟨wo.heap.size+1,0,none⟩ (.int .i64 vn)).setCell ⟨wo.heap.size+1,1,none⟩ (.int .i64 vr))).size ((w10.setCell ⟨wo.heap.size+1,0,none⟩ (.int .i64 vn)).setCell ⟨wo.heap.size+1,1,none⟩ (.int .i64 vr)) w'):=Jh (by rw[←hlv];exact Rz _ l vn vr _ (HU.out.el.below HWS.out))
       have HLVE:=Lib.hid hlv
       clear hlv hst hxs hcs hvp hci hf hfi hd9 hil
       go_upto_region 14 with fail
       generalize ((w10.setCell ⟨wo.heap.size+1,0,none⟩ (.int .i64 vn)).setCell ⟨wo.heap.size+1,1,none⟩ (.int .i64 vr))=w11 at *
       go_wp2_with fail
       refine HLV.out.mono ?_
       rintro e w12 ⟨rfl,b12⟩
       replace k0:=Z0 b12 k0
       replace k1:=Z0 b12 k1
       have HX12:Hid (Ext (fun b=>b=wo.heap.size+1) w9 w12):=Jh (HXS.out.then_below b12)
       have HCU3:Hid (w12.heap[wo.heap.size+1]?=some (.cells #[.int .i64 vn,.int .i64 vr] 23 (0,0))):=Jh ((b12.block _ (Array.getElem?_eq_some_iff.1 HST.out).1).trans HST.out)
       clear b12 g0 g1 f0 f1 k2 k3 d2 d3 HLV
       cases lv with
       | true =>
        have htp:=TB HNT.out HCS.out.1 (.inl HLVE.out)
        have hp0:pn=vn:=congrArg St.n htp
        have hp1:pr=vr:=congrArg St.r htp
        clear htp
        have HK:Hid (w12.cell? ⟨wo.heap.size+1,0,none⟩=some (.int .i64 pn)∧w12.cell? ⟨wo.heap.size+1,1,none⟩=some (.int .i64 pr)):=Jh (by rw[hp0,hp1];exact ⟨k0,k1⟩)
        clear hp0 hp1
        go_wp2_with fail
        go_meet
        exact ⟨HK.out.1,HK.out.2,HX12⟩
       | false =>
        by_cases hv0:vn=0
        ·have hvr:vr=0:=by rcases HCS.out.2 with e|e;exact congrArg St.r e;exact absurd hv0 e
         have htp:=TB HNT.out HCS.out.1 (.inr (by rw[hv0,hvr]))
         have hp0:pn=vn:=congrArg St.n htp
         have hp1:pr=vr:=congrArg St.r htp
         have HK:Hid (w12.cell? ⟨wo.heap.size+1,0,none⟩=some (.int .i64 pn)∧w12.cell? ⟨wo.heap.size+1,1,none⟩=some (.int .i64 pr)):=Jh (by rw[hp0,hp1];exact ⟨k0,k1⟩)
         clear hp0 hp1 htp
         subst hv0
         subst hvr
         go_wp2_with fail
         go_meet
         exact ⟨HK.out.1,HK.out.2,HX12⟩
        ·have HUP:=Jh (Z2V HNT.out HCS.out.1 HLVE.out (fun e=>hv0 (congrArg St.n e)))
         have HE2:Hid (∃ m2,mm=m2+1∧ZJ h m2 ⟨vn,vr⟩):=Jh (by obtain ⟨k9,e9,h9⟩:=T6 HEN.out HCS.out.1;exact ⟨k9,e9,h9⟩)
         go_wp2_with fail
         go_roundg (A.length+1 - (j+1))
         case measure=>rw[HG2.out];omega
         case rel =>
          obtain ⟨m2,rfl,h2⟩:=HE2.out
          exact ⟨j+1,⟨vn,vr⟩,m2,rfl,by go_num,by omega,Lib.hid h2,HUP,HCU3,HX12⟩
    case rest =>
     obtain ⟨k0,k1,HXC⟩:=hcut
     replace z0:=HXC.out.keep z0 (by omega)
     replace z1:=HXC.out.keep z1 (by omega)
     replace z2:=HXC.out.keep z2 (by omega)
     replace z3:=HXC.out.keep z3 (by omega)
     replace z4:=HXC.out.keep z4 (by omega)
     replace z5:=HXC.out.keep z5 (by omega)
     have HBC:Hid (Below w1.heap.size w1 wc):=Jh (Ext.new HB10.out HXC.out (fun i hi _ e=>by have:=HB.out.size;omega) (by have:=HB10.out.size;omega))
     have HBCW:=Jh (HB0.out.trans (HBC.out.mono HB0.out.size))
     have hy:=HBC.out
     replace y0:=Z0 hy y00
     replace y1:=Z0 hy y10
     clear hy
     have HND2:Hid (Zo D wc ⟨⟨zn,zr⟩,zk,⟨b1,b2,b3⟩,⟨b4,b5,b6⟩,⟨d1,d2,d3⟩⟩ m):=Jh (HND0.out wc HBCW.out)
     have HC:Hid (Calls Tryz.prog 21 #[.agg #[.int .i64 zn,.int .i64 zr,.string zk,.slice b1 b2 b3,.slice b4 b5 b6,.slice d1 d2 d3],.agg #[.int .i64 zn,.int .i64 zr],.slice a0 n0 c0,.slice ax A.length cx] wc fun e w'=>e=.returned (.bool true)∧Below wc.heap.size wc w'):=Jh (by
      have:=HIH.out m HMK.out m.id D _ wc HND2.out (HU.out.below HBCW.out) HNE.out.2 (HPS.out m HMK.out)
      rw[←HID.out] at this
      exact this)
     go_wp2_with fail
     refine HC.out.mono ?_
     rintro e w13 ⟨rfl,b13⟩
     replace k0:=Z0 b13 k0
     replace k1:=Z0 b13 k1
     replace y0:=Z0 b13 y0
     replace y1:=Z0 b13 y1
     have HB13:=Jh (HBC.out.trans (b13.mono HBC.out.size))
     clear b13 HC
     go_wp2_with fail
     go_roundg (sn - (k+1))
     case measure=>rw[HG.out];omega
     case rel=>exact ⟨k+1,rfl,hkl,by go_num,HB13⟩
  ·have hkk:¬ ((k:Int)<(sn:Int)):=by omega
   go_wp2_with fail
   go_ret
   exact ⟨rfl,HBW.out⟩
theorem Z2t (h:Zf) (l:List El) (A:List Ch) (a0 ax:Option Addr) (n0 c0 cx:Nat) (n:Nd):Z3V h l A a0 ax n0 c0 cx n:=by
 induction n using Nd.ind with
 | _ i k az t ks ih =>
  intro top D x w hn hu hun hpos
  obtain ⟨e1,e2,ha,hp,vs,hs,hk⟩:=hn.parts
  obtain ⟨⟨xn,xr⟩,xk,⟨aa,an,ac⟩,⟨ta,tn,tc⟩,⟨sa,sn,sc⟩⟩:=x
  simp only[Nd.id,Nd.kind,Nd.kids,Nd.text] at e1 e2 hk hp
  exact Z1c h l A a0 ax n0 c0 cx top.n top.r D xn xr xk aa ta sa an ac tn tc sn sc vs ks w hs hk hu (fun m hm h0=>hun.kid hm h0) (fun m hm s hs=>hpos s (Z46 hm hs)) ih
theorem Z0K {s:St} (h:Z7 s=true):s.n≠0:=by
 unfold Z7 at h
 rw[decide_eq_true_eq] at h
 omega
theorem Z0o (mv:List RMv):∀ x∈Zt mv,x.2.under=⟨0,0⟩∨x.2.under.n≠0:=by
 refine RA (p:=fun c=>∀ x∈c,x.2.under=⟨0,0⟩∨x.2.under.n≠0) (fun x h=>by cases h) (fun c m h=>?_) mv
 unfold V2
 split
 ·rename_i hc
  intro x hx
  rcases UE.1 hx with rfl|hx
  ·show m.under=_∨m.under.n≠0
   unfold Yo at hc
   split at hc
   ·rename_i hg
    unfold XU at hg
    simp only[Bool.and_eq_true,Bool.or_eq_true,decide_eq_true_eq] at hg
    exact hg.2.imp id Z0K
   ·omega
  ·exact h x hx
 ·exact h
theorem Z33 {mv:List RMv} {A:List Ch} (hA:Zh (ZC (Zt mv)) A):∀ c∈A,c.under=⟨0,0⟩∨c.under.n≠0:=fun c hc=>by
 obtain ⟨x,hx,rfl⟩:=List.mem_map.1 (S2 ((hA.1 c).1 hc))
 exact Z0o mv x hx
theorem Z3r {l:List El} {mv:List RMv} {ws:List Z8} {ms:List OpD} {A D:List Ch} {n1 n2 n3 N:Nat} (ok:Sq l n1 n2 n3) (hA:Zh (ZC (Zt mv)) A) (hD:Zh (ZP l (ZC (Zt mv)) A) D) (hN:D.length+1≤N):∀ s∈(YS l mv ws ms A N).ids,s.n≠0:=fun s hs=>by
 rw[(U4 ok hA hD hN).1.mem_iff] at hs
 obtain ⟨x,hx,rfl⟩:=List.mem_map.1 hs
 exact Z0K (ok.right x (List.mem_filter.1 hx).1)
theorem Z1S (v:Value) (l:List El) (mv:List RMv) (ws:List Z8) (ms:List OpD) (w:World) (hm:SA w v l mv ws ms) (ht:Xe w) :
  Calls Tryz.prog 7 #[v] w fun e w'=>e=.returned (.bool true)∧Below w.heap.size w w':=by
 obtain ⟨⟨a0,n0,c0⟩,⟨a1,n1,c1⟩,⟨a2,n2,c2⟩,⟨a3,n3,c3⟩,rfl,h0,h1,h2,h3⟩:=hm.ex
 simp only at h0 h1 h2 h3
 have e0:=h0.len
 have e1:=h1.len
 have e2:=h2.len
 have e3:=h3.len
 have hB0:Below w.heap.size w (w.alloc (.cells #[.slice a0 n0 c0,.slice a1 n1 c1,.slice a2 n2 c2,.slice a3 n3 c3] 39)):=(Below.refl _ _).alloc (Nat.le_refl _) _
 have hz1:(w.alloc (.cells #[.slice a0 n0 c0,.slice a1 n1 c1,.slice a2 n2 c2,.slice a3 n3 c3] 39)).heap.size=w.heap.size+1:=by simp
 have x0:(w.alloc (.cells #[.slice a0 n0 c0,.slice a1 n1 c1,.slice a2 n2 c2,.slice a3 n3 c3] 39)).cell? ⟨w.heap.size,0,none⟩=some (.slice a0 n0 c0):=by go_simp
 have x1:(w.alloc (.cells #[.slice a0 n0 c0,.slice a1 n1 c1,.slice a2 n2 c2,.slice a3 n3 c3] 39)).cell? ⟨w.heap.size,1,none⟩=some (.slice a1 n1 c1):=by go_simp
 have x2:(w.alloc (.cells #[.slice a0 n0 c0,.slice a1 n1 c1,.slice a2 n2 c2,.slice a3 n3 c3] 39)).cell? ⟨w.heap.size,2,none⟩=some (.slice a2 n2 c2):=by go_simp
 have x3:(w.alloc (.cells #[.slice a0 n0 c0,.slice a1 n1 c1,.slice a2 n2 c2,.slice a3 n3 c3] 39)).cell? ⟨w.heap.size,3,none⟩=some (.slice a3 n3 c3):=by go_simp
 have HIN:=Jh (And.intro h0 (And.intro h1 (And.intro h2 h3)))
 have HLN:=Jh (And.intro e0 (And.intro e1 (And.intro e2 e3)))
 have HB0:=Lib.hid hB0
 have HT:=Lib.hid ht
 have HZ1:=Lib.hid hz1
 have HASK:=Jh (Tk a0 a1 a2 a3 n0 n1 n2 n3 c0 c1 c2 c3 l (w.alloc (.cells #[.slice a0 n0 c0,.slice a1 n1 c1,.slice a2 n2 c2,.slice a3 n3 c3] 39)) (h0.below hB0) (by omega) (by omega) (by omega))
 have HAL:Hid (∀ W,Below w.heap.size w W→Calls Tryz.prog 11 #[] W fun e w'=>e=.returned (.bool true)∧Below W.heap.size W w'):=Jh (fun W hW=>T2 W (ht.below hW))
 clear h0 h1 h2 h3 e0 e1 e2 e3 hB0 hz1 ht hm
 go_enter Tryz.func7,Tryz.ntmps7
 go_upto_region 1 with fail
 generalize (w.alloc (.cells #[.slice a0 n0 c0,.slice a1 n1 c1,.slice a2 n2 c2,.slice a3 n3 c3] 39))=w1 at *
 go_wp2_with fail
 refine HASK.out.mono ?_
 rintro e w2 ⟨r,rfl,hr,b2⟩
 have HB2:=Jh (HB0.out.trans (b2.mono HB0.out.size))
 have HR:=Lib.hid hr
 replace x0:=Z0 b2 x0
 replace x1:=Z0 b2 x1
 replace x2:=Z0 b2 x2
 replace x3:=Z0 b2 x3
 clear hr HASK b2
 cases r with
 | false =>
  go_wp2_with fail
  refine (HAL.out w2 HB2.out).mono ?_
  rintro e w3 ⟨rfl,b3⟩
  have HB3:=Jh (HB2.out.trans (b3.mono HB2.out.size))
  clear b3
  go_wp2_with fail
  go_ret
  exact ⟨rfl,HB3.out⟩
 | true =>
  have HOK:=Jh (HR.out rfl)
  have HLE:Hid (l.length≤60∧mv.length≤60∧ws.length≤60∧ms.length≤30):=Lib.hid ⟨HOK.out.el,by rw[←HLN.out.2.1.1];exact HOK.out.mv,by rw[←HLN.out.2.2.1.1];exact HOK.out.ws,by rw[←HLN.out.2.2.2.1];exact HOK.out.ms⟩
  have HBU:=Jh (T1 a0 a1 a2 a3 n0 n1 n2 n3 c0 c1 c2 c3 l mv ws ms w2 (HIN.out.1.below HB2.out) (HIN.out.2.1.below HB2.out) (HIN.out.2.2.1.below HB2.out) (HIN.out.2.2.2.below HB2.out) HLE.out.1 HOK.out.unlike HLE.out.2.1 HLE.out.2.2.1 HLE.out.2.2.2)
  go_wp2_with fail
  refine HBU.out.mono ?_
  rintro e w3 ⟨A,D,N,⟨⟨xn,xr⟩,xk,⟨xa,xb,xc⟩,⟨xd,xe,xf⟩,⟨xg,xh,xi⟩⟩,⟨⟨yn,yr⟩,yk,⟨ya,yb,yc⟩,⟨yd,ye,yf⟩,⟨yg,yh,yi⟩⟩,rfl,hA,hD,hN,hx,hy,b3⟩
  simp only[NdV.val]
  have hz3:=b3.size
  replace x0:=Z1 (Z1 (Z0 b3 x0) (.cells #[.int .i64 xn,.int .i64 xr,.string xk,.slice xa xb xc,.slice xd xe xf,.slice xg xh xi] 28)) (.cells #[.int .i64 yn,.int .i64 yr,.string yk,.slice ya yb yc,.slice yd ye yf,.slice yg yh yi] 28)
  replace x1:=Z1 (Z1 (Z0 b3 x1) (.cells #[.int .i64 xn,.int .i64 xr,.string xk,.slice xa xb xc,.slice xd xe xf,.slice xg xh xi] 28)) (.cells #[.int .i64 yn,.int .i64 yr,.string yk,.slice ya yb yc,.slice yd ye yf,.slice yg yh yi] 28)
  replace x2:=Z1 (Z1 (Z0 b3 x2) (.cells #[.int .i64 xn,.int .i64 xr,.string xk,.slice xa xb xc,.slice xd xe xf,.slice xg xh xi] 28)) (.cells #[.int .i64 yn,.int .i64 yr,.string yk,.slice ya yb yc,.slice yd ye yf,.slice yg yh yi] 28)
  replace x3:=Z1 (Z1 (Z0 b3 x3) (.cells #[.int .i64 xn,.int .i64 xr,.string xk,.slice xa xb xc,.slice xd xe xf,.slice xg xh xi] 28)) (.cells #[.int .i64 yn,.int .i64 yr,.string yk,.slice ya yb yc,.slice yd ye yf,.slice yg yh yi] 28)
  have p0:((w3.alloc (.cells #[.int .i64 xn,.int .i64 xr,.string xk,.slice xa xb xc,.slice xd xe xf,.slice xg xh xi] 28)).alloc (.cells #[.int .i64 yn,.int .i64 yr,.string yk,.slice ya yb yc,.slice yd ye yf,.slice yg yh yi] 28)).cell? ⟨w3.heap.size,0,none⟩=some (.int .i64 xn):=by go_simp
  have q0:((w3.alloc (.cells #[.int .i64 xn,.int .i64 xr,.string xk,.slice xa xb xc,.slice xd xe xf,.slice xg xh xi] 28)).alloc (.cells #[.int .i64 yn,.int .i64 yr,.string yk,.slice ya yb yc,.slice yd ye yf,.slice yg yh yi] 28)).cell? ⟨w3.heap.size+1,0,none⟩=some (.int .i64 yn):=by go_simp
  have p1:((w3.alloc (.cells #[.int .i64 xn,.int .i64 xr,.string xk,.slice xa xb xc,.slice xd xe xf,.slice xg xh xi] 28)).alloc (.cells #[.int .i64 yn,.int .i64 yr,.string yk,.slice ya yb yc,.slice yd ye yf,.slice yg yh yi] 28)).cell? ⟨w3.heap.size,1,none⟩=some (.int .i64 xr):=by go_simp
  have q1:((w3.alloc (.cells #[.int .i64 xn,.int .i64 xr,.string xk,.slice xa xb xc,.slice xd xe xf,.slice xg xh xi] 28)).alloc (.cells #[.int .i64 yn,.int .i64 yr,.string yk,.slice ya yb yc,.slice yd ye yf,.slice yg yh yi] 28)).cell? ⟨w3.heap.size+1,1,none⟩=some (.int .i64 yr):=by go_simp
  have p2:((w3.alloc (.cells #[.int .i64 xn,.int .i64 xr,.string xk,.slice xa xb xc,.slice xd xe xf,.slice xg xh xi] 28)).alloc (.cells #[.int .i64 yn,.int .i64 yr,.string yk,.slice ya yb yc,.slice yd ye yf,.slice yg yh yi] 28)).cell? ⟨w3.heap.size,2,none⟩=some (.string xk):=by go_simp
  have q2:((w3.alloc (.cells #[.int .i64 xn,.int .i64 xr,.string xk,.slice xa xb xc,.slice xd xe xf,.slice xg xh xi] 28)).alloc (.cells #[.int .i64 yn,.int .i64 yr,.string yk,.slice ya yb yc,.slice yd ye yf,.slice yg yh yi] 28)).cell? ⟨w3.heap.size+1,2,none⟩=some (.string yk):=by go_simp
  have p3:((w3.alloc (.cells #[.int .i64 xn,.int .i64 xr,.string xk,.slice xa xb xc,.slice xd xe xf,.slice xg xh xi] 28)).alloc (.cells #[.int .i64 yn,.int .i64 yr,.string yk,.slice ya yb yc,.slice yd ye yf,.slice yg yh yi] 28)).cell? ⟨w3.heap.size,3,none⟩=some (.slice xa xb xc):=by go_simp
  have q3:((w3.alloc (.cells #[.int .i64 xn,.int .i64 xr,.string xk,.slice xa xb xc,.slice xd xe xf,.slice xg xh xi] 28)).alloc (.cells #[.int .i64 yn,.int .i64 yr,.string yk,.slice ya yb yc,.slice yd ye yf,.slice yg yh yi] 28)).cell? ⟨w3.heap.size+1,3,none⟩=some (.slice ya yb yc):=by go_simp
  have p4:((w3.alloc (.cells #[.int .i64 xn,.int .i64 xr,.string xk,.slice xa xb xc,.slice xd xe xf,.slice xg xh xi] 28)).alloc (.cells #[.int .i64 yn,.int .i64 yr,.string yk,.slice ya yb yc,.slice yd ye yf,.slice yg yh yi] 28)).cell? ⟨w3.heap.size,4,none⟩=some (.slice xd xe xf):=by go_simp
  have q4:((w3.alloc (.cells #[.int .i64 xn,.int .i64 xr,.string xk,.slice xa xb xc,.slice xd xe xf,.slice xg xh xi] 28)).alloc (.cells #[.int .i64 yn,.int .i64 yr,.string yk,.slice ya yb yc,.slice yd ye yf,.slice yg yh yi] 28)).cell? ⟨w3.heap.size+1,4,none⟩=some (.slice yd ye yf):=by go_simp
  have p5:((w3.alloc (.cells #[.int .i64 xn,.int .i64 xr,.string xk,.slice xa xb xc,.slice xd xe xf,.slice xg xh xi] 28)).alloc (.cells #[.int .i64 yn,.int .i64 yr,.string yk,.slice ya yb yc,.slice yd ye yf,.slice yg yh yi] 28)).cell? ⟨w3.heap.size,5,none⟩=some (.slice xg xh xi):=by go_simp
  have q5:((w3.alloc (.cells #[.int .i64 xn,.int .i64 xr,.string xk,.slice xa xb xc,.slice xd xe xf,.slice xg xh xi] 28)).alloc (.cells #[.int .i64 yn,.int .i64 yr,.string yk,.slice ya yb yc,.slice yd ye yf,.slice yg yh yi] 28)).cell? ⟨w3.heap.size+1,5,none⟩=some (.slice yg yh yi):=by go_simp
  have hb4:Below w3.heap.size w3 ((w3.alloc (.cells #[.int .i64 xn,.int .i64 xr,.string xk,.slice xa xb xc,.slice xd xe xf,.slice xg xh xi] 28)).alloc (.cells #[.int .i64 yn,.int .i64 yr,.string yk,.slice ya yb yc,.slice yd ye yf,.slice yg yh yi] 28)):=((Below.refl _ _).alloc (Nat.le_refl _) _).alloc (by simp) _
  have HB4:=Jh ((HB2.out.trans (b3.mono HB2.out.size)).trans (hb4.mono (by have:=HB2.out.size;omega)))
  have HX:=Jh (hx.belowW hb4)
  have HY:=Jh (hy.belowW hb4)
  have HTR:=Jh (And.intro hA (And.intro hD hN))
  skip
  clear b3 hb4 hx hy hA hD hN hz3 HBU
  go_upto_region 5 with fail
  generalize ((w3.alloc (.cells #[.int .i64 xn,.int .i64 xr,.string xk,.slice xa xb xc,.slice xd xe xf,.slice xg xh xi] 28)).alloc (.cells #[.int .i64 yn,.int .i64 yr,.string yk,.slice ya yb yc,.slice yd ye yf,.slice yg yh yi] 28))=w4 at *
  have HHG:=Jh (S0 a0 a1 a2 a3 n0 n1 n2 n3 c0 c1 c2 c3 mv w4 (HIN.out.2.1.below HB4.out) HLE.out.2.1)
  go_wp2_with fail
  refine HHG.out.mono ?_
  rintro e w5 ⟨v5,A5,rfl,ho5,hA5,b5⟩
  obtain rfl:A5=A:=hA5.unique HTR.out.1
  obtain ⟨a5,c5,rfl,-,-,-⟩:=ho5.slice (fun _=>rfl)
  have HB5:=Jh (HB4.out.trans (b5.mono HB4.out.size))
  have HUW:Hid (SO (ZC (Zt mv)) l A5 a0 a5 n0 c0 c5 w5):=Lib.hid ⟨HIN.out.1.below HB5.out,ho5.slice (fun _=>rfl),hA5,Y2 _,WG _,by have:=Tq hA5;have:=VV mv;have:=HLE.out.2.1;omega,Z33 hA5⟩
  have HX5:=Jh (HX.out.belowW b5)
  replace p0:=Z0 b5 p0
  replace p1:=Z0 b5 p1
  replace p2:=Z0 b5 p2
  replace p3:=Z0 b5 p3
  replace p4:=Z0 b5 p4
  replace p5:=Z0 b5 p5
  replace x0:=Z0 b5 x0
  have HUN:=Jh (Z2t (ZC (Zt mv)) l A5 a0 a5 n0 c0 c5 (YS l mv ws ms A5 N) ⟨0,0⟩ _ ⟨⟨xn,xr⟩,xk,⟨xa,xb,xc⟩,⟨xd,xe,xf⟩,⟨xg,xh,xi⟩⟩ w5 HX5.out HUW.out (Z1O (XB mv) _ _) (Z3r HOK.out HTR.out.1 HTR.out.2.1 HTR.out.2.2))
  simp only[NdV.val] at HUN
  clear ho5 hA5 b5 HHG HUW HX HX5 q0 q1 q2 q3 q4 q5 HY
  go_wp2_with fail
  refine HUN.out.mono ?_
  rintro e w6 ⟨rfl,b6⟩
  have HB6:=Jh (HB5.out.trans (b6.mono HB5.out.size))
  clear b6
  go_wp2_with fail
  refine (HAL.out w6 HB6.out).mono ?_
  rintro e w7 ⟨rfl,b9⟩
  have HB9:=Jh (HB6.out.trans (b9.mono HB6.out.size))
  clear b9
  go_wp2_with fail
  go_ret
  exact ⟨rfl,HB9.out⟩
end Go.Proofs.YtlgipkemoldckaaGreatDoor
namespace Go.Proofs.YtlgipkemoldckaaGreatDoor
open Go Go.ChangeShapes Go.WideShapes Go.ChangeAt Go.RowKit
theorem TR (os:Os) (started:os.Started) (H:Type) (enc:TypeId × Value→H) :
  ReturnsInHanded {} Tryz.checked os 7 .any (fun w args=>(Rows.viewUnderSpec.pre enc Tryz.prog Tryz.f7 [] false w args∧laidMetH Tryz.prog YJ w)∧sizedMet enc Tryz.prog Tryz.f7 (OpenSpec.ofChange Rows.viewUnderSpec) false w args)
   (Rows.viewUnderSpec.post enc Tryz.prog Tryz.f7 false true false false):=by
 refine returnsInHanded_of_change_and (C:=Tryz.checked) (X:=fun w _=>laidMetH Tryz.prog YJ w) (fun _ _ _ hh h=>h.of_heap hh) Tryz.own started (by kernel_rfl) Tryz.func7
  (ChangeSpec.witness_shaped (enc:=enc) (C:=Tryz.checked) (os:=os) (X:=fun w _=>laidMetH Tryz.prog YJ w) false (Ul os) #[.agg #[.slice none 0 0,.slice none 0 0,.slice none 0 0,.slice none 0 0]] 8 (Tf os) (World.shaped_of_ZipB (by kernel_rfl) (by kernel_rfl)) (by kernel_rfl) (by kernel_rfl) (by kernel_rfl) (Ux os _)) ?_
 intro W base args ds gs before hval0 hW _ _ hL _
 have hval:∀ (j:Nat) t v,Tryz.f7.params[j]?=some t→args[j]?=some v→Value.okWide Tryz.prog W .any base t v:=hval0
 have hW':=hW
 obtain ⟨p,q,hA0,hV,rfl,hfz,hnd⟩:=hW
 have hA:DataW.TrodAll enc Tryz.prog W 0 (fun _=>true) true Tryz.f7.params.toList args.toList ds p:=hA0
 rw[Tryz.params7] at hA hval
 obtain ⟨v0,vs0,d0,ds0,p0,q0,hargs,rfl,rfl,h0,r0⟩:=trodAll_cons hA
 obtain ⟨rfl,rfl,rfl⟩:=trodAll_nil r0
 obtain rfl:args=#[v0]:=by cases args;simp_all
 obtain ⟨rfl,rfl⟩:=trodVars_none hV
 have k0:=h0
 have lt0:∀ x∈p0,x.block<W.heap.size:=by obtain ⟨m,hm⟩:=k0;exact DataW.trod_lt m _ _ _ hm
 obtain ⟨l,mv,ws,ms,hm0⟩:=T0 (hval 0 39 v0 rfl rfl) h0
 clear hA0 hval0
 refine (Z1S v0 l mv ws ms W hm0 (U2 hL)).mono fun e W' ⟨he,bel⟩=>?_
 subst he
 exact ⟨_,rfl,_,_,_,[],_,[],hW',trodAll_mk1 (shut_bool Tryz.underlying4 _),(trodAll_cons_mk (Below.trod Tryz.laidOut (by kernel_rfl) (of_decide_eq_true (by kernel_rfl)) k0 bel lt0) trodAll_mk0),rfl,bel.frame _,fun h=>by cases h⟩
theorem Q5:(Rows.viewUnderRow.inPlace == Tryz.prog.inPlace 7)=true:=by kernel_rfl
theorem QP:(Rows.viewUnderRow.unfollowed == Tryz.prog.unfollowed 7)=true:=by kernel_rfl
theorem QI:(Rows.viewUnderRow.recurses == Tryz.prog.recurses 7)=true:=by kernel_rfl
theorem Qe:(Rows.viewUnderRow.named == Tryz.prog.varsNamed 7)=true:=by kernel_rfl
theorem SX:joinedFacts Tryz.prog 7 Tryz.f7 Rows.viewUnderSpec Rows.viewUnderRow=true:=by
 unfold joinedFacts
 rw[Q5,QP,QI,Qe]
 kernel_rfl
theorem Sm:Rows.ViewUnderSaid :=
 OpenClaim.holds_of_wide 7 Tryz.f7 rfl rfl rfl rfl rfl rfl rfl ⟨rfl,rfl,rfl,rfl,rfl⟩ rfl rfl rfl rfl rfl (by kernel_rfl) Tryz.func7 SX
  (of_decide_eq_true (by kernel_rfl)) (by unfold Func.isWrapper;first|(rw[if_pos (by decide +kernel)];kernel_rfl)|(rw[if_neg (by decide +kernel)];exact ⟨rfl,rfl⟩))
  (fun os started H enc _=>TR os started H enc)
theorem viewUnder_card:Rows.ViewUnderCardSaid :=
 Claim7.holds_tied_plain_at .later [] [.data,.data,.data] true Rows.viewUnderCard.stood.harness false
  Sm (fun _ h=>by cases h) (by kernel_rfl) (fun _ h=>by cases h) viewUnder_row_tie rfl ⟨rfl,rfl⟩ (by kernel_rfl) rfl
  (fun f fn hf hfn=>by
   obtain rfl : f = 7 := Option.some.inj ((show Tryz.prog.funcNamed "stemma/stemmalaw20.ViewUnder" = some 7 by kernel_rfl).symm.trans hf) |>.symm
   obtain rfl:fn=Tryz.f7:=(Option.some.inj (Tryz.func7.symm.trans hfn)).symm
   exact ⟨by kernel_rfl,fun j t ht=>by
    rw[Tryz.params7] at ht
    have hm:t∈[39]:=by simpa using Array.mem_of_getElem? ht
    have hall:([39].all fun u=>!Tryz.prog.wantsStandIn u)=true:=by kernel_rfl
    exact (show Tryz.prog.wantsStandIn t=false by simpa using List.all_eq_true.1 hall t hm)⟩)
  (by kernel_rfl)
#print axioms viewUnder_card
end Go.Proofs.YtlgipkemoldckaaGreatDoor
