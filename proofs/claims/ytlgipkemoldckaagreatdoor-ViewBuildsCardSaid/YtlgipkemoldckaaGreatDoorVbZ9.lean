/- ViewBuilds, part 9 of what the proof leans on (made short by a program). -/
import Derived.Test.YtlgipkemoldckaaGreatDoorVbZ8
import Derived.LaidMore
import Derived.Lay
import Derived.Test.YtlgipkemoldckaaGreatDoorTie
import Derived.Test.YtlgipkemoldckaaGreatDoorCards
set_option linter.unusedSimpArgs false
set_option linter.unusedVariables false
set_option linter.unusedSectionVars false
set_option maxRecDepth 20000
set_option maxHeartbeats 30000000
namespace Go.Proofs.YtlgipkemoldckaaGreatDoor
open Go.RowKit Go.Shelf
theorem Z3D (d:Nat):Lib.repeatL [32,32] d=List.replicate (2*d) (32:UInt8):=by
 induction d with
 | zero=>rfl
 | succ d ih=>rw[show 2*(d+1)=2*d+1+1 by omega,List.replicate_succ,List.replicate_succ,Lib.repeatL,ih];rfl
theorem Z0N (d:Nat) (w:World) (hd:d≤35184372088832) :
  Calls Tryz.prog 50 #[.string ⟨#[32,32]⟩,.int .i64 d] w fun e w'=>e=.returned (.string ⟨(List.replicate (2*d) (32:UInt8)).toArray⟩)∧Below w.heap.size w w':=by
 have:=Any.strings_Repeat Tryz.repF RM ⟨#[32,32]⟩ d w (by omega) (by show 2*d≤_;omega)
 rw[show (⟨#[32,32]⟩:ByteArray).data.toList=[32,32] from rfl,Z3D] at this
 exact this
theorem Rl {d:Nat} {l:List Nd} {k:Nat} {n:Nd} (h:l[k]?=some n):txK d (l.take (k+1))=txK d (l.take k)++txN d n:=by
 have app:∀ (a:List Nd) (n:Nd),txK d (a++[n])=txK d a++txN d n:=fun a n=>by
  induction a with
  | nil=>rw[List.nil_append,txK,txK,txK,List.append_nil,List.nil_append]
  | cons m a ih=>rw[List.cons_append,txK,txK,ih,List.append_assoc]
 rw[List.take_add_one,h,Option.toList_some,app]
theorem Z3w (d:Nat) (l:List Nd) (k:Nat):(txK d (l.take k)).length≤(txK d l).length:=by
 have app:∀ (a b:List Nd),txK d (a++b)=txK d a++txK d b:=fun a b=>by
  induction a with
  | nil=>rw[List.nil_append,txK,List.nil_append]
  | cons m a ih=>rw[List.cons_append,txK,txK,ih,List.append_assoc]
 conv=>rhs;rw[←List.take_append_drop k l]
 rw[app,List.length_append]
 omega
theorem VE {B:Nat} {w w':World} (h:Below B w w'):Ext (fun k=>B≤k) w w':=⟨h.os,h.tape,h.output,h.size,fun k _ hn=>h.block k (by omega)⟩
def QA (n:Nd):Prop:=∀ (B b d:Nat) (l:List UInt8) (D:Nat→Prop) (x:NdV) (w:World),BdF B b l w→Zr D w x n→(∀ k,D k→k<B)→Rb B w→B≤w.heap.size→l.length+(txN d n).length≤35184372088832 →
 Calls Tryz.prog 28 #[.pointer (some ⟨b,0,none⟩),x.val,.int .i64 d] w fun e w'=>Vg B b l (txN d n) w e w'
theorem Z0i (B b d:Nat) (l:List UInt8) (D:Nat→Prop) (xn xr:Int) (xk:ByteArray) (aa ta sa:Option Addr) (an ac tn tc sn sc:Nat) (az:List Atr) (t:Pcs) (vs:List NdV) (ks:List Nd) (w:World) (hbd:BdF B b l w)
  (ha:Zu D Atr.cells 2 w (.slice aa an ac) az) (hp:Y4 D w (.slice ta tn tc) t) (hs:Zu D NdV.cells 6 w (.slice sa sn sc) vs) (hn:Zb D w vs ks) (hD:∀ k,D k→k<B) (ht:Rb B w) (hB:B≤w.heap.size)
  (hbig:l.length+(List.replicate (2*d) (32:UInt8)++(WS ⟨xn,xr⟩ xk az t++10 :: txK (d+1) ks)).length≤35184372088832) (ih:∀ n∈ks,QA n) :
  Calls Tryz.prog 28 #[.pointer (some ⟨b,0,none⟩),.agg #[.int .i64 xn,.int .i64 xr,.string xk,.slice aa an ac,.slice ta tn tc,.slice sa sn sc],.int .i64 d] w fun e w'=>Vg B b l (List.replicate (2*d) (32:UInt8)++(WS ⟨xn,xr⟩ xk az t++10 :: txK (d+1) ks)) w e w':=by
 have hsn:sn=vs.length∧vs.length≤9223372036854775807:=by
  obtain ⟨⟨a,c,e,h1,h2,_⟩,_⟩:=hs
  injection e with _ e2 _
  unfold maxLen at h2
  exact ⟨e2,Nat.le_trans h1 h2⟩
 have hsnn:sn≤9223372036854775807:=by omega
 have hB0:Below w.heap.size w (w.alloc (.cells #[.int .i64 xn,.int .i64 xr,.string xk,.slice aa an ac,.slice ta tn tc,.slice sa sn sc] 28)):=(Below.refl _ _).alloc (Nat.le_refl _) _
 have hz1:(w.alloc (.cells #[.int .i64 xn,.int .i64 xr,.string xk,.slice aa an ac,.slice ta tn tc,.slice sa sn sc] 28)).heap.size=w.heap.size+1:=by simp
 have hnb:(w.alloc (.cells #[.int .i64 xn,.int .i64 xr,.string xk,.slice aa an ac,.slice ta tn tc,.slice sa sn sc] 28)).heap[w.heap.size]?=some (.cells #[.int .i64 xn,.int .i64 xr,.string xk,.slice aa an ac,.slice ta tn tc,.slice sa sn sc] 28):=World.alloc_heap_new w _
 have hdd:d≤17592186044416:=by simp only[List.length_append,List.length_replicate] at hbig;omega
 have HZ1:=Jh (And.intro hz1 (And.intro hB hsn))
 have HNB:=Lib.hid hnb
 have HB0:=Jh (hB0.mono hB)
 have HBD:=Jh (hbd.alloc (.cells #[.int .i64 xn,.int .i64 xr,.string xk,.slice aa an ac,.slice ta tn tc,.slice sa sn sc] 28))
 have HT:=Jh (ht.next (hB0.mono hB))
 have HI:=Jh (And.intro ha (And.intro hp (And.intro hs hn)))
 have HDD:=Lib.hid hD
 have HBIG:=Lib.hid hbig
 have HIH:=Lib.hid ih
 have HNE:Hid (w.heap.size≠b):=Jh (by have:=hbd.lt;omega)
 have HT0:Hid (∀ W,Below B w W→Xd W):=Lib.hid ht
 have HKA:Hid (KpO b w (w.alloc (.cells #[.int .i64 xn,.int .i64 xr,.string xk,.slice aa an ac,.slice ta tn tc,.slice sa sn sc] 28))):=Jh (KpO.of_below hB0)
 clear hz1 hB hsn hnb hB0 hbd ht ha hp hs hn hD hbig ih
 generalize hLL:WS ⟨xn,xr⟩ xk az t=LL at *
 have HLL:=Lib.hid hLL
 clear hLL
 generalize hRR:List.replicate (2*d) (32:UInt8)=RR at *
 have HRR:=Lib.hid hRR
 clear hRR
 go_enter Tryz.func28,Tryz.ntmps28
 go_upto_region 1 with fail
 generalize (w.alloc (.cells #[.int .i64 xn,.int .i64 xr,.string xk,.slice aa an ac,.slice ta tn tc,.slice sa sn sc] 28))=w1 at *
 have hlen:=HBIG.out
 simp only[List.length_append,List.length_cons] at hlen
 go_wp2_with fail
 refine (Z0N d w1 (by omega)).mono ?_
 rintro e w2 ⟨rfl,b2⟩
 rw[HRR.out]
 have HB2:=Jh (HB0.out.trans (b2.mono (by have:=HZ1.out;omega)))
 have HK2:=Jh (KpO.of_below (b:=b) b2)
 have hz2:=HB2.out.size
 have HP2:=Jh (UW B b l ⟨RR.toArray⟩ w2 (HBD.out.below b2) (by rw[VX];omega) (by have:=HZ1.out;omega))
 clear b2 hz2
 go_wp2_with fail
 refine HP2.out.mono ?_
 rintro e w3 ⟨rfl,g1,g2,g3⟩
 try rw[Ri] at g1
 have HD3:=Lib.hid g1
 have HB3:=Jh (HB2.out.trans g2)
 have HK3:=Jh (HK2.out.trans g3)
 clear g1 g2 g3 HP2 HB2 HK2 HBD
 have hnb3:=HK3.out.block HNB.out HNE.out (by decide)
 have y0:w3.cell? ⟨w.heap.size,0,none⟩=some (.int .i64 xn):=by rw[Lib.cell_of_heap hnb3];rfl
 have y1:w3.cell? ⟨w.heap.size,1,none⟩=some (.int .i64 xr):=by rw[Lib.cell_of_heap hnb3];rfl
 have y2:w3.cell? ⟨w.heap.size,2,none⟩=some (.string xk):=by rw[Lib.cell_of_heap hnb3];rfl
 have y3:w3.cell? ⟨w.heap.size,3,none⟩=some (.slice aa an ac):=by rw[Lib.cell_of_heap hnb3];rfl
 have y4:w3.cell? ⟨w.heap.size,4,none⟩=some (.slice ta tn tc):=by rw[Lib.cell_of_heap hnb3];rfl
 have y5:w3.cell? ⟨w.heap.size,5,none⟩=some (.slice sa sn sc):=by rw[Lib.cell_of_heap hnb3];rfl
 clear hnb3
 go_upto_region 2 with fail
 have HLINE:Hid (∀ W:World,Below B w W→Calls Tryz.prog 51 #[.agg #[.int .i64 xn,.int .i64 xr,.string xk,.slice aa an ac,.slice ta tn tc,.slice sa sn sc]] W fun e w'=>e=.returned (.string ⟨LL.toArray⟩)∧Below W.heap.size W w'):=Jh (fun W hW=>by
  rw[←HLL.out]
  exact Z2z xn xr xk aa ta sa an ac tn tc sn sc az t D W (HI.out.1.ext (VE hW) (fun q hq _ h=>by have:=HDD.out q hq;omega) (fun _=>Nat.zero_lt_succ 1)) (HI.out.2.1.ext (VE hW) (fun q hq _ h=>by have:=HDD.out q hq;omega)) (HT0.out W hW) (by rw[HLL.out];omega))
 go_wp2_with fail
 refine (HLINE.out w3 HB3.out).mono ?_
 rintro e w4 ⟨rfl,b4⟩
 have HB4:=Jh (HB3.out.trans (b4.mono (by have:=HB3.out.size;have:=HZ1.out;omega)))
 have HK4:=Jh (HK3.out.trans (KpO.of_below b4))
 have HP4:=Jh (UW B b (l++RR) ⟨LL.toArray⟩ w4 (HD3.out.below b4) (by rw[VX,List.length_append];omega) (by have:=HB4.out.size;have:=HZ1.out;omega))
 clear b4
 go_wp2_with fail
 refine HP4.out.mono ?_
 rintro e w5 ⟨rfl,g1,g2,g3⟩
 try rw[Ri] at g1
 have HD5:=Lib.hid g1
 have HB5:=Jh (HB4.out.trans g2)
 have HK5:=Jh (HK4.out.trans g3)
 clear g1 g2 g3 HP4 HB4 HK4 HD3 HB3 HK3 HLINE y0 y1 y2 y3 y4 y5
 go_upto_region 3 with fail
 have HP5:=Jh (UW B b (l++RR++LL) ⟨#[10]⟩ w5 HD5.out (by show _+1≤_;rw[List.length_append,List.length_append];omega) (by have:=HB5.out.size;have:=HZ1.out;omega))
 go_wp2_with fail
 refine HP5.out.mono ?_
 rintro e w6 ⟨rfl,g1,g2,g3⟩
 have HD6:Hid (BdF B b (l++RR++LL++[10]) w6):=Lib.hid g1
 have HB6:=Jh (HB5.out.trans g2)
 have HK6:=Jh (HK5.out.trans g3)
 clear g1 g2 g3 HP5 HB5 HK5 HD5
 have hnb6:=HK6.out.block HNB.out HNE.out (by decide)
 have y5:w6.cell? ⟨w.heap.size,5,none⟩=some (.slice sa sn sc):=by rw[Lib.cell_of_heap hnb6];rfl
 clear hnb6
 have HLL2:Hid (l++(RR++(LL++10 :: txK (d+1) ks))=(l++RR++LL++[10])++txK (d+1) ks):=Jh (by simp)
 have HLEN:Hid ((l++RR++LL++[10]).length+(txK (d+1) ks).length≤35184372088832):=Jh (by simp only[List.length_append,List.length_singleton];omega)
 generalize l++RR++LL++[10]=A0 at *
 clear hlen
 go_wp2_with fail
 go_loopg [21] sn (fun g iv wr=>∃ k:Nat,g=sn - k∧k≤sn∧iv=.int .i64 k∧Hid (BdF B b (A0++txK (d+1) (ks.take k)) wr)∧Hid (Below B w wr)∧Hid (KpO b w1 wr))
 case atStart=>exact ⟨0,by omega,by omega,rfl,Jh (by rw[List.take_zero,txK,List.append_nil];exact HD6.out),HB6,HK6⟩
 case round =>
  obtain ⟨k,hg,hk,rfl,HD,HB,HK⟩:=hrel
  have HG:=Lib.hid hg
  clear hg
  by_cases hkl:k<sn
  ·obtain ⟨⟨⟨zn,zr⟩,zk,⟨a1,a2,a3⟩,⟨b1,b2,b3⟩,⟨c1,c2,c3⟩⟩,hx⟩:∃ x,vs[k]?=some x:=⟨_,List.getElem?_eq_getElem (by have:=HZ1.out;omega)⟩
   obtain ⟨m,hm⟩:∃ x,ks[k]?=some x:=⟨_,List.getElem?_eq_getElem (by have:=HZ1.out;have:=HI.out.2.2.2.1;omega)⟩
   obtain ⟨q,o,c,e5,u0,u1,u2,u3,u4,u5⟩:=(HI.out.2.2.1.ext (VE HB.out) (fun q hq _ h=>by have:=HDD.out q hq;omega) (fun _=>Nat.zero_lt_succ 5)).node6 hx
   injection e5 with e5 e6 e7
   clear e6 e7
   subst e5
   simp only at u0 u1 u2 u3 u4 u5
   have hnd:=(HI.out.2.2.2.2 k _ m hx hm).ext (VE HB.out) (fun q hq _ h=>by have:=HDD.out q hq;omega)
   have hkk:(k:Int)<(sn:Int):=by omega
   have hle:=Z3w (d+1) ks (k+1)
   rw[Rl hm,List.length_append] at hle
   have HW9B:Hid (Below B w (wr.alloc (.cells #[.int .i64 zn,.int .i64 zr,.string zk,.slice a1 a2 a3,.slice b1 b2 b3,.slice c1 c2 c3] 28))):=Jh (HB.out.alloc (by have:=HB.out.size;have:=HZ1.out;omega) _)
   have HC:Hid (Calls Tryz.prog 28 #[.pointer (some ⟨b,0,none⟩),.agg #[.int .i64 zn,.int .i64 zr,.string zk,.slice a1 a2 a3,.slice b1 b2 b3,.slice c1 c2 c3],.int .i64 ((d+1:Nat):Int)] (wr.alloc (.cells #[.int .i64 zn,.int .i64 zr,.string zk,.slice a1 a2 a3,.slice b1 b2 b3,.slice c1 c2 c3] 28)) fun e w'=>Vg B b (A0++txK (d+1) (ks.take k)) (txN (d+1) m) (wr.alloc (.cells #[.int .i64 zn,.int .i64 zr,.string zk,.slice a1 a2 a3,.slice b1 b2 b3,.slice c1 c2 c3] 28)) e w'):=Jh (HIH.out m (List.mem_of_getElem? hm) B b (d+1) _ D ⟨⟨zn,zr⟩,zk,⟨a1,a2,a3⟩,⟨b1,b2,b3⟩,⟨c1,c2,c3⟩⟩ _ (HD.out.alloc _) (hnd.belowW ((Below.refl _ _).alloc (Nat.le_refl _) _)) HDD.out (fun W hW=>HT0.out W (HW9B.out.trans hW)) (by rw[World.size_alloc];have:=HB.out.size;have:=HZ1.out;omega) (by have:=HLEN.out;rw[List.length_append];omega))
   have HM:=Lib.hid hm
   have HK9:=Jh (HK.out.alloc (.cells #[.int .i64 zn,.int .i64 zr,.string zk,.slice a1 a2 a3,.slice b1 b2 b3,.slice c1 c2 c3] 28))
   clear hnd hle hm hx
   have z0:(wr.alloc (.cells #[.int .i64 zn,.int .i64 zr,.string zk,.slice a1 a2 a3,.slice b1 b2 b3,.slice c1 c2 c3] 28)).cell? ⟨wr.heap.size,0,none⟩=some (.int .i64 zn):=by go_simp
   have z1:(wr.alloc (.cells #[.int .i64 zn,.int .i64 zr,.string zk,.slice a1 a2 a3,.slice b1 b2 b3,.slice c1 c2 c3] 28)).cell? ⟨wr.heap.size,1,none⟩=some (.int .i64 zr):=by go_simp
   have z2:(wr.alloc (.cells #[.int .i64 zn,.int .i64 zr,.string zk,.slice a1 a2 a3,.slice b1 b2 b3,.slice c1 c2 c3] 28)).cell? ⟨wr.heap.size,2,none⟩=some (.string zk):=by go_simp
   have z3:(wr.alloc (.cells #[.int .i64 zn,.int .i64 zr,.string zk,.slice a1 a2 a3,.slice b1 b2 b3,.slice c1 c2 c3] 28)).cell? ⟨wr.heap.size,3,none⟩=some (.slice a1 a2 a3):=by go_simp
   have z4:(wr.alloc (.cells #[.int .i64 zn,.int .i64 zr,.string zk,.slice a1 a2 a3,.slice b1 b2 b3,.slice c1 c2 c3] 28)).cell? ⟨wr.heap.size,4,none⟩=some (.slice b1 b2 b3):=by go_simp
   have z5:(wr.alloc (.cells #[.int .i64 zn,.int .i64 zr,.string zk,.slice a1 a2 a3,.slice b1 b2 b3,.slice c1 c2 c3] 28)).cell? ⟨wr.heap.size,5,none⟩=some (.slice c1 c2 c3):=by go_simp
   go_upto_region 7 with fail
   generalize wr.alloc (.cells #[.int .i64 zn,.int .i64 zr,.string zk,.slice a1 a2 a3,.slice b1 b2 b3,.slice c1 c2 c3] 28)=w9 at *
   rw[show ((d+1:Nat):Int)=(d:Int)+1 from by omega] at HC
   go_wp2_with fail
   refine HC.out.mono ?_
   rintro e w10 ⟨rfl,g1,g2,g3⟩
   have HD10:Hid (BdF B b (A0++txK (d+1) (ks.take (k+1))) w10):=Jh (by rw[Rl HM.out,←List.append_assoc];exact g1)
   have HB10:=Jh (HW9B.out.trans g2)
   have HK10:=Jh (HK9.out.trans g3)
   clear g1 g2 g3 HC
   go_wp2_with fail
   go_roundg (sn - (k+1))
   case measure=>rw[HG.out];omega
   case rel=>exact ⟨k+1,rfl,hkl,by go_num,HD10,HB10,HK10⟩
  ·have hkk:¬ ((k:Int)<(sn:Int)):=by omega
   have HD8:Hid (BdF B b (l++(RR++(LL++10 :: txK (d+1) ks))) wr):=Jh (by have:=HD.out;rw[List.take_of_length_le (by have:=HZ1.out;have:=HI.out.2.2.2.1;omega)] at this;rw[HLL2.out];exact this)
   have HF:Hid (Vg B b l (RR++(LL++10 :: txK (d+1) ks)) w (.returned (.tuple #[])) wr):=Jh (⟨rfl,HD8.out,HB.out,HKA.out.trans HK.out⟩)
   go_wp2_with fail
   go_end0
   exact HF.out
theorem Z0X (n:Nd):QA n:=by
 induction n using Nd.ind with
 | _ i k az t ks ih =>
  intro B b d l D x w hbd hn hD ht hB hbig
  obtain ⟨e1,e2,ha,hp,vs,hs,hk⟩:=hn.parts
  obtain ⟨⟨xn,xr⟩,xk,⟨aa,an,ac⟩,⟨ta,tn,tc⟩,⟨sa,sn,sc⟩⟩:=x
  simp only[Nd.id,Nd.kind,Nd.attrs,Nd.text,Nd.kids] at e1 e2 ha hp hk
  subst e1 e2
  rw[txN] at hbig ⊢
  exact Z0i B b d l D xn xr xk aa ta sa an ac tn tc sn sc az t vs ks w hbd ha hp hs hk hD ht hB hbig ih
theorem Z0E (n:Nd) (D:Nat→Prop) (x:NdV) (w:World) (hn:Zr D w x n) (hD:∀ k,D k→k<w.heap.size) (ht:Xd w) (hbig:(txN 0 n).length≤35184372088832) :
  Calls Tryz.prog 12 #[x.val] w fun e w'=>e=.returned (.string ⟨(txN 0 n).toArray⟩)∧Below w.heap.size w w':=by
 obtain ⟨⟨xn,xr⟩,xk,⟨aa,an,ac⟩,⟨ta,tn,tc⟩,⟨sa,sn,sc⟩⟩:=x
 unfold NdV.val
 have hB0:Below w.heap.size w ((w.alloc (.cells #[.int .i64 xn,.int .i64 xr,.string xk,.slice aa an ac,.slice ta tn tc,.slice sa sn sc] 28)).alloc (.cells #[.pointer none,.slice none 0 0] 66)):=((Below.refl _ _).alloc (Nat.le_refl _) _).alloc (by simp) _
 have hz1:((w.alloc (.cells #[.int .i64 xn,.int .i64 xr,.string xk,.slice aa an ac,.slice ta tn tc,.slice sa sn sc] 28)).alloc (.cells #[.pointer none,.slice none 0 0] 66)).heap.size=w.heap.size+2:=by simp
 have hbd:BdF w.heap.size (w.heap.size+1) [] ((w.alloc (.cells #[.int .i64 xn,.int .i64 xr,.string xk,.slice aa an ac,.slice ta tn tc,.slice sa sn sc] 28)).alloc (.cells #[.pointer none,.slice none 0 0] 66)):=BdF.fresh (by omega) (by have:=World.alloc_heap_new (w.alloc (.cells #[.int .i64 xn,.int .i64 xr,.string xk,.slice aa an ac,.slice ta tn tc,.slice sa sn sc] 28)) (.cells #[.pointer none,.slice none 0 0] 66);rwa [World.size_alloc] at this)
 have x0:((w.alloc (.cells #[.int .i64 xn,.int .i64 xr,.string xk,.slice aa an ac,.slice ta tn tc,.slice sa sn sc] 28)).alloc (.cells #[.pointer none,.slice none 0 0] 66)).cell? ⟨w.heap.size,0,none⟩=some (.int .i64 xn):=by go_simp
 have x1:((w.alloc (.cells #[.int .i64 xn,.int .i64 xr,.string xk,.slice aa an ac,.slice ta tn tc,.slice sa sn sc] 28)).alloc (.cells #[.pointer none,.slice none 0 0] 66)).cell? ⟨w.heap.size,1,none⟩=some (.int .i64 xr):=by go_simp
 have x2:((w.alloc (.cells #[.int .i64 xn,.int .i64 xr,.string xk,.slice aa an ac,.slice ta tn tc,.slice sa sn sc] 28)).alloc (.cells #[.pointer none,.slice none 0 0] 66)).cell? ⟨w.heap.size,2,none⟩=some (.string xk):=by go_simp
 have x3:((w.alloc (.cells #[.int .i64 xn,.int .i64 xr,.string xk,.slice aa an ac,.slice ta tn tc,.slice sa sn sc] 28)).alloc (.cells #[.pointer none,.slice none 0 0] 66)).cell? ⟨w.heap.size,3,none⟩=some (.slice aa an ac):=by go_simp
 have x4:((w.alloc (.cells #[.int .i64 xn,.int .i64 xr,.string xk,.slice aa an ac,.slice ta tn tc,.slice sa sn sc] 28)).alloc (.cells #[.pointer none,.slice none 0 0] 66)).cell? ⟨w.heap.size,4,none⟩=some (.slice ta tn tc):=by go_simp
 have x5:((w.alloc (.cells #[.int .i64 xn,.int .i64 xr,.string xk,.slice aa an ac,.slice ta tn tc,.slice sa sn sc] 28)).alloc (.cells #[.pointer none,.slice none 0 0] 66)).cell? ⟨w.heap.size,5,none⟩=some (.slice sa sn sc):=by go_simp
 have HC:Hid (Calls Tryz.prog 28 #[.pointer (some ⟨w.heap.size+1,0,none⟩),.agg #[.int .i64 xn,.int .i64 xr,.string xk,.slice aa an ac,.slice ta tn tc,.slice sa sn sc],.int .i64 ((0:Nat):Int)] ((w.alloc (.cells #[.int .i64 xn,.int .i64 xr,.string xk,.slice aa an ac,.slice ta tn tc,.slice sa sn sc] 28)).alloc (.cells #[.pointer none,.slice none 0 0] 66)) fun e w'=>Vg w.heap.size (w.heap.size+1) [] (txN 0 n) ((w.alloc (.cells #[.int .i64 xn,.int .i64 xr,.string xk,.slice aa an ac,.slice ta tn tc,.slice sa sn sc] 28)).alloc (.cells #[.pointer none,.slice none 0 0] 66)) e w'):=Jh (Z0X n w.heap.size (w.heap.size+1) 0 [] D ⟨⟨xn,xr⟩,xk,⟨aa,an,ac⟩,⟨ta,tn,tc⟩,⟨sa,sn,sc⟩⟩ _ hbd (hn.belowW hB0) hD (fun W hW=>ht.below (hB0.trans hW)) (by omega) (by simpa using hbig))
 have HB0:=Lib.hid hB0
 have HZ1:=Lib.hid hz1
 clear hB0 hz1 hbd hn hD ht hbig
 go_enter Tryz.func12,Tryz.ntmps12
 go_upto_region 2 with fail
 generalize ((w.alloc (.cells #[.int .i64 xn,.int .i64 xr,.string xk,.slice aa an ac,.slice ta tn tc,.slice sa sn sc] 28)).alloc (.cells #[.pointer none,.slice none 0 0] 66))=w1 at *
 rw[show ((0:Nat):Int)=0 from rfl] at HC
 go_wp2_with fail
 refine HC.out.mono ?_
 rintro e w2 ⟨rfl,g1,g2,-⟩
 rw[List.nil_append] at g1
 have HG:=Jh (And.intro g1 g2)
 clear g1 g2 HC
 generalize hT:txN 0 n=T at *
 have HT:=Lib.hid hT
 clear hT
 go_wp2_with fail
 refine (RL w.heap.size (w.heap.size+1) T w2 HG.out.1 (by have:=HG.out.2.size;have:=HZ1.out;omega)).mono ?_
 rintro e w3 ⟨rfl,-,b3,-⟩
 have HF:=Jh ((HB0.out.trans HG.out.2).trans b3)
 clear b3
 go_wp2_with fail
 go_ret
 exact ⟨by rw[HT.out];rfl,HF.out⟩
end Go.Proofs.YtlgipkemoldckaaGreatDoor
namespace Go.Proofs.YtlgipkemoldckaaGreatDoor
open Go.RowKit
def Yz:List El:=[⟨⟨1,0⟩,0,false⟩,⟨⟨2,0⟩,97,false⟩]
theorem Qb:ZW Yz=[⟨⟨0,0⟩,0,0⟩,⟨⟨1,0⟩,1,2⟩]:=by rfl
theorem Q4:Xx Yz []=[]:=by
 rw[Xx,Qb]
 simp only[List.head?_cons,Option.elim]
 rw[Y9,if_neg (by simp[Yz])]
 rfl
theorem RW:XJ Yz:=by
 unfold XJ Yz
 refine List.pairwise_cons.2 ⟨fun y hy=>?_,List.pairwise_singleton _ _⟩
 rw[List.mem_singleton.1 hy]
 decide
abbrev noH:Zi:=fun _=>none
theorem Z3o:Zm noH []:=⟨fun c=>by simp[noH],List.Pairwise.nil⟩
theorem Z1t:ZV noH:=fun k c h=>by simp[noH] at h
theorem Z2v:XA noH:=fun u=>⟨0,rfl⟩
theorem U4 (s:St):X2 Yz s=true↔s=⟨1,0⟩:=by
 rw[WY]
 constructor
 ·rintro ⟨x,hx,hb,rfl⟩
  simp only[Yz,List.mem_cons,List.not_mem_nil,or_false] at hx
  rcases hx with rfl|rfl
  ·rfl
  ·simp[Yb] at hb
 ·rintro rfl
  exact ⟨⟨⟨1,0⟩,0,false⟩,by simp[Yz],by decide,rfl⟩
theorem TO (s:St):Y2 Yz noH [] s=if s=⟨1,0⟩ then some (ZD ⟨1,0⟩) else none:=by
 by_cases h:s=⟨1,0⟩
 ·subst h
  rw[if_pos rfl,V3 rfl ⟨by decide,.inl ((U4 _).2 rfl)⟩]
 ·rw[if_neg h]
  refine WG rfl (fun hc=>?_)
  rcases hc.2 with h1|⟨d,hd,_⟩
  ·exact h ((U4 _).1 h1)
  ·simp at hd
theorem Z1f:Zm (Y2 Yz noH []) [ZD ⟨1,0⟩]:=by
 refine ⟨fun c=>?_,List.pairwise_singleton _ _⟩
 rw[TO,List.mem_singleton]
 constructor
 ·rintro rfl;rfl
 ·intro h
  split at h
  ·exact (Option.some.inj h).symm
  ·cases h
theorem Z0l:Yr (Y2 Yz noH []) ⟨0,0⟩=[ZD ⟨1,0⟩]:=by
 refine Tk ⟨fun c=>?_,List.pairwise_singleton _ _⟩
 rw[TO,List.mem_singleton]
 constructor
 ·rintro rfl;exact ⟨rfl,rfl⟩
 ·rintro ⟨h,_⟩
  split at h
  ·exact (Option.some.inj h).symm
  ·cases h
theorem Z21 (rg:St→List Atr) (n:Nat):((Ye Yz [] rg noH []).tree (Xx Yz []) (n+1)).kids=[(Ye Yz [] rg noH []).nd ⟨1,0⟩ ((Ye Yz [] rg noH []).row n ⟨1,0⟩)]:=by
 rw[Vw.tree,Q4,if_pos rfl,List.nil_append,Nd.kids,Vw.row_succ]
 rw[show (Ye Yz [] rg noH []).H=Y2 Yz noH [] from rfl,Z0l,List.flatMap_cons,List.flatMap_nil,List.append_nil,Vw.one]
 rw[if_pos (show (Ye Yz [] rg noH []).live (ZD ⟨1,0⟩).block=true from (U4 _).2 rfl)]
 rfl
def Z0d:ByteArray:=⟨#[100,111,99]⟩
theorem Z2T:txN 0 (.mk ⟨0,0⟩ Z0d [] [] [])=[100,111,99,10]:=by
 simp[txN,WS,idL,txK,ByteArray.toList_eq,Z0d]
theorem Z1k (w:World) (ht:Xd w):Calls Tryz.prog 11 #[] w fun e w'=>e=.returned (.bool true)∧Below w.heap.size w w':=by
 have hB0:Below w.heap.size w (w.alloc (.cells #[.int .i64 1,.int .i64 0,.int .i64 0,.bool false,.int .i64 2,.int .i64 0,.int .i64 97,.bool false] 46)):=(Below.refl _ _).alloc (Nat.le_refl _) _
 have hsl:Z4 El.cells 4 (w.alloc (.cells #[.int .i64 1,.int .i64 0,.int .i64 0,.bool false,.int .i64 2,.int .i64 0,.int .i64 97,.bool false] 46)) (.slice (some ⟨w.heap.size,0,none⟩) Yz.length 2) Yz:=by
  refine ⟨some ⟨w.heap.size,0,none⟩,2,rfl,by decide,by decide,fun _=>⟨w.heap.size,0,rfl,fun i x hi j u hj=>?_⟩⟩
  have hh:=World.alloc_heap_new w (.cells #[.int .i64 1,.int .i64 0,.int .i64 0,.bool false,.int .i64 2,.int .i64 0,.int .i64 97,.bool false] 46)
  rw[Lib.cell_of_heap hh]
  match i,hi with
  | 0,hi =>
   cases hi
   match j,hj with
   | 0,hj=>exact hj
   | 1,hj=>exact hj
   | 2,hj=>exact hj
   | 3,hj=>exact hj
   | j+4,hj=>simp[El.cells] at hj
  | 1,hi =>
   cases hi
   match j,hj with
   | 0,hj=>exact hj
   | 1,hj=>exact hj
   | 2,hj=>exact hj
   | 3,hj=>exact hj
   | j+4,hj=>simp[El.cells] at hj
  | i+2,hi=>simp[Yz] at hi
 have HC:=Jh (Sm (some ⟨w.heap.size,0,none⟩) none none none 2 0 0 Yz [] [] (fun _=>[]) noH _ hsl (by decide) RW ⟨none,0,rfl,Nat.le_refl _,Nat.zero_le _,fun h=>absurd rfl h⟩ (by decide) Z3o Z1t Z2v rfl
  ⟨none,0,rfl,Nat.le_refl _,Nat.zero_le _,fun h=>absurd rfl h⟩ (by decide) (fun W' _ u=>(Z2I u.n u.r W').mono fun e w' ⟨he,hb⟩=>⟨_,he,Own.nil,by simp,hb⟩))
 have HB0:=Lib.hid hB0
 have HT:=Lib.hid ht
 clear hB0 hsl ht
 go_enter Tryz.func11,Tryz.ntmps11
 go_wp2_with fail
 generalize w.alloc (.cells #[.int .i64 1,.int .i64 0,.int .i64 0,.bool false,.int .i64 2,.int .i64 0,.int .i64 97,.bool false] 46)=w1 at *
 refine HC.out.mono ?_
 rintro e w2 ⟨x,n,rfl,hn,hnd,b2⟩
 have hn2:=hn _ Z1f
 obtain ⟨n,rfl⟩:∃ m,n=m+1:=⟨n - 1,by simp at hn2;omega⟩
 obtain ⟨-,-,-,-,vs,hsv,hvk⟩:=hnd.parts
 rw[Z21] at hvk
 obtain ⟨y,rfl⟩:∃ y,vs=[y]:=by
  have:=hvk.1
  match vs,this with
  | [y],_=>exact ⟨y,rfl⟩
 have hy:=(hvk.2 0 y _ rfl rfl).parts.1
 obtain ⟨⟨xn,xr⟩,xk,⟨aa,an,ac⟩,⟨ta,tn,tc⟩,⟨sa,sn,sc⟩⟩:=x
 obtain ⟨q,o,c,e5,u0,u1,-,-,-,-⟩:=hsv.node6 (k:=0) rfl
 injection e5 with e5 e6 e7
 have e6:sn=1:=e6
 subst e5 e6 e7
 rw[hy] at u0 u1
 have v0:w2.cell? ⟨q,o,none⟩=some (.int .i64 1):=u0
 have v1:w2.cell? ⟨q,o+1,none⟩=some (.int .i64 0):=u1
 have hB2:=HB0.out.trans (b2.mono HB0.out.size)
 have hB3:=hB2.alloc (by have:=hB2.size;omega) (.cells #[.int .i64 xn,.int .i64 xr,.string xk,.slice aa an ac,.slice ta tn tc,.slice (some ⟨q,o,none⟩) 1 sc] 28)
 replace v0:=Z1 v0 (.cells #[.int .i64 xn,.int .i64 xr,.string xk,.slice aa an ac,.slice ta tn tc,.slice (some ⟨q,o,none⟩) 1 sc] 28)
 replace v1:=Z1 v1 (.cells #[.int .i64 xn,.int .i64 xr,.string xk,.slice aa an ac,.slice ta tn tc,.slice (some ⟨q,o,none⟩) 1 sc] 28)
 have x5:(w2.alloc (.cells #[.int .i64 xn,.int .i64 xr,.string xk,.slice aa an ac,.slice ta tn tc,.slice (some ⟨q,o,none⟩) 1 sc] 28)).cell? ⟨w2.heap.size,5,none⟩=some (.slice (some ⟨q,o,none⟩) 1 sc):=by go_simp
 have HB3:=Lib.hid hB3
 have hrd:∀ W,Below w.heap.size w W→Calls Tryz.prog 12 #[.agg #[.int .i64 0,.int .i64 0,.string ⟨#[100,111,99]⟩,.slice none 0 0,.slice none 0 0,.slice none 0 0]] W fun e w'=>e=.returned (.string ⟨#[100,111,99,10]⟩)∧Below W.heap.size W w':=fun W hW=>by
  have hnod:Zr (fun _=>False) W ⟨⟨0,0⟩,Z0d,Z2,Z2,Z2⟩ (.mk ⟨0,0⟩ Z0d [] [] []):=Zr.make rfl rfl Yn Vq Yn Zb.nil
  have:=Z0E _ _ _ W hnod (fun _ h=>h.elim) (HT.out.below hW) (by rw[Z2T];simp)
  rw[Z2T] at this
  exact this
 have HR:=Lib.hid hrd
 clear hrd u0 u1 hB2 hB3 hy hvk hsv hnd hn hn2 b2
 go_upto_region 2 with fail
 generalize w2.alloc (.cells #[.int .i64 xn,.int .i64 xr,.string xk,.slice aa an ac,.slice ta tn tc,.slice (some ⟨q,o,none⟩) 1 sc] 28)=w3 at *
 go_wp2_with fail
 refine (HR.out w3 HB3.out).mono ?_
 rintro e w4 ⟨rfl,b4⟩
 have HB4:=Jh (HB3.out.trans (b4.mono HB3.out.size))
 clear b4
 go_wp2_with fail
 go_ret
 exact ⟨rfl,HB4.out⟩
theorem Qm (v:Value) (l:List El) (mv:List RMv) (ws:List Za) (ms:List OpD) (w:World) (hm:Z1U w v l mv ws ms) (ht:Xd w) :
  Calls Tryz.prog 5 #[v] w fun e w'=>e=.returned (.bool true)∧Below w.heap.size w w':=by
 obtain ⟨⟨a0,n0,c0⟩,⟨a1,n1,c1⟩,⟨a2,n2,c2⟩,⟨a3,n3,c3⟩,rfl,h0,h1,h2,h3⟩:=hm.ex
 simp only at h0 h1 h2 h3
 have e0:=h0.len
 have e1:=h1.len
 have e2:=h2.len
 have e3:=h3.len
 have hB0:Below w.heap.size w (w.alloc (.cells #[.slice a0 n0 c0,.slice a1 n1 c1,.slice a2 n2 c2,.slice a3 n3 c3] 39)):=(Below.refl _ _).alloc (Nat.le_refl _) _
 have hz1:(w.alloc (.cells #[.slice a0 n0 c0,.slice a1 n1 c1,.slice a2 n2 c2,.slice a3 n3 c3] 39)).heap.size=w.heap.size+1:=by simp
 have x0:(w.alloc (.cells #[.slice a0 n0 c0,.slice a1 n1 c1,.slice a2 n2 c2,.slice a3 n3 c3] 39)).cell? ⟨w.heap.size,0,none⟩=some (.slice a0 n0 c0):=by go_simp
 have x1:(w.alloc (.cells #[.slice a0 n0 c0,.slice a1 n1 c1,.slice a2 n2 c2,.slice a3 n3 c3] 39)).cell? ⟨w.heap.size,1,none⟩=some (.slice a1 n1 c1):=by go_simp
 have x2:(w.alloc (.cells #[.slice a0 n0 c0,.slice a1 n1 c1,.slice a2 n2 c2,.slice a3 n3 c3] 39)).cell? ⟨w.heap.size,2,none⟩=some (.slice a2 n2 c2):=by go_simp
 have x3:(w.alloc (.cells #[.slice a0 n0 c0,.slice a1 n1 c1,.slice a2 n2 c2,.slice a3 n3 c3] 39)).cell? ⟨w.heap.size,3,none⟩=some (.slice a3 n3 c3):=by go_simp
 have HIN:=Jh (And.intro h0 (And.intro h1 (And.intro h2 h3)))
 have HLN:=Jh (And.intro e0 (And.intro e1 (And.intro e2 e3)))
 have HB0:=Lib.hid hB0
 have HT:=Lib.hid ht
 have HZ1:=Lib.hid hz1
 have HASK:=Jh (Z1m a0 a1 a2 a3 n0 n1 n2 n3 c0 c1 c2 c3 l (w.alloc (.cells #[.slice a0 n0 c0,.slice a1 n1 c1,.slice a2 n2 c2,.slice a3 n3 c3] 39)) (h0.below hB0) (by omega) (by omega) (by omega))
 have HAL:Hid (∀ W,Below w.heap.size w W→Calls Tryz.prog 11 #[] W fun e w'=>e=.returned (.bool true)∧Below W.heap.size W w'):=Jh (fun W hW=>Z1k W (ht.below hW))
 clear h0 h1 h2 h3 e0 e1 e2 e3 hB0 hz1 ht hm
 go_enter Tryz.func5,Tryz.ntmps5
 go_upto_region 1 with fail
 generalize (w.alloc (.cells #[.slice a0 n0 c0,.slice a1 n1 c1,.slice a2 n2 c2,.slice a3 n3 c3] 39))=w1 at *
 go_wp2_with fail
 refine HASK.out.mono ?_
 rintro e w2 ⟨r,rfl,hr,b2⟩
 have HB2:=Jh (HB0.out.trans (b2.mono HB0.out.size))
 have HR:=Lib.hid hr
 replace x0:=Z0 b2 x0
 replace x1:=Z0 b2 x1
 replace x2:=Z0 b2 x2
 replace x3:=Z0 b2 x3
 clear hr HASK b2
 cases r with
 | false =>
  go_wp2_with fail
  refine (HAL.out w2 HB2.out).mono ?_
  rintro e w3 ⟨rfl,b3⟩
  have HB3:=Jh (HB2.out.trans (b3.mono HB2.out.size))
  clear b3
  go_wp2_with fail
  go_ret
  exact ⟨rfl,HB3.out⟩
 | true =>
  have HOK:=Jh (HR.out rfl)
  have HLE:Hid (l.length≤60∧mv.length≤60∧ws.length≤60∧ms.length≤30):=Lib.hid ⟨HOK.out.el,by rw[←HLN.out.2.1.1];exact HOK.out.mv,by rw[←HLN.out.2.2.1.1];exact HOK.out.ws,by rw[←HLN.out.2.2.2.1];exact HOK.out.ms⟩
  have HBU:=Jh (Z1n a0 a1 a2 a3 n0 n1 n2 n3 c0 c1 c2 c3 l mv ws ms w2 (HIN.out.1.below HB2.out) (HIN.out.2.1.below HB2.out) (HIN.out.2.2.1.below HB2.out) (HIN.out.2.2.2.below HB2.out) HLE.out.1 HOK.out.unlike HLE.out.2.1 HLE.out.2.2.1 HLE.out.2.2.2)
  go_wp2_with fail
  refine HBU.out.mono ?_
  rintro e w3 ⟨A,D,N,⟨⟨xn,xr⟩,xk,⟨xa,xb,xc⟩,⟨xd,xe,xf⟩,⟨xg,xh,xi⟩⟩,⟨⟨yn,yr⟩,yk,⟨ya,yb,yc⟩,⟨yd,ye,yf⟩,⟨yg,yh,yi⟩⟩,rfl,hA,hD,hN,hx,hy,b3⟩
  simp only[NdV.val]
  have hz3:=b3.size
  replace x0:=Z1 (Z1 (Z0 b3 x0) (.cells #[.int .i64 xn,.int .i64 xr,.string xk,.slice xa xb xc,.slice xd xe xf,.slice xg xh xi] 28)) (.cells #[.int .i64 yn,.int .i64 yr,.string yk,.slice ya yb yc,.slice yd ye yf,.slice yg yh yi] 28)
  replace x1:=Z1 (Z1 (Z0 b3 x1) (.cells #[.int .i64 xn,.int .i64 xr,.string xk,.slice xa xb xc,.slice xd xe xf,.slice xg xh xi] 28)) (.cells #[.int .i64 yn,.int .i64 yr,.string yk,.slice ya yb yc,.slice yd ye yf,.slice yg yh yi] 28)
  replace x2:=Z1 (Z1 (Z0 b3 x2) (.cells #[.int .i64 xn,.int .i64 xr,.string xk,.slice xa xb xc,.slice xd xe xf,.slice xg xh xi] 28)) (.cells #[.int .i64 yn,.int .i64 yr,.string yk,.slice ya yb yc,.slice yd ye yf,.slice yg yh yi] 28)
  replace x3:=Z1 (Z1 (Z0 b3 x3) (.cells #[.int .i64 xn,.int .i64 xr,.string xk,.slice xa xb xc,.slice xd xe xf,.slice xg xh xi] 28)) (.cells #[.int .i64 yn,.int .i64 yr,.string yk,.slice ya yb yc,.slice yd ye yf,.slice yg yh yi] 28)
  have p0:((w3.alloc (.cells #[.int .i64 xn,.int .i64 xr,.string xk,.slice xa xb xc,.slice xd xe xf,.slice xg xh xi] 28)).alloc (.cells #[.int .i64 yn,.int .i64 yr,.string yk,.slice ya yb yc,.slice yd ye yf,.slice yg yh yi] 28)).cell? ⟨w3.heap.size,0,none⟩=some (.int .i64 xn):=by go_simp
  have q0:((w3.alloc (.cells #[.int .i64 xn,.int .i64 xr,.string xk,.slice xa xb xc,.slice xd xe xf,.slice xg xh xi] 28)).alloc (.cells #[.int .i64 yn,.int .i64 yr,.string yk,.slice ya yb yc,.slice yd ye yf,.slice yg yh yi] 28)).cell? ⟨w3.heap.size+1,0,none⟩=some (.int .i64 yn):=by go_simp
  have p1:((w3.alloc (.cells #[.int .i64 xn,.int .i64 xr,.string xk,.slice xa xb xc,.slice xd xe xf,.slice xg xh xi] 28)).alloc (.cells #[.int .i64 yn,.int .i64 yr,.string yk,.slice ya yb yc,.slice yd ye yf,.slice yg yh yi] 28)).cell? ⟨w3.heap.size,1,none⟩=some (.int .i64 xr):=by go_simp
  have q1:((w3.alloc (.cells #[.int .i64 xn,.int .i64 xr,.string xk,.slice xa xb xc,.slice xd xe xf,.slice xg xh xi] 28)).alloc (.cells #[.int .i64 yn,.int .i64 yr,.string yk,.slice ya yb yc,.slice yd ye yf,.slice yg yh yi] 28)).cell? ⟨w3.heap.size+1,1,none⟩=some (.int .i64 yr):=by go_simp
  have p2:((w3.alloc (.cells #[.int .i64 xn,.int .i64 xr,.string xk,.slice xa xb xc,.slice xd xe xf,.slice xg xh xi] 28)).alloc (.cells #[.int .i64 yn,.int .i64 yr,.string yk,.slice ya yb yc,.slice yd ye yf,.slice yg yh yi] 28)).cell? ⟨w3.heap.size,2,none⟩=some (.string xk):=by go_simp
  have q2:((w3.alloc (.cells #[.int .i64 xn,.int .i64 xr,.string xk,.slice xa xb xc,.slice xd xe xf,.slice xg xh xi] 28)).alloc (.cells #[.int .i64 yn,.int .i64 yr,.string yk,.slice ya yb yc,.slice yd ye yf,.slice yg yh yi] 28)).cell? ⟨w3.heap.size+1,2,none⟩=some (.string yk):=by go_simp
  have p3:((w3.alloc (.cells #[.int .i64 xn,.int .i64 xr,.string xk,.slice xa xb xc,.slice xd xe xf,.slice xg xh xi] 28)).alloc (.cells #[.int .i64 yn,.int .i64 yr,.string yk,.slice ya yb yc,.slice yd ye yf,.slice yg yh yi] 28)).cell? ⟨w3.heap.size,3,none⟩=some (.slice xa xb xc):=by go_simp
  have q3:((w3.alloc (.cells #[.int .i64 xn,.int .i64 xr,.string xk,.slice xa xb xc,.slice xd xe xf,.slice xg xh xi] 28)).alloc (.cells #[.int .i64 yn,.int .i64 yr,.string yk,.slice ya yb yc,.slice yd ye yf,.slice yg yh yi] 28)).cell? ⟨w3.heap.size+1,3,none⟩=some (.slice ya yb yc):=by go_simp
  have p4:((w3.alloc (.cells #[.int .i64 xn,.int .i64 xr,.string xk,.slice xa xb xc,.slice xd xe xf,.slice xg xh xi] 28)).alloc (.cells #[.int .i64 yn,.int .i64 yr,.string yk,.slice ya yb yc,.slice yd ye yf,.slice yg yh yi] 28)).cell? ⟨w3.heap.size,4,none⟩=some (.slice xd xe xf):=by go_simp
  have q4:((w3.alloc (.cells #[.int .i64 xn,.int .i64 xr,.string xk,.slice xa xb xc,.slice xd xe xf,.slice xg xh xi] 28)).alloc (.cells #[.int .i64 yn,.int .i64 yr,.string yk,.slice ya yb yc,.slice yd ye yf,.slice yg yh yi] 28)).cell? ⟨w3.heap.size+1,4,none⟩=some (.slice yd ye yf):=by go_simp
  have p5:((w3.alloc (.cells #[.int .i64 xn,.int .i64 xr,.string xk,.slice xa xb xc,.slice xd xe xf,.slice xg xh xi] 28)).alloc (.cells #[.int .i64 yn,.int .i64 yr,.string yk,.slice ya yb yc,.slice yd ye yf,.slice yg yh yi] 28)).cell? ⟨w3.heap.size,5,none⟩=some (.slice xg xh xi):=by go_simp
  have q5:((w3.alloc (.cells #[.int .i64 xn,.int .i64 xr,.string xk,.slice xa xb xc,.slice xd xe xf,.slice xg xh xi] 28)).alloc (.cells #[.int .i64 yn,.int .i64 yr,.string yk,.slice ya yb yc,.slice yd ye yf,.slice yg yh yi] 28)).cell? ⟨w3.heap.size+1,5,none⟩=some (.slice yg yh yi):=by go_simp
  have hb4:Below w3.heap.size w3 ((w3.alloc (.cells #[.int .i64 xn,.int .i64 xr,.string xk,.slice xa xb xc,.slice xd xe xf,.slice xg xh xi] 28)).alloc (.cells #[.int .i64 yn,.int .i64 yr,.string yk,.slice ya yb yc,.slice yd ye yf,.slice yg yh yi] 28)):=((Below.refl _ _).alloc (Nat.le_refl _) _).alloc (by simp) _
  have HB4:=Jh ((HB2.out.trans (b3.mono HB2.out.size)).trans (hb4.mono (by have:=HB2.out.size;omega)))
  have HX:=Jh (hx.belowW hb4)
  have HY:=Jh (hy.belowW hb4)
  have HTR:=Jh (And.intro hA (And.intro hD hN))
  skip
  clear b3 hb4 hx hy hA hD hN hz3 HBU
  go_upto_region 5 with fail
  generalize ((w3.alloc (.cells #[.int .i64 xn,.int .i64 xr,.string xk,.slice xa xb xc,.slice xd xe xf,.slice xg xh xi] 28)).alloc (.cells #[.int .i64 yn,.int .i64 yr,.string yk,.slice ya yb yc,.slice yd ye yf,.slice yg yh yi] 28))=w4 at *
  have HSA:=Jh (Z02 (Vf l mv ws ms A N) (Vf l mv ws ms A N) true _ _ ⟨⟨xn,xr⟩,xk,⟨xa,xb,xc⟩,⟨xd,xe,xf⟩,⟨xg,xh,xi⟩⟩ ⟨⟨yn,yr⟩,yk,⟨ya,yb,yc⟩,⟨yd,ye,yf⟩,⟨yg,yh,yi⟩⟩ w4 (by simp) HX.out HY.out)
  simp only[NdV.val] at HSA
  go_wp2_with fail
  refine HSA.out.mono ?_
  rintro e w5 ⟨rfl,b5⟩
  have HB5:=Jh (HB4.out.trans (b5.mono HB4.out.size))
  clear b5
  go_wp2_with fail
  refine (HAL.out w5 HB5.out).mono ?_
  rintro e w6 ⟨rfl,b9⟩
  have HB9:=Jh (HB5.out.trans (b9.mono HB5.out.size))
  clear b9
  go_wp2_with fail
  go_ret
  exact ⟨rfl,HB9.out⟩
end Go.Proofs.YtlgipkemoldckaaGreatDoor
namespace Go.Proofs.YtlgipkemoldckaaGreatDoor
open Go.ChangeShapes Go.WideShapes Go.ChangeAt Go.RowKit
def Xh : List (String × DataW Unit) := [("math/bits.deBruijn32tab", Rows.laid_math_bits_deBruijn32tab), ("math/bits.deBruijn64tab", Rows.laid_math_bits_deBruijn64tab), ("internal/strconv.uint64pow10", Rows.laid_internal_strconv_uint64pow10)]
theorem Z2s : (Xh.filter fun x => x.1 == "internal/strconv.uint64pow10") = [("internal/strconv.uint64pow10", Lib.tabData .u64 Lib.pow10Tab)] := by kernel_rfl
theorem Tt (W:World):laidMetH Tryz.prog Xh W=laidMet Tryz.prog Xh W:=by
 first|exact laidMetH_plain _ _ _ (by kernel_rfl)|exact Go.laidMetH_plain _ _ _ (by kernel_rfl)|exact MakeChecks.laidMetH_plain _ _ _ (by kernel_rfl)|rfl
theorem Qg {W:World} (h:laidMetH Tryz.prog Xh W):Xd W:=by
 rw[Tt] at h
 have := h.filter (fun x => x.1 == "internal/strconv.uint64pow10")
 rw[Z2s] at this
 exact Lib.tabIs_of_head (g:=1) (by kernel_rfl) (t:=238) (by kernel_rfl) Tryz.underlying238 (by kernel_rfl) (by kernel_rfl) (by kernel_rfl) this
theorem Tryz.laidOut:laidOutB Tryz.prog=true:=by kernel_rfl
noncomputable def TP (os:Os):World:=(World.holding Tryz.prog os ⟨#[],#[],[]⟩).layVars Tryz.prog Xh
theorem Z1H (os:Os):(TP os).os=os:=World.layVars_os _ _ _
theorem Z0Q (os:Os) (args:Array Value):laidMetH Tryz.prog Xh ((TP os).forCall (fun _ _=>0) ⟨#[],args,[]⟩).memory:=by
 rw[Tt]
 have e1:(Xh.filter fun x=>(Xh.map (·.1)).contains x.1)=Xh:=List.filter_eq_self.2 fun x hx=>List.contains_iff_mem.2 (List.mem_map.2 ⟨x,hx,rfl⟩)
 have e2:(Xh.filter fun x=>!(Xh.map (·.1)).contains x.1)=[]:=List.filter_eq_nil_iff.2 fun x hx=>by rw[List.contains_iff_mem.2 (List.mem_map.2 ⟨x,hx,rfl⟩)];simp
 have h:laidMet Tryz.prog Xh (TP os):=laidMet_layVars (w0:=World.holding Tryz.prog os ⟨#[],#[],[]⟩) (Xh.map (·.1)) [] (by rw[e1];rfl) (by rw[e1];kernel_rfl) (by rw[e1];kernel_rfl) (by rw[e2];exact LaidIn.none)
 exact h.of_heap (by simp[World.memory,World.forCall,Input.heap])
end Go.Proofs.YtlgipkemoldckaaGreatDoor
namespace Go.Proofs.YtlgipkemoldckaaGreatDoor
open Go Go.ChangeShapes Go.WideShapes Go.ChangeAt Go.RowKit
theorem UY (os:Os) (started:os.Started) (H:Type) (enc:TypeId × Value→H) :
  ReturnsInHanded {} Tryz.checked os 5 .any (fun w args=>(Rows.viewBuildsSpec.pre enc Tryz.prog Tryz.f5 [] false w args∧laidMetH Tryz.prog Xh w)∧sizedMet enc Tryz.prog Tryz.f5 (OpenSpec.ofChange Rows.viewBuildsSpec) false w args)
   (Rows.viewBuildsSpec.post enc Tryz.prog Tryz.f5 false true false false):=by
 refine returnsInHanded_of_change_and (C:=Tryz.checked) (X:=fun w _=>laidMetH Tryz.prog Xh w) (fun _ _ _ hh h=>h.of_heap hh) Tryz.own started (by kernel_rfl) Tryz.func5
  (ChangeSpec.witness_shaped (enc:=enc) (C:=Tryz.checked) (os:=os) (X:=fun w _=>laidMetH Tryz.prog Xh w) false (TP os) #[.agg #[.slice none 0 0,.slice none 0 0,.slice none 0 0,.slice none 0 0]] 8 (Z1H os) (World.shaped_of_ZipB (by kernel_rfl) (by kernel_rfl)) (by kernel_rfl) (by kernel_rfl) (by kernel_rfl) (Z0Q os _)) ?_
 intro W base args ds gs before hval0 hW _ _ hL _
 have hval:∀ (j:Nat) t v,Tryz.f5.params[j]?=some t→args[j]?=some v→Value.okWide Tryz.prog W .any base t v:=hval0
 have hW':=hW
 obtain ⟨p,q,hA0,hV,rfl,hfz,hnd⟩:=hW
 have hA:DataW.TrodAll enc Tryz.prog W 0 (fun _=>true) true Tryz.f5.params.toList args.toList ds p:=hA0
 rw[Tryz.params5] at hA hval
 obtain ⟨v0,vs0,d0,ds0,p0,q0,hargs,rfl,rfl,h0,r0⟩:=trodAll_cons hA
 obtain ⟨rfl,rfl,rfl⟩:=trodAll_nil r0
 obtain rfl:args=#[v0]:=by cases args;simp_all
 obtain ⟨rfl,rfl⟩:=trodVars_none hV
 have k0:=h0
 have lt0:∀ x∈p0,x.block<W.heap.size:=by obtain ⟨m,hm⟩:=k0;exact DataW.trod_lt m _ _ _ hm
 obtain ⟨l,mv,ws,ms,hm0⟩:=Z14 (hval 0 39 v0 rfl rfl) h0
 clear hA0 hval0
 refine (Qm v0 l mv ws ms W hm0 (Qg hL)).mono fun e W' ⟨he,bel⟩=>?_
 subst he
 exact ⟨_,rfl,_,_,_,[],_,[],hW',trodAll_mk1 (shut_bool Tryz.underlying4 _),(trodAll_cons_mk (Below.trod Tryz.laidOut (by kernel_rfl) (of_decide_eq_true (by kernel_rfl)) k0 bel lt0) trodAll_mk0),rfl,bel.frame _,fun h=>by cases h⟩
theorem SV:(Rows.viewBuildsRow.inPlace == Tryz.prog.inPlace 5)=true:=by kernel_rfl
theorem R0:(Rows.viewBuildsRow.unfollowed == Tryz.prog.unfollowed 5)=true:=by kernel_rfl
theorem SQ:(Rows.viewBuildsRow.recurses == Tryz.prog.recurses 5)=true:=by kernel_rfl
theorem SY:(Rows.viewBuildsRow.named == Tryz.prog.varsNamed 5)=true:=by kernel_rfl
theorem TH:joinedFacts Tryz.prog 5 Tryz.f5 Rows.viewBuildsSpec Rows.viewBuildsRow=true:=by
 unfold joinedFacts
 rw[SV,R0,SQ,SY]
 kernel_rfl
theorem Tm:Rows.ViewBuildsSaid :=
 OpenClaim.holds_of_wide 5 Tryz.f5 rfl rfl rfl rfl rfl rfl rfl ⟨rfl,rfl,rfl,rfl,rfl⟩ rfl rfl rfl rfl rfl (by kernel_rfl) Tryz.func5 TH
  (of_decide_eq_true (by kernel_rfl)) (by unfold Func.isWrapper;first|(rw[if_pos (by decide +kernel)];kernel_rfl)|(rw[if_neg (by decide +kernel)];exact ⟨rfl,rfl⟩))
  (fun os started H enc _=>UY os started H enc)
theorem viewBuilds_card:Rows.ViewBuildsCardSaid :=
 Claim7.holds_tied_plain_at .later [] [.data,.data,.data] true Rows.viewBuildsCard.stood.harness false
  Tm (fun _ h=>by cases h) (by kernel_rfl) (fun _ h=>by cases h) viewBuilds_row_tie rfl ⟨rfl,rfl⟩ (by kernel_rfl) rfl
  (fun f fn hf hfn=>by
   obtain rfl : f = 5 := Option.some.inj ((show Tryz.prog.funcNamed "stemma/stemmalaw20.ViewBuilds" = some 5 by kernel_rfl).symm.trans hf) |>.symm
   obtain rfl:fn=Tryz.f5:=(Option.some.inj (Tryz.func5.symm.trans hfn)).symm
   exact ⟨by kernel_rfl,fun j t ht=>by
    rw[Tryz.params5] at ht
    have hm:t∈[39]:=by simpa using Array.mem_of_getElem? ht
    have hall:([39].all fun u=>!Tryz.prog.wantsStandIn u)=true:=by kernel_rfl
    exact (show Tryz.prog.wantsStandIn t=false by simpa using List.all_eq_true.1 hall t hm)⟩)
  (by kernel_rfl)
#print axioms viewBuilds_card
end Go.Proofs.YtlgipkemoldckaaGreatDoor
