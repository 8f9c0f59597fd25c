/- ViewBuilds, part 8 of what the proof leans on (made short by a program). -/
import Derived.Test.YtlgipkemoldckaaGreatDoorVbZ7
import Derived.Shelf.Strings.BuilderK
import Derived.Shelf.Strings.Repeat
import Derived.Shelf.Strconv.Itoa3
import Derived.Lib.AppendIntMem
import Derived.Lib.ItoaLen
set_option linter.unusedSimpArgs false
set_option linter.unusedVariables false
set_option linter.unusedSectionVars false
set_option maxRecDepth 20000
set_option maxHeartbeats 30000000
namespace Go.Proofs.YtlgipkemoldckaaGreatDoor
open Go.RowKit
theorem QL (va vk vb:Option Addr) (ca ck cb gp:Nat) (l:List El) (A:List Ch) (ms:List OpD) (rg:St→List Atr) (h:Zi) (w:World)
  (hl:Z4 El.cells 4 w (.slice va l.length ca) l) (hln:l.length≤300) (hul:XJ l) (hv:Z4 Ch.cells 5 w (.slice vk A.length ck) A) (hAl:A.length≤300) (hA:Zm h A) (hk:ZV h) (ha:XA h) (h0:h ⟨0,0⟩=none)
  (hm:Z4 OpD.cells 26 w (.slice vb ms.length cb) ms) (hml:ms.length≤1000)
  (hrg:∀ W',Below w.heap.size w W'→∀ u:St,Calls Tryz.prog 108 #[.pointer (some ⟨gp,0,none⟩),.agg #[.int .i64 u.n,.int .i64 u.r]] W' fun e w'=>Wk W' (rg u) e w') :
  Calls Tryz.prog 37 #[.slice va l.length ca,.slice vk A.length ck,.pointer (some ⟨gp,0,none⟩),.slice vb ms.length cb] w fun e w'=>∃ (x:NdV) (n:Nat),e=.returned (.agg #[.int .i64 x.id.n,.int .i64 x.id.r,.string x.kind,.slice x.attrs.a x.attrs.n x.attrs.cap,.slice x.text.a x.text.n x.text.cap,.slice x.kids.a x.kids.n x.kids.cap]) ∧
   (∀ A':List Ch,Zm (Y2 l h A) A'→A'.length+1≤n)∧Zr (fun k=>w.heap.size≤k) w' x ((Ye l ms rg h A).tree (Xx l ms) n)∧Below w.heap.size w w':=by
 have hb1:Below w.heap.size w (w.alloc (.cells #[.int .i64 0,.int .i64 0,.string ⟨#[]⟩,.slice none 0 0,.slice none 0 0,.slice none 0 0] 28)):=(Below.refl _ _).alloc (Nat.le_refl _) _
 have hrb:NdB (w.alloc (.cells #[.int .i64 0,.int .i64 0,.string ⟨#[]⟩,.slice none 0 0,.slice none 0 0,.slice none 0 0] 28)) w.heap.size ⟨0,0⟩ ⟨#[]⟩ Z2 Z2 Z2:=Xb w
 have hz1:(w.alloc (.cells #[.int .i64 0,.int .i64 0,.string ⟨#[]⟩,.slice none 0 0,.slice none 0 0,.slice none 0 0] 28)).heap.size=w.heap.size+1:=by simp
 have HI0:=Jh (And.intro hl (And.intro hv hm))
 have HHK:=Jh (And.intro hA (And.intro hk (And.intro ha (And.intro h0 hul))))
 have HRG:=Jh (fun W (hW:Below w.heap.size w W)=>hrg W hW)
 have HB1:=Lib.hid hb1
 have HRB:=Lib.hid hrb
 clear hl hv hm hA hk ha h0 hul hrg hb1 hrb
 go_enter Tryz.func37,Tryz.ntmps37
 go_upto_region 1 with fail
 generalize w.alloc (.cells #[.int .i64 0,.int .i64 0,.string ⟨#[]⟩,.slice none 0 0,.slice none 0 0,.slice none 0 0] 28)=w1 at *
 go_wp2_with fail
 refine (QW va vk ca ck l A h w1 (HI0.out.1.below HB1.out) (by omega) (HI0.out.2.1.below HB1.out) (by omega) HHK.out.1 HHK.out.2.1).mono ?_
 rintro e w2 ⟨v2,D,rfl,hown2,hao,hDl,b2⟩
 obtain ⟨a2,c2,rfl,hc2,hm2,-⟩:=hown2.slice (fun _=>rfl)
 go_upto_region 3 with fail
 unfold maxLen at hm2
 have hz2:=b2.size
 have hb5:Below w.heap.size w (w2.alloc (.cells #[.slice va l.length ca,.slice a2 D.length c2,.pointer (some ⟨gp,0,none⟩),.slice vb ms.length cb] 121)):=(HB1.out.trans (b2.mono HB1.out.size)).alloc (by omega) _
 have hrb5:=(HRB.out.ext (Ext.of_below (S:=fun _=>False) b2) (fun f=>f)).ext ((Ext.refl (fun _=>False) w2).alloc (.cells #[.slice va l.length ca,.slice a2 D.length c2,.pointer (some ⟨gp,0,none⟩),.slice vb ms.length cb] 121)) (fun f=>f)
 have hwb5:RwB (w2.alloc (.cells #[.slice va l.length ca,.slice a2 D.length c2,.pointer (some ⟨gp,0,none⟩),.slice vb ms.length cb] 121)) w2.heap.size ⟨va,ca,a2,c2,gp,vb,cb,l,D,ms⟩:=World.alloc_heap_new w2 _
 have hza5:w2.heap.size+1=(w2.alloc (.cells #[.slice va l.length ca,.slice a2 D.length c2,.pointer (some ⟨gp,0,none⟩),.slice vb ms.length cb] 121)).heap.size:=by simp
 have hwis:WIs (w2.alloc (.cells #[.slice va l.length ca,.slice a2 D.length c2,.pointer (some ⟨gp,0,none⟩),.slice vb ms.length cb] 121)) ⟨va,ca,a2,c2,gp,vb,cb,l,D,ms⟩ (Ye l ms rg h A):=⟨HI0.out.1.below hb5,(hown2.alloc _).slice (fun _=>rfl),HI0.out.2.2.below hb5,⟨by show l.length≤990;omega,hml,by show D.length≤1000;omega⟩,hao,Ws HHK.out.2.2.1 HHK.out.2.2.2.1,HHK.out.2.2.2.2,fun W hW u=>HRG.out W (hb5.trans (hW.mono hb5.size)) u,fun u=>rfl,fun u s hs=>by simp only[Ye,hs,Option.elim]⟩
 have HWIS:=Lib.hid hwis
 have HB5:=Lib.hid hb5
 have HRB5:=Lib.hid hrb5
 have HWB5:=Lib.hid hwb5
 have HDD:=Lib.hid hao
 clear hwis hb5 hrb5 hwb5 hown2 hao b2 HRB HRG HB1
 rw[hza5]
 have hwl5:w2.heap.size<(w2.alloc (.cells #[.slice va l.length ca,.slice a2 D.length c2,.pointer (some ⟨gp,0,none⟩),.slice vb ms.length cb] 121)).heap.size:=by omega
 clear hza5
 generalize hw5g:w2.alloc (.cells #[.slice va l.length ca,.slice a2 D.length c2,.pointer (some ⟨gp,0,none⟩),.slice vb ms.length cb] 121)=w5 at *
 clear hw5g
 obtain ⟨wb,hwbe⟩:=Je (w2.heap.size)
 rw[hwbe] at HWB5 hwl5 ⊢
 have hwbl:w.heap.size<wb:=by omega
 clear hwbe hz2
 have hdn:NdB (w5.alloc (.cells #[.int .i64 0,.int .i64 0,.string ⟨#[100,111,99]⟩,.slice none 0 0,.slice none 0 0,.slice none 0 0] 28)) w5.heap.size ⟨0,0⟩ ⟨#[100,111,99]⟩ Z2 Z2 Z2:=World.alloc_heap_new w5 _
 have hb6:Below w5.heap.size w5 (w5.alloc (.cells #[.int .i64 0,.int .i64 0,.string ⟨#[100,111,99]⟩,.slice none 0 0,.slice none 0 0,.slice none 0 0] 28)):=(Below.refl _ _).alloc (Nat.le_refl _) _
 have hz6:(w5.alloc (.cells #[.int .i64 0,.int .i64 0,.string ⟨#[100,111,99]⟩,.slice none 0 0,.slice none 0 0,.slice none 0 0] 28)).heap.size=w5.heap.size+1:=by simp
 generalize w5.alloc (.cells #[.int .i64 0,.int .i64 0,.string ⟨#[100,111,99]⟩,.slice none 0 0,.slice none 0 0,.slice none 0 0] 28)=w6 at *
 have hz6l:w5.heap.size<w6.heap.size:=by omega
 have HDN:=Lib.hid hdn
 have HB6:=Lib.hid hb6
 clear hz6 hdn hb6
 go_wp2_with fail
 refine (Tu _ l w6 (HWIS.out.below HB6.out).el (by omega)).mono ?_
 rintro e wp ⟨up,rfl,hownp,bp⟩
 obtain ⟨n0,R,hP⟩:=Xo l
 rw[hP] at hownp
 rcases hownp.eq_slice with ⟨_,e⟩|⟨gb,cs,rfl,hg1,hg2⟩
 ·cases e
 obtain ⟨_,_,e,hcs1,hcs2,-⟩:=hownp.slice (fun _=>rfl)
 cases e
 unfold maxLen at hcs2
 obtain ⟨ba,oa,ca1,e1,hcs⟩:=(hownp.slice (fun _=>rfl)).spcells (by simp)
 cases e1
 obtain ⟨y0,y1,y2,y3⟩:=hcs 0 _ rfl
 simp only[Nat.zero_mul,Nat.add_zero,Nat.zero_add] at y0 y1 y2 y3
 have y2b:wp.cell? ⟨gb,2,none⟩=some (.int .i64 0):=y2
 have HPR:=Jh (And.intro hP hP)
 have hzp:=bp.size
 have HWP:=Jh ((HWIS.out.below HB6.out).below bp)
 have HBP:=Jh (HB6.out.trans (bp.mono (Nat.le_of_lt hz6l)))
 have HDNP:=Jh (HDN.out.ext (Ext.of_below (S:=fun _=>False) bp) (fun f=>f))
 have hRn:(0:Int)<((R.length+1:Nat):Int):=by omega
 have hlen0:∀ (s:Spn) (r:List Spn),(s :: r).length=r.length+1:=fun _ _=>rfl
 simp only[hlen0] at hcs1 ⊢
 clear hlen0
 clear hownp hP bp hcs y2 HDN HB6
 go_wp2_with fail
 refine (Ta va vb ca cb l ms 0 0 0 n0 wp HWP.out.el HWP.out.op (by omega) hml).mono ?_
 rintro e w7 ⟨q,rfl,hq,b7⟩
 have hfp:Xx l ms=Y9 l ms 0 n0:=by unfold Xx;rw[HPR.out.1];rfl
 rw[←hfp] at hq
 obtain ⟨F0,hF0⟩:=Je (Xx l ms)
 rw[hF0] at hq
 have HF0:=Lib.hid hF0
 obtain ⟨qa,qc,rfl,hq1,hq2⟩:=hq.out.shape
 have HQ:=Lib.hid hq.out.toD
 have hz7:=b7.size
 have HD7:=Jh (HDNP.out.ext (Ext.of_below (S:=fun _=>False) b7) (fun f=>f))
 have HB7:=Jh (HBP.out.trans (b7.mono (by omega)))
 clear hfp hF0 hq b7 y0 y1 y2b y3 hRn HWP HDNP HBP
 obtain ⟨B,hBe⟩:∃ B,B=w7.heap.size:=⟨_,rfl⟩
 have hB1:w5.heap.size<B:=by omega
 have hB2:B≤w7.heap.size:=by omega
 clear hBe
 by_cases hF:F0=[]
 ·subst hF
  simp only[List.length_nil]
  go_upto_region 6 with fail
  have HB8:=Lib.hid HB7.out
  have HND8:=Lib.hid HD7.out
  have HOK8:=Jh (Own.nil:Own NdV.cells 6 28 B w7 Z2.val [])
  have HNS8:=Jh (Zb.nil:Zb (fun j=>w.heap.size<j∧j≠w5.heap.size∧¬ Z2.val.ownBlock=some j) w7 [] [])
  have hlv:([]:List NdV).length≤1:=by first|exact Nat.zero_le _|exact Nat.le_refl _
  generalize w7=w8 at *
  have hz8:=HB8.out.size
  have hrl:=Vw.row_le (V:=Ye l ms rg h A) (n:=D.length+1) (b:=⟨0,0⟩) (m:=0) HDD.out (YI HHK.out.2.2.2.1)
  obtain ⟨-,-,-,-,-,d5,-⟩:=HND8.out.cells
  simp only[Z2] at d5
  have hwb8:=HWB5.out.ext (Ext.of_below (S:=fun _=>False) HB8.out) (fun f=>f)
  obtain ⟨k0,k1,k2,k3⟩:=hwb8.cells
  have HS:Hid (∀ W,Below w8.heap.size w8 W→W.cell? ⟨w5.heap.size,5,none⟩=some (.slice none 0 0)∧W.cell? ⟨wb,0,none⟩=some (.slice va l.length ca)∧W.cell? ⟨wb,1,none⟩=some (.slice a2 D.length c2)∧W.cell? ⟨wb,2,none⟩=some (.pointer (some ⟨gp,0,none⟩))∧W.cell? ⟨wb,3,none⟩=some (.slice vb ms.length cb)):=Jh (fun W hW=>⟨Z0 hW d5,Z0 hW k0,Z0 hW k1,Z0 hW k2,Z0 hW k3⟩)
  have hb8d:Below w8.heap.size w8 w8.drew:=(Below.refl _ _).drew
  have hS0:(fun W:World=>W.cell? ⟨w5.heap.size,5,none⟩=some (.slice none 0 0)∧W.cell? ⟨wb,0,none⟩=some (.slice va l.length ca)∧W.cell? ⟨wb,1,none⟩=some (.slice a2 D.length c2)∧W.cell? ⟨wb,2,none⟩=some (.pointer (some ⟨gp,0,none⟩))∧W.cell? ⟨wb,3,none⟩=some (.slice vb ms.length cb)) w8.drew:=HS.out _ hb8d
  have hdw:IntKind.i64.wrap ((D.length:Int)+1)=((D.length+1:Nat):Int):=by rw[show (D.length:Int)+1=((D.length+1:Nat):Int) by omega];exact IntWalk.i64_in _ (by omega)
  refine Zf (fun W:World=>W.cell? ⟨w5.heap.size,5,none⟩=some (.slice none 0 0)∧W.cell? ⟨wb,0,none⟩=some (.slice va l.length ca)∧W.cell? ⟨wb,1,none⟩=some (.slice a2 D.length c2)∧W.cell? ⟨wb,2,none⟩=some (.pointer (some ⟨gp,0,none⟩))∧W.cell? ⟨wb,3,none⟩=some (.slice vb ms.length cb)) (fun i=>i == 11) (by kernel_rfl) ?_
  refine JR 0 37 _ rfl rfl hS0 (fun W hW=>by obtain ⟨q0,q1,q2,q3,q4⟩:=hW;have hdw:=hdw;go_simp;try rfl) ?_
  try simp only[Ja]
  refine JR 1 38 (.slice none 0 0) rfl rfl hS0 (fun W hW=>by obtain ⟨q0,q1,q2,q3,q4⟩:=hW;have hdw:=hdw;go_simp;try rfl) ?_
  try simp only[Ja]
  refine JR 2 39 (.agg #[.slice va l.length ca,.slice a2 D.length c2,.pointer (some ⟨gp,0,none⟩),.slice vb ms.length cb]) rfl rfl hS0 (fun W hW=>by obtain ⟨q0,q1,q2,q3,q4⟩:=hW;have hdw:=hdw;go_simp;try rfl) ?_
  try simp only[Ja]
  refine JR 3 40 (.agg #[.int .i64 0,.int .i64 0]) rfl rfl hS0 (fun W hW=>by obtain ⟨q0,q1,q2,q3,q4⟩:=hW;have hdw:=hdw;go_simp;try rfl) ?_
  try simp only[Ja]
  refine JR 4 41 _ rfl rfl hS0 (fun W hW=>by obtain ⟨q0,q1,q2,q3,q4⟩:=hW;have hdw:=hdw;go_simp;try rfl) ?_
  try simp only[Ja]
  refine JR 5 42 (.slice a2 D.length c2) rfl rfl hS0 (fun W hW=>by obtain ⟨q0,q1,q2,q3,q4⟩:=hW;have hdw:=hdw;go_simp;try rfl) ?_
  try simp only[Ja]
  refine JR 6 43 (.int .i64 D.length) rfl rfl hS0 (fun W hW=>by obtain ⟨q0,q1,q2,q3,q4⟩:=hW;have hdw:=hdw;go_simp;try rfl) ?_
  try simp only[Ja]
  refine JR 7 44 (.int .i64 ((D.length+1:Nat):Int)) rfl rfl hS0 (fun W hW=>by obtain ⟨q0,q1,q2,q3,q4⟩:=hW;have hdw:=hdw;go_simp;try rfl) ?_
  try simp only[Ja]
  refine ZB (i:=8) (d:=some 45) (w':=w8.drew) (by kernel_rfl) rfl rfl (by rfl) (by go_simp;try rfl) ((VY (Ye l ms rg h A) ⟨va,ca,a2,c2,gp,vb,cb,l,D,ms⟩ (D.length+1) (by omega) ⟨0,0⟩ w8.drew ((HWIS.out.below HB8.out).below hb8d)).mono ?_)
  rintro e w9 ⟨v9,us,rfl,hown9,hn9,b9⟩
  have hb9:Below w8.heap.size w8 w9:=hb8d.trans b9
  have hul:us.length≤D.length:=by rw[hn9.1];exact hrl
  have hz9:=hb9.size
  have hok9:=HOK8.out.ext (Ext.of_below (S:=fun _=>False) hb9) (fun _ _ f=>f)
  have hS9:=HS.out _ hb9
  obtain ⟨⟨ga,gn,gc⟩,rfl⟩:=hown9.sl20
  obtain ⟨i0,hi,hz0,hz1,hz2'⟩:=info_parts X8
  obtain ⟨v10,w10,hr10,hown10,hx10,hfr10⟩:=Xz (P:=Tryz.prog) 26 26 i0 (.agg #[.int .i64 0,.int .i64 0,.string ⟨#[]⟩,.slice none 0 0,.slice none 0 0,.slice none 0 0]) 104 YH hi hz0 hz1 hz2' rfl (by omega) NdV.len NdV.one hok9 hown9 (by unfold maxLen;omega) (by omega) (by omega)
  obtain ⟨⟨g8,n8,c8⟩,rfl⟩:=hown10.sl20
  have hblk:∀ j,(Sl.val Z2).ownBlock=some j→B≤j∧j<w8.heap.size:=fun j hj=>HOK8.out.blk j hj
  have hxz:=hx10.size
  have hnd10:=(HND8.out.ext (Ext.of_below (S:=fun _=>False) hb9) (fun f=>f)).ext hx10 (fun e=>by have:=hblk _ e;omega)
  have hrb10:=(((HRB5.out.ext (Ext.of_below (S:=fun _=>False) HB8.out) (fun f=>f)).ext (Ext.of_below (S:=fun _=>False) hb9) (fun f=>f)).ext hx10 (fun e=>by have:=hblk _ e;omega))
  obtain ⟨e0,e1,e2,e3,e4,e5,ef⟩:=hnd10.cells
  simp only[Z2] at e3 e4 e5
  have ef5:=ef 5
  have hS10:(fun W:World=>W.cell? ⟨w5.heap.size,5,none⟩=some (.slice none 0 0)∧W.cell? ⟨wb,0,none⟩=some (.slice va l.length ca)∧W.cell? ⟨wb,1,none⟩=some (.slice a2 D.length c2)∧W.cell? ⟨wb,2,none⟩=some (.pointer (some ⟨gp,0,none⟩))∧W.cell? ⟨wb,3,none⟩=some (.slice vb ms.length cb)) w10:=by
   obtain ⟨_,t0,t1,t2,t3⟩:=hS9
   exact ⟨e5,hx10.keep t0 (fun e=>by have:=hblk _ e;omega),hx10.keep t1 (fun e=>by have:=hblk _ e;omega),hx10.keep t2 (fun e=>by have:=hblk _ e;omega),hx10.keep t3 (fun e=>by have:=hblk _ e;omega)⟩
  (try simp only[Sl.val,Z2] at hr10)
  refine ⟨_,rfl,fun _=>hS9,?_⟩
  try simp only[Ja]
  refine Zk (i:=9) (d:=some 46) (v:=.slice g8 n8 c8) (w':=w10) (by kernel_rfl) rfl rfl (by rfl) (Ym rfl rfl rfl hr10) (fun _=>hS10) ?_
  try simp only[Ja]
  refine JR 10 47 _ rfl rfl hS10 (fun W hW=>by obtain ⟨q0,q1,q2,q3,q4⟩:=hW;have hdw:=hdw;go_simp;try rfl) ?_
  try simp only[Ja]
  refine Zg (i:=11) (d:=none) (w':=w10.setCell ⟨w5.heap.size,5,none⟩ (.slice g8 n8 c8)) (by kernel_rfl) rfl rfl (by rfl) (by go_simp;try rfl) (fun h=>by cases h) ?_
  try simp only[Ja]
  refine Zd (by kernel_rfl) ?_ _
  have hnd11:=hnd10.setKids ⟨g8,n8,c8⟩
  have hxd:Ext (·=w5.heap.size) w10 (w10.setCell ⟨w5.heap.size,5,none⟩ (.slice g8 n8 c8)):=(Ext.refl (·=w5.heap.size) w10).setCell (p:=⟨w5.heap.size,5,none⟩) (.inr rfl) _
  have hob10:∀ j,(Value.slice g8 n8 c8).ownBlock=some j→B≤j:=fun j hj=>by rcases hfr10 j hj with k|k;exact (hblk j k).1;omega
  have hrb11:=hrb10.ext hxd (fun e=>by have:=HB5.out.size;(try simp only at e);omega)
  have hown11:=hown10.ext hxd (fun j hj e=>by have:=hob10 j hj;(try simp only at e);omega)
  have hns11:Zb (fun j=>w.heap.size<j) (w10.setCell ⟨w5.heap.size,5,none⟩ (.slice g8 n8 c8)) (([]:List NdV)++us) (([]:List Nd)++(Ye l ms rg h A).row (D.length+1) ⟨0,0⟩):=by
   refine Zb.append ?_ ?_
   ·refine (((HNS8.out.ext (Ext.of_below (S:=fun _=>False) hb9) (fun _ _ _ f=>f)).ext hx10 (fun j hj _ e=>hj.2.2 e)).ext hxd (fun j hj _ e=>hj.2.1 e)).mono (fun j hj=>hj.1)
   ·refine ((hn9.monoL (D':=fun j=>w8.heap.size≤j) (fun j hj hl=>hj.1)).ext hx10 (fun j hj _ e=>by have:=hblk _ e;omega)).ext hxd (fun j hj _ e=>by (try simp only at e);omega) |>.mono (fun j hj=>by have:=HB5.out.size;omega)
  have hb11:Below w.heap.size w (w10.setCell ⟨w5.heap.size,5,none⟩ (.slice g8 n8 c8)):=by
   have q1:=HB5.out.trans ((HB8.out.trans (hb9.mono hz8)).mono HB5.out.size)
   have q2:=Ext.new q1 hx10 (fun i hi _ e=>by have:=hblk _ e;have:=HB5.out.size;omega) q1.size
   exact Ext.new q2 hxd (fun i hi _ e=>by have:=HB5.out.size;(try simp only at e);omega) q2.size
  have HND:=Lib.hid hnd11
  have HRB:=Lib.hid hrb11
  have HOWN:=Lib.hid hown11
  have HNS:=Lib.hid hns11
  have HB11:=Lib.hid hb11
  clear hnd11 hrb11 hown11 hns11 hb11 hnd10 hrb10 hxd hx10 hr10 hown10 e0 e1 e2 e3 e4 e5 ef ef5 hS0 hS9 hS10 d5 HS k0 k1 k2 k3 hwb8
  generalize w10.setCell ⟨w5.heap.size,5,none⟩ (.slice g8 n8 c8)=w11 at *
  obtain ⟨g0,g1,g2,g3,g4,g5,-⟩:=HND.out.cells
  obtain ⟨r0,r1,r2,r3,r4,r5,rf⟩:=HRB.out.cells
  have rf0:=rf 0
  have rf1:=rf 1
  have rf2:=rf 2
  have rf3:=rf 3
  have rf4:=rf 4
  have rf5:=rf 5
  simp only[Z2] at g3 g4 g5 r3 r4 r5
  simp only at g0 g1 g2 r0 r1 r2
  clear rf
  go_wp2_with fail
  (try simp only[Exit.inBlock,Exit.then])
  refine bodyPost_ret (v:=.agg #[.int .i64 0,.int .i64 0,.string ⟨#[100,111,99]⟩,.slice none 0 0,.slice none 0 0,.slice g8 n8 c8]) (by rw[X5 rfl];go_simp) rfl ?_
  have hfx:Ext (·=w.heap.size) w11 ((((((w11.setCell ⟨w.heap.size,0,none⟩ (.int .i64 0)).setCell ⟨w.heap.size,1,none⟩ (.int .i64 0)).setCell ⟨w.heap.size,2,none⟩ (.string ⟨#[100,111,99]⟩)).setCell ⟨w.heap.size,3,none⟩ (.slice none 0 0)).setCell ⟨w.heap.size,4,none⟩ (.slice none 0 0)).setCell ⟨w.heap.size,5,none⟩ (.slice g8 n8 c8)) :=
   ((((((Ext.refl (·=w.heap.size) w11).setCell (p:=⟨w.heap.size,0,none⟩) (.inr rfl) _).setCell (p:=⟨w.heap.size,1,none⟩) (.inr rfl) _).setCell (p:=⟨w.heap.size,2,none⟩) (.inr rfl) _).setCell (p:=⟨w.heap.size,3,none⟩) (.inr rfl) _).setCell (p:=⟨w.heap.size,4,none⟩) (.inr rfl) _).setCell (p:=⟨w.heap.size,5,none⟩) (.inr rfl) _
  have hbs5:=HB5.out.size
  have ho2:=HOWN.out.ext hfx (fun j hj e=>by have:=(HOWN.out.blk j hj).1;(try simp only at e);omega)
  refine ⟨⟨⟨0,0⟩,⟨#[100,111,99]⟩,Z2,Z2,⟨g8,n8,c8⟩⟩,rfl,D.length+1,fun A' hA'=>by rw[hA'.unique HDD.out];exact Nat.le_refl _,?_,Ext.new HB11.out hfx (fun i hi _ e=>by (try simp only at e);omega) HB11.out.size⟩
  unfold Vw.tree
  rw[HF0.out,if_pos rfl]
  refine Zr.make rfl rfl Yn Vq ((ho2.sliceD NdV.len).mono (fun j hj=>by have:=(ho2.blk j hj).1;omega)) ((HNS.out.ext hfx (fun j hj _ e=>by (try simp only at e);omega)).mono (fun j hj=>Nat.le_of_lt hj))
 ·have hF1:(0:Int)<(F0.length:Int):=by have:=List.length_pos_iff.2 hF;omega
  have HNF:=Lib.hid hF
  clear hF
  obtain ⟨d0,d1,d2,d3,d4,d5,df⟩:=HD7.out.cells
  simp only[Z2] at d5
  have df5:=df 5
  clear d0 d1 d2 d3 d4 df
  have hdl:=HD7.out.lt
  obtain ⟨i1,hi1,hz01,hz11,hz21⟩:=info_parts X8
  obtain ⟨x1,hx1⟩:∃ x1:NdV,x1=⟨⟨0,0⟩,Zw,Z2,⟨qa,F0.length,qc⟩,Z2⟩:=⟨_,rfl⟩
  go_wp2_with (at_builtin;refine Zq (l:=[]) rfl _ _ _ rfl i1 (.agg #[.int .i64 0,.int .i64 0,.string ⟨#[]⟩,.slice none 0 0,.slice none 0 0,.slice none 0 0]) 104 YH hi1 hz01 hz11 hz21 rfl (by omega) NdV.len NdV.one rfl (Own.nil:Own NdV.cells 6 28 B _ (.slice none 0 0) []) (⟨⟨0,0⟩,Zw,Z2,⟨qa,F0.length,qc⟩,Z2⟩:NdV) w7.heap.size 1 rfl ?_ (by unfold maxLen;simp) (by simp) (by simp;omega) ?_)
  ·intro j u hj
   match j,hj with
   | 0,hj=>simp[NdV.cells] at hj;subst hj;(try simp only[Zw,Z2]);go_simp
   | 1,hj=>simp[NdV.cells] at hj;subst hj;(try simp only[Zw,Z2]);go_simp
   | 2,hj=>simp[NdV.cells] at hj;subst hj;(try simp only[Zw,Z2]);go_simp
   | 3,hj=>simp[NdV.cells] at hj;subst hj;(try simp only[Zw,Z2]);go_simp
   | 4,hj=>simp[NdV.cells] at hj;subst hj;(try simp only[Zw,Z2]);go_simp
   | 5,hj=>simp[NdV.cells] at hj;subst hj;(try simp only[Zw,Z2]);go_simp
   | n+6,hj=>simp[NdV.cells] at hj
  ·intro v8 wy hown8 hx8 hfr8
   (try simp only[List.nil_append] at hown8)
   obtain ⟨⟨kg,kn,kc⟩,rfl⟩:=hown8.sl20
   have hxy:Ext (fun _=>False) w7 wy:=Ext.new2 ((Ext.refl (fun _=>False) w7).alloc _) hx8 (fun j _ e=>by simp[Value.ownBlock] at e)
   have hfy:∀ j,(Value.slice kg kn kc).ownBlock=some j→w7.heap.size<j:=fun j hj=>by
    rcases hfr8 j hj with k|k
    ·cases k
    ·first|exact k|(have k2:=k;rw[World.size_alloc] at k2;omega)|(have k2:=k;simp at k2;omega)
   have hndy:=HD7.out.ext hxy (fun f=>f)
   have hzy:=hxy.size
   obtain ⟨-,-,-,-,-,e5,ef⟩:=hndy.cells
   simp only[Z2] at e5
   have ef5:=ef 5
   clear ef hx8 hfr8 d5 df5
   have HY:=Jh (And.intro hxy (And.intro hown8 (And.intro hfy hndy)))
   clear hxy hown8 hfy hndy
   go_upto_region 6 with fail
   obtain ⟨hxy,hown8,hfy,hndy⟩:=HY.out
   have hxd:Ext (·=w5.heap.size) wy (wy.setCell ⟨w5.heap.size,5,none⟩ (.slice kg kn kc)):=(Ext.refl (·=w5.heap.size) wy).setCell (p:=⟨w5.heap.size,5,none⟩) (.inr rfl) _
   have hownz:=hown8.ext hxd (fun j hj e=>by have:=(hown8.blk j hj).1;(try simp only at e);omega)
   have hb5w:=HB5.out.size
   have hnsz:Zb (fun j=>w.heap.size<j∧j≠w5.heap.size∧¬ (Sl.mk kg kn kc).val.ownBlock=some j) (wy.setCell ⟨w5.heap.size,5,none⟩ (.slice kg kn kc)) [(⟨⟨0,0⟩,Zw,Z2,⟨qa,F0.length,qc⟩,Z2⟩:NdV)] [Nd.mk ⟨0,0⟩ Zw [] F0 []]:=by
    refine Zb.one (Zr.make rfl rfl Yn ?_ (vs:=[]) Yn Zb.nil)
    refine ((HQ.out.ext hxy (fun _ _ _ f=>f)).ext hxd (fun j hj _ e=>by (try simp only at e);omega)).mono (fun j hj=>⟨by omega,by omega,fun e=>by have:=hfy j e;omega⟩)
   have hndz:=hndy.setKids ⟨kg,kn,kc⟩
   have hbz:Below w5.heap.size w5 (wy.setCell ⟨w5.heap.size,5,none⟩ (.slice kg kn kc)):=Ext.new (Ext.new HB7.out hxy (fun i _ _ f=>f) HB7.out.size) hxd (fun i hi _ e=>by (try simp only at e);omega) (by have:=HB7.out.size;omega)
   have hB3:B≤(wy.setCell ⟨w5.heap.size,5,none⟩ (.slice kg kn kc)).heap.size:=by have:=hxd.size;omega
   clear hxy hown8 hfy hndy hxd HY e5 ef5
   have HB8:=Lib.hid hbz
   have HND8:=Lib.hid hndz
   have HOK8:=Lib.hid hownz
   have HNS8:=Lib.hid hnsz
   have hlv:[(⟨⟨0,0⟩,Zw,Z2,⟨qa,F0.length,qc⟩,Z2⟩:NdV)].length≤1:=by first|exact Nat.zero_le _|exact Nat.le_refl _
   generalize wy.setCell ⟨w5.heap.size,5,none⟩ (.slice kg kn kc)=w8 at *
   have hz8:=HB8.out.size
   have hrl:=Vw.row_le (V:=Ye l ms rg h A) (n:=D.length+1) (b:=⟨0,0⟩) (m:=0) HDD.out (YI HHK.out.2.2.2.1)
   obtain ⟨-,-,-,-,-,d5,-⟩:=HND8.out.cells
   simp only[Z2] at d5
   have hwb8:=HWB5.out.ext (Ext.of_below (S:=fun _=>False) HB8.out) (fun f=>f)
   obtain ⟨k0,k1,k2,k3⟩:=hwb8.cells
   have HS:Hid (∀ W,Below w8.heap.size w8 W→W.cell? ⟨w5.heap.size,5,none⟩=some (.slice kg kn kc)∧W.cell? ⟨wb,0,none⟩=some (.slice va l.length ca)∧W.cell? ⟨wb,1,none⟩=some (.slice a2 D.length c2)∧W.cell? ⟨wb,2,none⟩=some (.pointer (some ⟨gp,0,none⟩))∧W.cell? ⟨wb,3,none⟩=some (.slice vb ms.length cb)):=Jh (fun W hW=>⟨Z0 hW d5,Z0 hW k0,Z0 hW k1,Z0 hW k2,Z0 hW k3⟩)
   have hb8d:Below w8.heap.size w8 w8.drew:=(Below.refl _ _).drew
   have hS0:(fun W:World=>W.cell? ⟨w5.heap.size,5,none⟩=some (.slice kg kn kc)∧W.cell? ⟨wb,0,none⟩=some (.slice va l.length ca)∧W.cell? ⟨wb,1,none⟩=some (.slice a2 D.length c2)∧W.cell? ⟨wb,2,none⟩=some (.pointer (some ⟨gp,0,none⟩))∧W.cell? ⟨wb,3,none⟩=some (.slice vb ms.length cb)) w8.drew:=HS.out _ hb8d
   have hdw:IntKind.i64.wrap ((D.length:Int)+1)=((D.length+1:Nat):Int):=by rw[show (D.length:Int)+1=((D.length+1:Nat):Int) by omega];exact IntWalk.i64_in _ (by omega)
   refine Zf (fun W:World=>W.cell? ⟨w5.heap.size,5,none⟩=some (.slice kg kn kc)∧W.cell? ⟨wb,0,none⟩=some (.slice va l.length ca)∧W.cell? ⟨wb,1,none⟩=some (.slice a2 D.length c2)∧W.cell? ⟨wb,2,none⟩=some (.pointer (some ⟨gp,0,none⟩))∧W.cell? ⟨wb,3,none⟩=some (.slice vb ms.length cb)) (fun i=>i == 11) (by kernel_rfl) ?_
   refine JR 0 37 _ rfl rfl hS0 (fun W hW=>by obtain ⟨q0,q1,q2,q3,q4⟩:=hW;have hdw:=hdw;go_simp;try rfl) ?_
   try simp only[Ja]
   refine JR 1 38 (.slice kg kn kc) rfl rfl hS0 (fun W hW=>by obtain ⟨q0,q1,q2,q3,q4⟩:=hW;have hdw:=hdw;go_simp;try rfl) ?_
   try simp only[Ja]
   refine JR 2 39 (.agg #[.slice va l.length ca,.slice a2 D.length c2,.pointer (some ⟨gp,0,none⟩),.slice vb ms.length cb]) rfl rfl hS0 (fun W hW=>by obtain ⟨q0,q1,q2,q3,q4⟩:=hW;have hdw:=hdw;go_simp;try rfl) ?_
   try simp only[Ja]
   refine JR 3 40 (.agg #[.int .i64 0,.int .i64 0]) rfl rfl hS0 (fun W hW=>by obtain ⟨q0,q1,q2,q3,q4⟩:=hW;have hdw:=hdw;go_simp;try rfl) ?_
   try simp only[Ja]
   refine JR 4 41 _ rfl rfl hS0 (fun W hW=>by obtain ⟨q0,q1,q2,q3,q4⟩:=hW;have hdw:=hdw;go_simp;try rfl) ?_
   try simp only[Ja]
   refine JR 5 42 (.slice a2 D.length c2) rfl rfl hS0 (fun W hW=>by obtain ⟨q0,q1,q2,q3,q4⟩:=hW;have hdw:=hdw;go_simp;try rfl) ?_
   try simp only[Ja]
   refine JR 6 43 (.int .i64 D.length) rfl rfl hS0 (fun W hW=>by obtain ⟨q0,q1,q2,q3,q4⟩:=hW;have hdw:=hdw;go_simp;try rfl) ?_
   try simp only[Ja]
   refine JR 7 44 (.int .i64 ((D.length+1:Nat):Int)) rfl rfl hS0 (fun W hW=>by obtain ⟨q0,q1,q2,q3,q4⟩:=hW;have hdw:=hdw;go_simp;try rfl) ?_
   try simp only[Ja]
   refine ZB (i:=8) (d:=some 45) (w':=w8.drew) (by kernel_rfl) rfl rfl (by rfl) (by go_simp;try rfl) ((VY (Ye l ms rg h A) ⟨va,ca,a2,c2,gp,vb,cb,l,D,ms⟩ (D.length+1) (by omega) ⟨0,0⟩ w8.drew ((HWIS.out.below HB8.out).below hb8d)).mono ?_)
   rintro e w9 ⟨v9,us,rfl,hown9,hn9,b9⟩
   have hb9:Below w8.heap.size w8 w9:=hb8d.trans b9
   have hul:us.length≤D.length:=by rw[hn9.1];exact hrl
   have hz9:=hb9.size
   have hok9:=HOK8.out.ext (Ext.of_below (S:=fun _=>False) hb9) (fun _ _ f=>f)
   have hS9:=HS.out _ hb9
   obtain ⟨⟨ga,gn,gc⟩,rfl⟩:=hown9.sl20
   obtain ⟨i0,hi,hz0,hz1,hz2'⟩:=info_parts X8
   obtain ⟨v10,w10,hr10,hown10,hx10,hfr10⟩:=Xz (P:=Tryz.prog) 26 26 i0 (.agg #[.int .i64 0,.int .i64 0,.string ⟨#[]⟩,.slice none 0 0,.slice none 0 0,.slice none 0 0]) 104 YH hi hz0 hz1 hz2' rfl (by omega) NdV.len NdV.one hok9 hown9 (by unfold maxLen;omega) (by omega) (by omega)
   obtain ⟨⟨g8,n8,c8⟩,rfl⟩:=hown10.sl20
   have hblk:∀ j,(Sl.val (Sl.mk kg kn kc)).ownBlock=some j→B≤j∧j<w8.heap.size:=fun j hj=>HOK8.out.blk j hj
   have hxz:=hx10.size
   have hnd10:=(HND8.out.ext (Ext.of_below (S:=fun _=>False) hb9) (fun f=>f)).ext hx10 (fun e=>by have:=hblk _ e;omega)
   have hrb10:=(((HRB5.out.ext (Ext.of_below (S:=fun _=>False) HB8.out) (fun f=>f)).ext (Ext.of_below (S:=fun _=>False) hb9) (fun f=>f)).ext hx10 (fun e=>by have:=hblk _ e;omega))
   obtain ⟨e0,e1,e2,e3,e4,e5,ef⟩:=hnd10.cells
   simp only[Z2] at e3 e4 e5
   have ef5:=ef 5
   have hS10:(fun W:World=>W.cell? ⟨w5.heap.size,5,none⟩=some (.slice kg kn kc)∧W.cell? ⟨wb,0,none⟩=some (.slice va l.length ca)∧W.cell? ⟨wb,1,none⟩=some (.slice a2 D.length c2)∧W.cell? ⟨wb,2,none⟩=some (.pointer (some ⟨gp,0,none⟩))∧W.cell? ⟨wb,3,none⟩=some (.slice vb ms.length cb)) w10:=by
    obtain ⟨_,t0,t1,t2,t3⟩:=hS9
    exact ⟨e5,hx10.keep t0 (fun e=>by have:=hblk _ e;omega),hx10.keep t1 (fun e=>by have:=hblk _ e;omega),hx10.keep t2 (fun e=>by have:=hblk _ e;omega),hx10.keep t3 (fun e=>by have:=hblk _ e;omega)⟩
   (try simp only[Sl.val] at hr10)
   refine ⟨_,rfl,fun _=>hS9,?_⟩
   try simp only[Ja]
   refine Zk (i:=9) (d:=some 46) (v:=.slice g8 n8 c8) (w':=w10) (by kernel_rfl) rfl rfl (by rfl) (Ym rfl rfl rfl hr10) (fun _=>hS10) ?_
   try simp only[Ja]
   refine JR 10 47 _ rfl rfl hS10 (fun W hW=>by obtain ⟨q0,q1,q2,q3,q4⟩:=hW;have hdw:=hdw;go_simp;try rfl) ?_
   try simp only[Ja]
   refine Zg (i:=11) (d:=none) (w':=w10.setCell ⟨w5.heap.size,5,none⟩ (.slice g8 n8 c8)) (by kernel_rfl) rfl rfl (by rfl) (by go_simp;try rfl) (fun h=>by cases h) ?_
   try simp only[Ja]
   refine Zd (by kernel_rfl) ?_ _
   have hnd11:=hnd10.setKids ⟨g8,n8,c8⟩
   have hxd:Ext (·=w5.heap.size) w10 (w10.setCell ⟨w5.heap.size,5,none⟩ (.slice g8 n8 c8)):=(Ext.refl (·=w5.heap.size) w10).setCell (p:=⟨w5.heap.size,5,none⟩) (.inr rfl) _
   have hob10:∀ j,(Value.slice g8 n8 c8).ownBlock=some j→B≤j:=fun j hj=>by rcases hfr10 j hj with k|k;exact (hblk j k).1;omega
   have hrb11:=hrb10.ext hxd (fun e=>by have:=HB5.out.size;(try simp only at e);omega)
   have hown11:=hown10.ext hxd (fun j hj e=>by have:=hob10 j hj;(try simp only at e);omega)
   have hns11:Zb (fun j=>w.heap.size<j) (w10.setCell ⟨w5.heap.size,5,none⟩ (.slice g8 n8 c8)) ([(⟨⟨0,0⟩,Zw,Z2,⟨qa,F0.length,qc⟩,Z2⟩:NdV)]++us) ([Nd.mk ⟨0,0⟩ Zw [] F0 []]++(Ye l ms rg h A).row (D.length+1) ⟨0,0⟩):=by
    refine Zb.append ?_ ?_
    ·refine (((HNS8.out.ext (Ext.of_below (S:=fun _=>False) hb9) (fun _ _ _ f=>f)).ext hx10 (fun j hj _ e=>hj.2.2 e)).ext hxd (fun j hj _ e=>hj.2.1 e)).mono (fun j hj=>hj.1)
    ·refine ((hn9.monoL (D':=fun j=>w8.heap.size≤j) (fun j hj hl=>hj.1)).ext hx10 (fun j hj _ e=>by have:=hblk _ e;omega)).ext hxd (fun j hj _ e=>by (try simp only at e);omega) |>.mono (fun j hj=>by have:=HB5.out.size;omega)
   have hb11:Below w.heap.size w (w10.setCell ⟨w5.heap.size,5,none⟩ (.slice g8 n8 c8)):=by
    have q1:=HB5.out.trans ((HB8.out.trans (hb9.mono hz8)).mono HB5.out.size)
    have q2:=Ext.new q1 hx10 (fun i hi _ e=>by have:=hblk _ e;have:=HB5.out.size;omega) q1.size
    exact Ext.new q2 hxd (fun i hi _ e=>by have:=HB5.out.size;(try simp only at e);omega) q2.size
   have HND:=Lib.hid hnd11
   have HRB:=Lib.hid hrb11
   have HOWN:=Lib.hid hown11
   have HNS:=Lib.hid hns11
   have HB11:=Lib.hid hb11
   clear hnd11 hrb11 hown11 hns11 hb11 hnd10 hrb10 hxd hx10 hr10 hown10 e0 e1 e2 e3 e4 e5 ef ef5 hS0 hS9 hS10 d5 HS k0 k1 k2 k3 hwb8
   generalize w10.setCell ⟨w5.heap.size,5,none⟩ (.slice g8 n8 c8)=w11 at *
   obtain ⟨g0,g1,g2,g3,g4,g5,-⟩:=HND.out.cells
   obtain ⟨r0,r1,r2,r3,r4,r5,rf⟩:=HRB.out.cells
   have rf0:=rf 0
   have rf1:=rf 1
   have rf2:=rf 2
   have rf3:=rf 3
   have rf4:=rf 4
   have rf5:=rf 5
   simp only[Z2] at g3 g4 g5 r3 r4 r5
   simp only at g0 g1 g2 r0 r1 r2
   clear rf
   go_wp2_with fail
   (try simp only[Exit.inBlock,Exit.then])
   refine bodyPost_ret (v:=.agg #[.int .i64 0,.int .i64 0,.string ⟨#[100,111,99]⟩,.slice none 0 0,.slice none 0 0,.slice g8 n8 c8]) (by rw[X5 rfl];go_simp) rfl ?_
   have hfx:Ext (·=w.heap.size) w11 ((((((w11.setCell ⟨w.heap.size,0,none⟩ (.int .i64 0)).setCell ⟨w.heap.size,1,none⟩ (.int .i64 0)).setCell ⟨w.heap.size,2,none⟩ (.string ⟨#[100,111,99]⟩)).setCell ⟨w.heap.size,3,none⟩ (.slice none 0 0)).setCell ⟨w.heap.size,4,none⟩ (.slice none 0 0)).setCell ⟨w.heap.size,5,none⟩ (.slice g8 n8 c8)) :=
    ((((((Ext.refl (·=w.heap.size) w11).setCell (p:=⟨w.heap.size,0,none⟩) (.inr rfl) _).setCell (p:=⟨w.heap.size,1,none⟩) (.inr rfl) _).setCell (p:=⟨w.heap.size,2,none⟩) (.inr rfl) _).setCell (p:=⟨w.heap.size,3,none⟩) (.inr rfl) _).setCell (p:=⟨w.heap.size,4,none⟩) (.inr rfl) _).setCell (p:=⟨w.heap.size,5,none⟩) (.inr rfl) _
   have hbs5:=HB5.out.size
   have ho2:=HOWN.out.ext hfx (fun j hj e=>by have:=(HOWN.out.blk j hj).1;(try simp only at e);omega)
   refine ⟨⟨⟨0,0⟩,⟨#[100,111,99]⟩,Z2,Z2,⟨g8,n8,c8⟩⟩,rfl,D.length+1,fun A' hA'=>by rw[hA'.unique HDD.out];exact Nat.le_refl _,?_,Ext.new HB11.out hfx (fun i hi _ e=>by (try simp only at e);omega) HB11.out.size⟩
   unfold Vw.tree
   rw[HF0.out,if_neg HNF.out]
   refine Zr.make rfl rfl Yn Vq ((ho2.sliceD NdV.len).mono (fun j hj=>by have:=(ho2.blk j hj).1;omega)) ((HNS.out.ext hfx (fun j hj _ e=>by (try simp only at e);omega)).mono (fun j hj=>Nat.le_of_lt hj))
theorem Y4.at {D:Nat→Prop} {W:World} {u:Value} {P:Pcs} (h:Y4 D W u P) {k:Nat} {t:ByteArray} {al:List Atr} (hk:P[k]?=some (t,al)) :
  ∃ (b o c:Nat) (s:Sl),u=.slice (some ⟨b,o,none⟩) P.length c∧P.length≤c∧c≤maxLen∧W.cell? ⟨b,o+k*2,none⟩=some (.string t)∧W.cell? ⟨b,o+k*2+1,none⟩=some (.slice s.a s.n s.cap)∧Z4 Atr.cells 2 W (.slice s.a s.n s.cap) al:=by
 obtain ⟨vs,h1,h2,h3⟩:=h
 obtain ⟨a,c,rfl,hc,hm,hh⟩:=h1.1
 have hkl:=(List.getElem?_eq_some_iff.1 hk).1
 obtain ⟨x,hx⟩:∃ x,vs[k]?=some x:=⟨_,List.getElem?_eq_getElem (by omega)⟩
 obtain ⟨b,o,rfl,hh1⟩:=hh (by intro e;rw[e] at hx;simp at hx)
 obtain ⟨al',h4,h5⟩:=h3 k x hx
 rw[hk] at h4
 simp only[Option.some.injEq,Prod.mk.injEq] at h4
 obtain ⟨rfl,rfl⟩:=h4
 exact ⟨b,o,c,x.s,by rw[h2],by omega,hm,hh1 k x hx 0 _ rfl,hh1 k x hx 1 _ rfl,h5.1⟩
theorem Y4.shape {D:Nat→Prop} {W:World} {u:Value} {P:Pcs} (h:Y4 D W u P):∃ a c,u=.slice a P.length c∧P.length≤c∧c≤maxLen:=by
 obtain ⟨vs,h1,h2,h3⟩:=h
 obtain ⟨a,c,rfl,hc,hm,hh⟩:=h1.1
 exact ⟨a,c,by rw[h2],by omega,hm⟩
theorem Z10 {P Q:Pcs} {k:Nat} {x y:ByteArray × List Atr} (hx:P[k]?=some x) (hy:Q[k]?=some y) (h:x≠y):decide (P=Q)=false:=by
 rw[decide_eq_false_iff_not]
 intro e
 rw[e,hy] at hx
 exact h (Option.some.inj hx).symm
theorem RZ (D1 D2:Nat→Prop) (u1 u2:Value) (P Q:Pcs) (w:World) (h1:Y4 D1 w u1 P) (h2:Y4 D2 w u2 Q) :
  Calls Tryz.prog 34 #[u1,u2] w fun e w'=>e=.returned (.bool (decide (P=Q)))∧Below w.heap.size w w':=by
 obtain ⟨a1,c1,rfl,hc1,hm1⟩:=h1.shape
 obtain ⟨a2,c2,rfl,hc2,hm2⟩:=h2.shape
 unfold maxLen at hm1 hm2
 have H1:=Lib.hid h1
 have H2:=Lib.hid h2
 clear h1 h2
 by_cases hl:P.length=Q.length
 ·have HL:=Lib.hid hl
  have hl1:(((P.length:Nat):Int) != ((Q.length:Nat):Int))=false:=by simp[hl]
  clear hl
  go_enter Tryz.func34,Tryz.ntmps34
  go_wp2_with fail
  go_loopg [5] P.length (fun g iv wr=>∃ k:Nat,g=P.length - k∧k≤P.length∧iv=.int .i64 k∧Hid (∀ j,j<k→P[j]?=Q[j]?)∧Below w.heap.size w wr)
  case atStart=>exact ⟨0,by omega,by omega,rfl,fun j hj=>absurd hj (by omega),Below.refl _ _⟩
  case round =>
   obtain ⟨k,hg,hk,rfl,HP,hB⟩:=hrel
   have HG:=Lib.hid hg
   by_cases hkl:k<P.length
   ·obtain ⟨⟨t,al⟩,hx⟩:∃ x,P[k]?=some x:=⟨_,List.getElem?_eq_getElem hkl⟩
    obtain ⟨⟨s,bl⟩,hy⟩:∃ x,Q[k]?=some x:=⟨_,List.getElem?_eq_getElem (by rw[←HL.out];exact hkl)⟩
    obtain ⟨ba,oa,ca,sa,e1,_,_,ta,ma,ya⟩:=(H1.out.ext (Ext.of_below (S:=fun _=>False) hB) (fun _ _ _ f=>f)).at hx
    cases e1
    obtain ⟨bb,ob,cb,sb,e2,_,_,tb,mb,yb⟩:=(H2.out.ext (Ext.of_below (S:=fun _=>False) hB) (fun _ _ _ f=>f)).at hy
    cases e2
    have hkk:(k:Int)<(P.length:Int):=by omega
    have hkq:(k:Int)<(Q.length:Int):=by have:=HL.out;omega
    have HB:=Lib.hid hB
    have HX:=Lib.hid hx
    have HY:=Lib.hid hy
    obtain ⟨sm,hsm⟩:=Je (decide (al=bl))
    have HSM:=Lib.hid hsm
    have HC:Hid (∀ (W:World),Z4 Atr.cells 2 W (.slice sa.a sa.n sa.cap) al→Z4 Atr.cells 2 W (.slice sb.a sb.n sb.cap) bl→Calls Tryz.prog 33 #[.slice sa.a sa.n sa.cap,.slice sb.a sb.n sb.cap] W fun e w'=>e=.returned (.bool sm)∧Below W.heap.size W w'):=Jh (fun W g1 g2=>by rw[←hsm];exact Uh _ _ al bl W g1 g2)
    clear hg hB hx hy hsm
    go_upto_region 6 with fail
    go_region_held3 (fun W=>W.cell? ⟨ba,oa+k*2+1,none⟩=some (.slice sa.a sa.n sa.cap)∧W.cell? ⟨bb,ob+k*2+1,none⟩=some (.slice sb.a sb.n sb.cap)) (first|exact ⟨ma,mb⟩|exact ⟨Z0 b5 ma,Z0 b5 mb⟩) ((go_at_call 33;((with_reducible refine (HC.out _ ya.drew yb.drew).mono ?_);rintro e w5 ⟨rfl,b5⟩;simp only[ZR,ZJ] at b5)))
    all_goals
     have hB5:=HB.out.trans (b5.mono HB.out.size)
     have ta5:=Z0 b5 ta
     have tb5:=Z0 b5 tb
     have HB5:=Lib.hid hB5
     clear ta ma tb mb ya yb b5 hB5 HC
     cases sm with
     | false =>
      have hne:decide (P=Q)=false:=Z10 HX.out HY.out (fun e=>by have:=HSM.out;rw[decide_eq_false_iff_not] at this;exact this (Prod.mk.inj e).2)
      have HR:=Lib.hid hne
      clear hne
      go_upto_region 7 with fail
      go_quiet (fail)
      go_wp2_with fail
      go_ret
      exact ⟨by rw[HR.out];rfl,by first|exact below_drewN HB5.out _|exact below_drewN HB5.out.drew _⟩
     | true =>
      have hal:al=bl:=by have:=HSM.out;rwa [decide_eq_true_eq] at this
      by_cases hts:t=s
      ·subst hts
       have HN:Hid (∀ j,j<k+1→P[j]?=Q[j]?):=Jh (fun j hj=>by
        by_cases hjk:j<k
        ·exact HP.out j hjk
        ·have:j=k:=by omega
         subst this
         rw[HX.out,HY.out,hal])
       clear hal
       go_upto_region 7 with fail
       go_quiet (fail)
       go_wp2_with fail
       go_roundg (P.length - (k+1))
       case measure=>rw[HG.out];omega
       case rel=>exact ⟨k+1,rfl,by omega,by simp,HN,by first|exact below_drewN HB5.out _|exact below_drewN HB5.out.drew _⟩
      ·have hne:decide (P=Q)=false:=Z10 HX.out HY.out (fun e=>hts (Prod.mk.inj e).1)
       have HR:=Lib.hid hne
       have hts2:(t.toList == s.toList)=false:=by simpa using fun e=>hts ((ZS _ _).1 e)
       clear hne hal hts
       go_upto_region 7 with fail
       go_quiet (fail)
       go_wp2_with fail
       go_ret
       exact ⟨by rw[HR.out];rfl,by first|exact below_drewN HB5.out _|exact below_drewN HB5.out.drew _⟩
   ·have hres:decide (P=Q)=true:=by
     rw[decide_eq_true_eq]
     exact U3 HL.out HP.out (by omega)
    have HR:=Lib.hid hres
    clear hres
    go_wp2_with fail
    go_ret
    exact ⟨by rw[HR.out];rfl,hB⟩
 ·have hres:decide (P=Q)=false:=by
   rw[decide_eq_false_iff_not]
   intro e
   exact hl (by rw[e])
  rw[hres]
  clear hres
  have hl1:(((P.length:Nat):Int) != ((Q.length:Nat):Int))=true:=by simp;omega
  go_enter Tryz.func34,Tryz.ntmps34
  go_wp2_with fail
  go_ret
  exact ⟨rfl,Below.refl _ _⟩
end Go.Proofs.YtlgipkemoldckaaGreatDoor
namespace Go.Proofs.YtlgipkemoldckaaGreatDoor
open Go.RowKit Go.Deep
def ZX (c:UInt8):List UInt8:=if c=34∨c=92 then [92,c] else [c]
def Yj (s:List UInt8):List UInt8:=34 :: (s.flatMap ZX++[34])
def u8c (x:UInt8):List Value:=[.int .u8 x.toNat]
theorem YM (x:UInt8):(u8c x).length=1:=rfl
theorem Vh (x:UInt8):∀ u∈u8c x,u.oneCell'=true:=by
 intro u hu
 simp only[u8c,List.mem_cons,List.not_mem_nil,or_false] at hu
 subst hu
 rfl
theorem VR (W:World) (x:UInt8):∀ j u,(u8c x)[j]?=some u→(W.alloc (.cells #[.int .u8 x.toNat] 5)).cell? ⟨W.heap.size,j,none⟩=some u:=by
 intro j u hj
 rw[World.cell?_alloc_at _ _ _ _ rfl,←hj,u8c]
 simp
theorem Z36:(Tryz.prog.info? 5).map (fun i=>(i.zero,i.size,i.bytes))=some (some (.int .u8 0),1,1):=by kernel_rfl
theorem Sp:∀ (bs:List UInt8) (s:ByteArray),(bs.map fun x=>(x.toNat:Int)).foldl (fun r n=>r.push (UInt8.ofNat n.toNat)) s=⟨(s.data.toList++bs).toArray⟩
 | [],s=>by cases s;simp
 | b :: bs,s=>by
  rw[List.map_cons,List.foldl_cons,Sp bs]
  congr 1
  simp[ByteArray.push]
def stL (s:St):List UInt8:=if s≠⟨0,0⟩∧Z7 s=false then [] else Lib.itoa s.n++46 :: Lib.itoa s.r
theorem Z0V {W:World} {v:Value} {bs:List UInt8} (h:Z4 u8c 1 W v bs):(convert 64 9 v).run Tryz.prog W=.ok (.string ⟨bs.toArray⟩) W:=by
 obtain ⟨a,cap,rfl,hcap,hmax,hcs⟩:=h
 rw[run_convert_bytes_string W 64 9 5 a bs.length cap Tryz.underlying64 (by kernel_rfl) Tryz.underlying9]
 cases a with
 | none =>
  have hys:bs=[]:=Classical.byContradiction fun hn=>by obtain ⟨b,o,e,_⟩:=hcs hn;cases e
  subst hys
  simp[Conv.bytesToString]
  rfl
 | some ad =>
  have hl:=run_loadCells_list (P:=Tryz.prog) W ad ((bs.map fun x=>(x.toNat:Int)).map (Value.int .u8)) (fun j v hj=>by
   rw[List.map_map,List.getElem?_map] at hj
   cases hb:bs[j]? with
   | none=>rw[hb] at hj;cases hj
   | some x =>
    rw[hb] at hj
    cases hj
    obtain ⟨b,o,e,h4⟩:=hcs (by rintro rfl;simp at hb)
    cases e
    have:=h4 j x hb 0 _ rfl
    rw[Nat.mul_one,Nat.add_zero] at this
    rw[show (Addr.add ⟨b,o,none⟩ j)=⟨b,o+j,none⟩ from by unfold Addr.add;split <;> simp_all]
    exact this)
  have:=run_bytesToString (P:=Tryz.prog) W ad bs.length cap (bs.map fun x=>(x.toNat:Int)) (by simpa using hl)
  rw[this,Sp]
  simp
end Go.Proofs.YtlgipkemoldckaaGreatDoor
namespace Go.Proofs.YtlgipkemoldckaaGreatDoor
open Go.RowKit
def XP (a:Atr):List UInt8:=32 :: (a.name.toList++61 :: Yj a.value.toList)
def XZ (a:Atr):List UInt8:=a.name.toList++61 :: (Yj a.value.toList++[58])
def pcL (p:ByteArray × List Atr):List UInt8:=32 :: (p.2.flatMap XZ++Yj p.1.toList)
def idL (s:St):List UInt8:=if s=⟨0,0⟩ then [] else 32 :: 35 :: stL s
def WS (id:St) (k:ByteArray) (a:List Atr) (t:Pcs):List UInt8:=k.toList++(idL id++(a.flatMap XP++t.flatMap pcL))
mutual
def txN (d:Nat):Nd→List UInt8
 | .mk id k a t l=>List.replicate (2*d) 32++(WS id k a t++10 :: txK (d+1) l)
def txK (d:Nat):List Nd→List UInt8
 | []=>[]
 | n :: l=>txN d n++txK d l
end
theorem Nd.ind {p:Nd→Prop} (h:∀ i k az t l,(∀ n∈l,p n)→p (.mk i k az t l)):∀ n,p n
 | .mk i k az t l=>h i k az t l (fun n hn=>Nd.ind h n)
termination_by n=>SizeOf.sizeOf n
decreasing_by
 have:=List.sizeOf_lt_of_mem hn
 simp only[Nd.mk.sizeOf_spec]
 omega
def NdV.val (x:NdV):Value:=.agg #[.int .i64 x.id.n,.int .i64 x.id.r,.string x.kind,.slice x.attrs.a x.attrs.n x.attrs.cap,.slice x.text.a x.text.n x.text.cap,.slice x.kids.a x.kids.n x.kids.cap]
theorem Zu.node6 {D:Nat→Prop} {W:World} {v:Value} {vs:List NdV} (h:Zu D NdV.cells 6 W v vs) {k:Nat} {y:NdV} (hk:vs[k]?=some y):∃ b o c,v=.slice (some ⟨b,o,none⟩) vs.length c ∧
  W.cell? ⟨b,o+k*6,none⟩=some (.int .i64 y.id.n)∧W.cell? ⟨b,o+k*6+1,none⟩=some (.int .i64 y.id.r)∧W.cell? ⟨b,o+k*6+2,none⟩=some (.string y.kind)∧W.cell? ⟨b,o+k*6+3,none⟩=some (.slice y.attrs.a y.attrs.n y.attrs.cap) ∧
  W.cell? ⟨b,o+k*6+4,none⟩=some (.slice y.text.a y.text.n y.text.cap)∧W.cell? ⟨b,o+k*6+5,none⟩=some (.slice y.kids.a y.kids.n y.kids.cap):=by
 obtain ⟨⟨a,c,rfl,_,_,hh⟩,_⟩:=h
 obtain ⟨b,o,rfl,h1⟩:=hh (by intro e;rw[e] at hk;simp at hk)
 have:=h1 k y hk
 exact ⟨b,o,c,rfl,this 0 _ rfl,this 1 _ rfl,this 2 _ rfl,this 3 _ rfl,this 4 _ rfl,this 5 _ rfl⟩
theorem Zu.shp {α:Type} {D:Nat→Prop} {ea:α→List Value} {k:Nat} {W:World} {s:Sl} {l:List α} (h:Zu D ea k W (.slice s.a s.n s.cap) l):s.n=l.length∧l.length≤maxLen:=by
 obtain ⟨⟨a,c,e,h1,h2,_⟩,_⟩:=h
 injection e with _ e2 _
 exact ⟨e2,Nat.le_trans h1 h2⟩
theorem Y4.below {D:Nat→Prop} {W W':World} {u:Value} {P:Pcs} (h:Y4 D W u P) (hb:Below W.heap.size W W'):Y4 D W' u P:=h.ext (Ext.of_below (S:=fun _=>False) hb) (fun _ _ _ f=>f)
theorem Zu.below {α:Type} {D:Nat→Prop} {ea:α→List Value} {k:Nat} {W W':World} {v:Value} {l:List α} (h:Zu D ea k W v l) (hb:Below W.heap.size W W') (hk:∀ x,0<(ea x).length):Zu D ea k W' v l:=h.ext (Ext.of_below (S:=fun _=>False) hb) (fun _ _ _ f=>f) hk
def RN (n:Nd):Prop:=∀ (m:Nd) (b:Bool) (D1 D2:Nat→Prop) (x y:NdV) (w:World),(b=true↔n=m)→Zr D1 w x n→Zr D2 w y m →
 Calls Tryz.prog 15 #[x.val,y.val] w fun e w'=>e=.returned (.bool b)∧Below w.heap.size w w'
theorem Qr (xn xr yn yr:Int) (xk yk:ByteArray) (xa xt xs ya yt ys:Sl) (az az':List Atr) (t t':Pcs) (vs vs':List NdV) (l l':List Nd) (D1 D2:Nat→Prop) (b:Bool) (w:World)
  (hb:b=true↔(xn=yn∧xr=yr∧xk=yk∧az=az'∧t=t'∧l=l')) (ha1:Zu D1 Atr.cells 2 w (.slice xa.a xa.n xa.cap) az) (ha2:Zu D2 Atr.cells 2 w (.slice ya.a ya.n ya.cap) az')
  (hp1:Y4 D1 w (.slice xt.a xt.n xt.cap) t) (hp2:Y4 D2 w (.slice yt.a yt.n yt.cap) t') (hs1:Zu D1 NdV.cells 6 w (.slice xs.a xs.n xs.cap) vs) (hs2:Zu D2 NdV.cells 6 w (.slice ys.a ys.n ys.cap) vs')
  (hn1:Zb D1 w vs l) (hn2:Zb D2 w vs' l') (ih:∀ n∈l,RN n) :
  Calls Tryz.prog 15 #[.agg #[.int .i64 xn,.int .i64 xr,.string xk,.slice xa.a xa.n xa.cap,.slice xt.a xt.n xt.cap,.slice xs.a xs.n xs.cap],.agg #[.int .i64 yn,.int .i64 yr,.string yk,.slice ya.a ya.n ya.cap,.slice yt.a yt.n yt.cap,.slice ys.a ys.n ys.cap]] w fun e w'=>e=.returned (.bool b)∧Below w.heap.size w w':=by
 have hxn:=hs1.shp
 have hyn:=hs2.shp
 have hl1:=hn1.1
 have hl2:=hn2.1
 unfold maxLen at hxn hyn
 have hB0:Below w.heap.size w ((w.alloc (.cells #[.int .i64 xn,.int .i64 xr,.string xk,.slice xa.a xa.n xa.cap,.slice xt.a xt.n xt.cap,.slice xs.a xs.n xs.cap] 28)).alloc (.cells #[.int .i64 yn,.int .i64 yr,.string yk,.slice ya.a ya.n ya.cap,.slice yt.a yt.n yt.cap,.slice ys.a ys.n ys.cap] 28)):=((Below.refl _ _).alloc (Nat.le_refl _) _).alloc (by simp) _
 have hz1:((w.alloc (.cells #[.int .i64 xn,.int .i64 xr,.string xk,.slice xa.a xa.n xa.cap,.slice xt.a xt.n xt.cap,.slice xs.a xs.n xs.cap] 28)).alloc (.cells #[.int .i64 yn,.int .i64 yr,.string yk,.slice ya.a ya.n ya.cap,.slice yt.a yt.n yt.cap,.slice ys.a ys.n ys.cap] 28)).heap.size=w.heap.size+2:=by simp
 have x0:((w.alloc (.cells #[.int .i64 xn,.int .i64 xr,.string xk,.slice xa.a xa.n xa.cap,.slice xt.a xt.n xt.cap,.slice xs.a xs.n xs.cap] 28)).alloc (.cells #[.int .i64 yn,.int .i64 yr,.string yk,.slice ya.a ya.n ya.cap,.slice yt.a yt.n yt.cap,.slice ys.a ys.n ys.cap] 28)).cell? ⟨w.heap.size,0,none⟩=some (.int .i64 xn):=by go_simp
 have x1:((w.alloc (.cells #[.int .i64 xn,.int .i64 xr,.string xk,.slice xa.a xa.n xa.cap,.slice xt.a xt.n xt.cap,.slice xs.a xs.n xs.cap] 28)).alloc (.cells #[.int .i64 yn,.int .i64 yr,.string yk,.slice ya.a ya.n ya.cap,.slice yt.a yt.n yt.cap,.slice ys.a ys.n ys.cap] 28)).cell? ⟨w.heap.size,1,none⟩=some (.int .i64 xr):=by go_simp
 have x2:((w.alloc (.cells #[.int .i64 xn,.int .i64 xr,.string xk,.slice xa.a xa.n xa.cap,.slice xt.a xt.n xt.cap,.slice xs.a xs.n xs.cap] 28)).alloc (.cells #[.int .i64 yn,.int .i64 yr,.string yk,.slice ya.a ya.n ya.cap,.slice yt.a yt.n yt.cap,.slice ys.a ys.n ys.cap] 28)).cell? ⟨w.heap.size,2,none⟩=some (.string xk):=by go_simp
 have x3:((w.alloc (.cells #[.int .i64 xn,.int .i64 xr,.string xk,.slice xa.a xa.n xa.cap,.slice xt.a xt.n xt.cap,.slice xs.a xs.n xs.cap] 28)).alloc (.cells #[.int .i64 yn,.int .i64 yr,.string yk,.slice ya.a ya.n ya.cap,.slice yt.a yt.n yt.cap,.slice ys.a ys.n ys.cap] 28)).cell? ⟨w.heap.size,3,none⟩=some (.slice xa.a xa.n xa.cap):=by go_simp
 have x4:((w.alloc (.cells #[.int .i64 xn,.int .i64 xr,.string xk,.slice xa.a xa.n xa.cap,.slice xt.a xt.n xt.cap,.slice xs.a xs.n xs.cap] 28)).alloc (.cells #[.int .i64 yn,.int .i64 yr,.string yk,.slice ya.a ya.n ya.cap,.slice yt.a yt.n yt.cap,.slice ys.a ys.n ys.cap] 28)).cell? ⟨w.heap.size,4,none⟩=some (.slice xt.a xt.n xt.cap):=by go_simp
 have x5:((w.alloc (.cells #[.int .i64 xn,.int .i64 xr,.string xk,.slice xa.a xa.n xa.cap,.slice xt.a xt.n xt.cap,.slice xs.a xs.n xs.cap] 28)).alloc (.cells #[.int .i64 yn,.int .i64 yr,.string yk,.slice ya.a ya.n ya.cap,.slice yt.a yt.n yt.cap,.slice ys.a ys.n ys.cap] 28)).cell? ⟨w.heap.size,5,none⟩=some (.slice xs.a xs.n xs.cap):=by go_simp
 have y0:((w.alloc (.cells #[.int .i64 xn,.int .i64 xr,.string xk,.slice xa.a xa.n xa.cap,.slice xt.a xt.n xt.cap,.slice xs.a xs.n xs.cap] 28)).alloc (.cells #[.int .i64 yn,.int .i64 yr,.string yk,.slice ya.a ya.n ya.cap,.slice yt.a yt.n yt.cap,.slice ys.a ys.n ys.cap] 28)).cell? ⟨w.heap.size+1,0,none⟩=some (.int .i64 yn):=by go_simp
 have y1:((w.alloc (.cells #[.int .i64 xn,.int .i64 xr,.string xk,.slice xa.a xa.n xa.cap,.slice xt.a xt.n xt.cap,.slice xs.a xs.n xs.cap] 28)).alloc (.cells #[.int .i64 yn,.int .i64 yr,.string yk,.slice ya.a ya.n ya.cap,.slice yt.a yt.n yt.cap,.slice ys.a ys.n ys.cap] 28)).cell? ⟨w.heap.size+1,1,none⟩=some (.int .i64 yr):=by go_simp
 have y2:((w.alloc (.cells #[.int .i64 xn,.int .i64 xr,.string xk,.slice xa.a xa.n xa.cap,.slice xt.a xt.n xt.cap,.slice xs.a xs.n xs.cap] 28)).alloc (.cells #[.int .i64 yn,.int .i64 yr,.string yk,.slice ya.a ya.n ya.cap,.slice yt.a yt.n yt.cap,.slice ys.a ys.n ys.cap] 28)).cell? ⟨w.heap.size+1,2,none⟩=some (.string yk):=by go_simp
 have y3:((w.alloc (.cells #[.int .i64 xn,.int .i64 xr,.string xk,.slice xa.a xa.n xa.cap,.slice xt.a xt.n xt.cap,.slice xs.a xs.n xs.cap] 28)).alloc (.cells #[.int .i64 yn,.int .i64 yr,.string yk,.slice ya.a ya.n ya.cap,.slice yt.a yt.n yt.cap,.slice ys.a ys.n ys.cap] 28)).cell? ⟨w.heap.size+1,3,none⟩=some (.slice ya.a ya.n ya.cap):=by go_simp
 have y4:((w.alloc (.cells #[.int .i64 xn,.int .i64 xr,.string xk,.slice xa.a xa.n xa.cap,.slice xt.a xt.n xt.cap,.slice xs.a xs.n xs.cap] 28)).alloc (.cells #[.int .i64 yn,.int .i64 yr,.string yk,.slice ya.a ya.n ya.cap,.slice yt.a yt.n yt.cap,.slice ys.a ys.n ys.cap] 28)).cell? ⟨w.heap.size+1,4,none⟩=some (.slice yt.a yt.n yt.cap):=by go_simp
 have y5:((w.alloc (.cells #[.int .i64 xn,.int .i64 xr,.string xk,.slice xa.a xa.n xa.cap,.slice xt.a xt.n xt.cap,.slice xs.a xs.n xs.cap] 28)).alloc (.cells #[.int .i64 yn,.int .i64 yr,.string yk,.slice ya.a ya.n ya.cap,.slice yt.a yt.n yt.cap,.slice ys.a ys.n ys.cap] 28)).cell? ⟨w.heap.size+1,5,none⟩=some (.slice ys.a ys.n ys.cap):=by go_simp
 have H1:=Jh (And.intro ha1 (And.intro hp1 (And.intro hs1 hn1)))
 have H2:=Jh (And.intro ha2 (And.intro hp2 (And.intro hs2 hn2)))
 have IH:=Lib.hid ih
 have HBB:=Lib.hid hb
 have HB0:=Lib.hid hB0
 obtain ⟨sa,hsa⟩:=Je (decide (az=az'))
 obtain ⟨st,hst⟩:=Je (decide (t=t'))
 have HA:Hid (∀ (W:World),Below w.heap.size w W→Calls Tryz.prog 33 #[.slice xa.a xa.n xa.cap,.slice ya.a ya.n ya.cap] W fun e w'=>e=.returned (.bool sa)∧Below W.heap.size W w'):=Jh (fun W g=>by rw[←hsa];exact Uh _ _ az az' W (ha1.1.below g) (ha2.1.below g))
 have HT:Hid (∀ (W:World),Below w.heap.size w W→Calls Tryz.prog 34 #[.slice xt.a xt.n xt.cap,.slice yt.a yt.n yt.cap] W fun e w'=>e=.returned (.bool st)∧Below W.heap.size W w'):=Jh (fun W g=>by rw[←hst];exact RZ D1 D2 _ _ t t' W (hp1.below g) (hp2.below g))
 have HSA:=Lib.hid hsa
 have HST:=Lib.hid hst
 have HL:=Jh (And.intro hxn (And.intro hyn (And.intro hl1 hl2)))
 clear ha1 ha2 hp1 hp2 hs1 hs2 hn1 hn2 ih hb hsa hst hB0 hl1 hl2 hxn hyn
 have no:¬ (xn=yn∧xr=yr∧xk=yk∧az=az'∧t=t'∧l=l')→b=false:=fun h=>by
  cases b with
  | false=>rfl
  | true=>exact absurd (HBB.out.1 rfl) h
 have NO:=Lib.hid no
 clear no
 go_enter Tryz.func15,Tryz.ntmps15
 go_upto_region 1 with fail
 generalize ((w.alloc (.cells #[.int .i64 xn,.int .i64 xr,.string xk,.slice xa.a xa.n xa.cap,.slice xt.a xt.n xt.cap,.slice xs.a xs.n xs.cap] 28)).alloc (.cells #[.int .i64 yn,.int .i64 yr,.string yk,.slice ya.a ya.n ya.cap,.slice yt.a yt.n yt.cap,.slice ys.a ys.n ys.cap] 28))=w1 at *
 go_wp2_with fail
 refine (HA.out w1 HB0.out).mono ?_
 rintro e w2 ⟨rfl,b2⟩
 have hB2:=HB0.out.trans (b2.mono HB0.out.size)
 replace x0:=Z0 b2 x0
 replace x1:=Z0 b2 x1
 replace x2:=Z0 b2 x2
 replace x3:=Z0 b2 x3
 replace x4:=Z0 b2 x4
 replace x5:=Z0 b2 x5
 replace y0:=Z0 b2 y0
 replace y1:=Z0 b2 y1
 replace y2:=Z0 b2 y2
 replace y3:=Z0 b2 y3
 replace y4:=Z0 b2 y4
 replace y5:=Z0 b2 y5
 have HB2:=Lib.hid hB2
 have hz2:=b2.size
 clear b2 hB2
 go_upto_region 2 with fail
 go_wp2_with fail
 refine (HT.out w2 HB2.out).mono ?_
 rintro e w3 ⟨rfl,b3⟩
 have hB3:=HB2.out.trans (b3.mono HB2.out.size)
 replace x0:=Z0 b3 x0
 replace x1:=Z0 b3 x1
 replace x2:=Z0 b3 x2
 replace x3:=Z0 b3 x3
 replace x4:=Z0 b3 x4
 replace x5:=Z0 b3 x5
 replace y0:=Z0 b3 y0
 replace y1:=Z0 b3 y1
 replace y2:=Z0 b3 y2
 replace y3:=Z0 b3 y3
 replace y4:=Z0 b3 y4
 replace y5:=Z0 b3 y5
 have HB3:=Lib.hid hB3
 have hz3:=b3.size
 clear b3 hB3
 go_upto_region 3 with fail
 by_cases e1:¬ (xn=yn)
 ·have hbf:=NO.out (fun h=>e1 h.1)
  subst hbf
  go_wp2_with fail
  go_ret
  exact ⟨rfl,HB3.out⟩
 replace e1:=Classical.not_not.1 e1
 subst e1
 by_cases e2:¬ (xr=yr)
 ·have hbf:=NO.out (fun h=>e2 h.2.1)
  subst hbf
  go_wp2_with fail
  go_ret
  exact ⟨rfl,HB3.out⟩
 replace e2:=Classical.not_not.1 e2
 subst e2
 by_cases e3:¬ (xk=yk)
 ·have hbf:=NO.out (fun h=>e3 h.2.2.1)
  have e3b:(xk.toList == yk.toList)=false:=by simpa using fun e=>e3 ((ZS _ _).1 e)
  subst hbf
  clear e3
  go_wp2_with fail
  go_ret
  exact ⟨rfl,HB3.out⟩
 replace e3:=Classical.not_not.1 e3
 subst e3
 cases sa with
 | false =>
  have hbf:=NO.out (fun h=>by have:=HSA.out;rw[decide_eq_false_iff_not] at this;exact this h.2.2.2.1)
  subst hbf
  go_wp2_with fail
  go_ret
  exact ⟨rfl,HB3.out⟩
 | true =>
  cases st with
  | false =>
   have hbf:=NO.out (fun h=>by have:=HST.out;rw[decide_eq_false_iff_not] at this;exact this h.2.2.2.2.1)
   subst hbf
   go_wp2_with fail
   go_ret
   exact ⟨rfl,HB3.out⟩
  | true =>
   have haz:az=az':=by have:=HSA.out;rwa [decide_eq_true_eq] at this
   have htt:t=t':=by have:=HST.out;rwa [decide_eq_true_eq] at this
   have HEQ:=Jh (And.intro haz htt)
   clear haz htt
   by_cases hll:¬ (xs.n=ys.n)
   ·have hbf:=NO.out (fun h=>hll (by rw[HL.out.1.1,HL.out.2.1.1,HL.out.2.2.1,HL.out.2.2.2,h.2.2.2.2.2]))
    have hl9:(((xs.n:Nat):Int) != ((ys.n:Nat):Int))=true:=by simp;omega
    subst hbf
    clear hll
    go_wp2_with fail
    go_ret
    exact ⟨rfl,HB3.out⟩
   replace hll:=Classical.not_not.1 hll
   have hl9:(((xs.n:Nat):Int) != ((ys.n:Nat):Int))=false:=by simp[hll]
   have HLL:=Lib.hid hll
   clear hll
   have hxm:xs.n≤9223372036854775807:=by have:=HL.out.1;omega
   skip
   go_wp2_with fail
   go_loopg [7] xs.n (fun g iv wr=>∃ k:Nat,g=xs.n - k∧k≤xs.n∧iv=.int .i64 k∧Hid (∀ j,j<k→l[j]?=l'[j]?)∧Hid (Below w3.heap.size w3 wr))
   case atStart=>exact ⟨0,by omega,by omega,rfl,Jh (fun j hj=>absurd hj (by omega)),Jh (Below.refl _ _)⟩
   case round =>
    obtain ⟨k,hg,hk,rfl,HP,HB⟩:=hrel
    have HG:=Lib.hid hg
    clear hg
    replace x5:=Z0 HB.out x5
    replace y5:=Z0 HB.out y5
    have HBW:=Jh (HB3.out.trans (HB.out.mono HB3.out.size))
    by_cases hkl:k<xs.n
    ·have hkx:k<vs.length:=by have:=HL.out.1.1;omega
     have hky:k<vs'.length:=by have:=HL.out.2.1.1;have:=HLL.out;omega
     obtain ⟨x,hx⟩:∃ x,vs[k]?=some x:=⟨_,List.getElem?_eq_getElem hkx⟩
     obtain ⟨y,hy⟩:∃ x,vs'[k]?=some x:=⟨_,List.getElem?_eq_getElem hky⟩
     obtain ⟨p,hp⟩:∃ x,l[k]?=some x:=⟨_,List.getElem?_eq_getElem (by have:=HL.out.2.2.1;omega)⟩
     obtain ⟨q,hq⟩:∃ x,l'[k]?=some x:=⟨_,List.getElem?_eq_getElem (by have:=HL.out.2.2.2;omega)⟩
     obtain ⟨ba,oa,ca,ea,u0,u1,u2,u3,u4,u5⟩:=(H1.out.2.2.1.below HBW.out (fun _=>Nat.zero_lt_succ 5)).node6 hx
     obtain ⟨bb,ob,cb,eb,v0,v1,v2,v3,v4,v5⟩:=(H2.out.2.2.1.below HBW.out (fun _=>Nat.zero_lt_succ 5)).node6 hy
     injection ea with ea1 ea2 ea3
     injection eb with eb1 eb2 eb3
     rw[ea1] at x5
     rw[eb1] at y5
     have hNx:=(H1.out.2.2.2.2 k x p hx hp).belowW HBW.out
     have hNy:=(H2.out.2.2.2.2 k y q hy hq).belowW HBW.out
     obtain ⟨sm,hsm⟩:∃ sm:Bool,(sm=true↔p=q):=by
      by_cases e:p=q
      ·exact ⟨true,by simp[e]⟩
      ·exact ⟨false,by simp[e]⟩
     have HC:Hid (∀ (W:World),Below wr.heap.size wr W→Calls Tryz.prog 15 #[x.val,y.val] W fun e w'=>e=.returned (.bool sm)∧Below W.heap.size W w'):=Jh (fun W g=>IH.out p (List.mem_of_getElem? hp) q sm D1 D2 x y W hsm (hNx.belowW g) (hNy.belowW g))
     unfold NdV.val at HC
     have HPQ:=Jh (And.intro hp (And.intro hq hsm))
     clear ea1 ea2 ea3 eb1 eb2 eb3 hx hy hNx hNy hp hq hsm
     have hkk:(k:Int)<(xs.n:Int):=by omega
     have hkq:(k:Int)<(ys.n:Int):=by have:=HLL.out;omega
     go_upto_region 8 with fail
     go_region_held3 (fun W=>W.cell? ⟨w.heap.size,5,none⟩=some (.slice (some ⟨ba,oa,none⟩) xs.n xs.cap)∧W.cell? ⟨w.heap.size+1,5,none⟩=some (.slice (some ⟨bb,ob,none⟩) ys.n ys.cap)∧W.cell? ⟨ba,oa+k*6,none⟩=some (.int .i64 x.id.n)∧W.cell? ⟨ba,oa+k*6+1,none⟩=some (.int .i64 x.id.r)∧W.cell? ⟨ba,oa+k*6+2,none⟩=some (.string x.kind)∧W.cell? ⟨ba,oa+k*6+3,none⟩=some (.slice x.attrs.a x.attrs.n x.attrs.cap)∧W.cell? ⟨ba,oa+k*6+4,none⟩=some (.slice x.text.a x.text.n x.text.cap)∧W.cell? ⟨ba,oa+k*6+5,none⟩=some (.slice x.kids.a x.kids.n x.kids.cap)∧W.cell? ⟨bb,ob+k*6,none⟩=some (.int .i64 y.id.n)∧W.cell? ⟨bb,ob+k*6+1,none⟩=some (.int .i64 y.id.r)∧W.cell? ⟨bb,ob+k*6+2,none⟩=some (.string y.kind)∧W.cell? ⟨bb,ob+k*6+3,none⟩=some (.slice y.attrs.a y.attrs.n y.attrs.cap)∧W.cell? ⟨bb,ob+k*6+4,none⟩=some (.slice y.text.a y.text.n y.text.cap)∧W.cell? ⟨bb,ob+k*6+5,none⟩=some (.slice y.kids.a y.kids.n y.kids.cap)) (first|exact ⟨x5,y5,u0,u1,u2,u3,u4,u5,v0,v1,v2,v3,v4,v5⟩|exact ⟨Z0 b5 x5,Z0 b5 y5,Z0 b5 u0,Z0 b5 u1,Z0 b5 u2,Z0 b5 u3,Z0 b5 u4,Z0 b5 u5,Z0 b5 v0,Z0 b5 v1,Z0 b5 v2,Z0 b5 v3,Z0 b5 v4,Z0 b5 v5⟩) ((go_at_call 15;((with_reducible refine (HC.out _ ?hbw).mono ?_) <;> first|(rintro e w5 ⟨rfl,b5⟩;simp only[ZR,ZJ] at b5)|exact (Below.refl _ _).drew)))
     have HB5:=Jh (HBW.out.trans (b5.mono HBW.out.size))
     have HB6:Hid (Below w3.heap.size w3 w5):=Jh (HB.out.trans (b5.mono HB.out.size))
     cases sm with
     | false =>
      have hbf:=NO.out (fun h=>by
       have e1:=HPQ.out.1
       rw[h.2.2.2.2.2,HPQ.out.2.1] at e1
       have:=HPQ.out.2.2.2 (Option.some.inj e1).symm
       cases this)
      subst hbf
      go_wp2_with fail
      go_ret
      exact ⟨rfl,HB5.out⟩
     | true =>
      have HN2:Hid (∀ j,j<k+1→l[j]?=l'[j]?):=Jh (fun j hj=>by
       by_cases hjk:j<k
       ·exact HP.out j hjk
       ·have:j=k:=by omega
        subst this
        rw[HPQ.out.1,HPQ.out.2.1,HPQ.out.2.2.1 rfl])
      go_wp2_with fail
      go_roundg (xs.n - (k+1))
      case measure=>rw[HG.out];omega
      case rel=>exact ⟨k+1,rfl,by omega,by go_num,HN2,HB6⟩
    ·have hll9:l.length=l'.length:=by rw[←HL.out.2.2.1,←HL.out.2.2.2,←HL.out.1.1,←HL.out.2.1.1];exact HLL.out
     have hbt:b=true:=HBB.out.2 ⟨by first|exact trivial|rfl,by first|exact trivial|rfl,by first|exact trivial|rfl,HEQ.out.1,HEQ.out.2,U3 hll9 HP.out (by have:=HL.out.1.1;have:=HL.out.2.2.1;omega)⟩
     have hkk:¬ ((k:Int)<(xs.n:Int)):=by omega
     subst hbt
     clear hll9
     go_wp2_with fail
     go_ret
     exact ⟨rfl,HBW.out⟩
theorem Z02 (n:Nd):RN n:=by
 induction n using Nd.ind with
 | _ i k az t l ih =>
  rintro ⟨i',k',az',t',l'⟩ b D1 D2 x y w hb h1 h2
  obtain ⟨e1,e2,ha,hp,vs,hs,hn⟩:=h1.parts
  obtain ⟨e1',e2',ha',hp',vs',hs',hn'⟩:=h2.parts
  obtain ⟨⟨xn,xr⟩,xk,xa,xt,xs⟩:=x
  obtain ⟨⟨yn,yr⟩,yk,ya,yt,ys⟩:=y
  simp only[Nd.id,Nd.kind,Nd.attrs,Nd.text,Nd.kids] at e1 e2 e1' e2' ha hp hn ha' hp' hn'
  subst e1 e2 e1' e2'
  refine Qr xn xr yn yr xk yk xa xt xs ya yt ys az az' t t' vs vs' l l' D1 D2 b w ?_ ha ha' hp hp' hs hs' hn hn' ih
  rw[hb]
  simp only[Nd.mk.injEq,St.mk.injEq]
  constructor
  ·rintro ⟨⟨h1,h2⟩,h3,h4,h5,h6⟩;exact ⟨h1,h2,h3,h4,h5,h6⟩
  ·rintro ⟨h1,h2,h3,h4,h5,h6⟩;exact ⟨⟨h1,h2⟩,h3,h4,h5,h6⟩
theorem Z3s (w:World):X3 (((w.alloc (.map #[] 0)).alloc (.map #[] 0)).alloc (.cells #[.map (some w.heap.size),.map (some (w.heap.size+1))] 93)) (w.heap.size+2) w.heap.size (w.heap.size+1) [] []:=by
 refine ⟨?_,?_,?_,?_,by omega⟩
 ·go_simp
 ·go_simp
 ·exact ((Z6.made w).alloc _).alloc _
 ·have:=(Z6.made (ek:=St.val) (ev:=Value.bool) (w.alloc (.map #[] 0))).alloc (.cells #[.map (some w.heap.size),.map (some (w.heap.size+1))] 93)
  simpa using this
theorem Z38 (w:World):Calls Tryz.prog 24 #[] w fun e w' =>
  e=.returned (.pointer (some ⟨w.heap.size+2,0,none⟩))∧X3 w' (w.heap.size+2) w.heap.size (w.heap.size+1) [] []∧Below w.heap.size w w'∧w'.heap.size=w.heap.size+3 :=
 (Z2W w).mono fun e w' ⟨he,hw⟩=>by
  subst hw
  exact ⟨he,Z3s w,(((Below.refl _ _).alloc (Nat.le_refl _) _).alloc (by simp) _).alloc (by simp <;> omega) _,by simp⟩
end Go.Proofs.YtlgipkemoldckaaGreatDoor
namespace Go.Proofs.YtlgipkemoldckaaGreatDoor
open Go.RowKit Go.Deep
theorem Tz {A:List Ch} (h:A.Pairwise (fun a b=>a.block≠b.block)):∀ S:List St,∃ C,Gth A (fun s=>s∈S) C
 | []=>⟨A,(Gth.start h).mono (fun s=>by simp)⟩
 | s :: S=>by
  obtain ⟨C,hC⟩:=Tz h S
  exact ⟨Yy C s,(hC.more s).mono (fun t=>by simp[or_comm])⟩
theorem Q5 {l:List El} {h:Zi} {A:List Ch} (hA:Zm h A) (hk:ZV h):∃ D,Zm (Y2 l h A) D:=by
 obtain ⟨C,hC⟩:=Tz (hA.2.imp (fun {a b} h e=>by rw[e] at h;exact Zl _ h)) ((ZH l).map (·.1)++A.map Ch.under)
 obtain ⟨D,hD,_⟩:=RQ hA hk (hC.mono (T:=fun s=>s∈(ZH l).map (·.1)∨∃ d∈A,d.under=s) (fun s=>by rw[List.mem_append,List.mem_map (f:=Ch.under)]))
 exact ⟨D,hD⟩
noncomputable def Vf (l:List El) (mv:List RMv) (ws:List Za) (ms:List OpD) (A:List Ch) (n:Nat):Nd:=(Ye l ms (Vr (Zv ws).1) (Y3 (ZT mv)) A).tree (Xx l ms) n
theorem Z0c {l:List El} {mv:List RMv} {ws:List Za} {ms:List OpD} {A D:List Ch} (hD:Zm (Y2 l (Y3 (ZT mv)) A) D) {n k:Nat} (hn:D.length+1≤n) (hk:D.length+1≤k):Vf l mv ws ms A n=Vf l mv ws ms A k:=by
 have hkf:=Ww (l:=l) (A:=A) (YT (ZT mv))
 have haf:=Ws (l:=l) (A:=A) (VC (ZT mv)) (VJ mv)
 have e0:Y6 (Ye l ms (Vr (Zv ws).1) (Y3 (ZT mv)) A).H 0 ⟨0,0⟩:=YI (VJ mv)
 have one:∀ n,D.length+1≤n→(Ye l ms (Vr (Zv ws).1) (Y3 (ZT mv)) A).row n ⟨0,0⟩=(Ye l ms (Vr (Zv ws).1) (Y3 (ZT mv)) A).row (D.length+1) ⟨0,0⟩:=fun n hn=>by
  have:=Vw.row_same (V:=Ye l ms (Vr (Zv ws).1) (Y3 (ZT mv)) A) hkf haf hD e0 (n:=D.length+1) (by omega) (k:=n - (D.length+1))
  rwa [show D.length+1+(n - (D.length+1))=n by omega] at this
 unfold Vf Vw.tree
 rw[one n hn,one k hk]
def SE (l:List El) (mv:List RMv) (ws:List Za) (ms:List OpD) (w:World) (e:Ending) (w':World):Prop :=
 ∃ (A D:List Ch) (N:Nat) (x y:NdV),e=.returned (.tuple #[x.val,y.val])∧Zm (Y3 (ZT mv)) A∧Zm (Y2 l (Y3 (ZT mv)) A) D∧D.length+1≤N ∧
  Zr (fun k=>w.heap.size≤k) w' x (Vf l mv ws ms A N)∧Zr (fun k=>w.heap.size≤k) w' y (Vf l mv ws ms A N)∧Below w.heap.size w w'
def VG (w:World) (b:Nat) (x:NdV):World:=(((((w.setCell ⟨b,0,none⟩ (.int .i64 x.id.n)).setCell ⟨b,1,none⟩ (.int .i64 x.id.r)).setCell ⟨b,2,none⟩ (.string x.kind)).setCell ⟨b,3,none⟩ (.slice x.attrs.a x.attrs.n x.attrs.cap)).setCell ⟨b,4,none⟩ (.slice x.text.a x.text.n x.text.cap)).setCell ⟨b,5,none⟩ (.slice x.kids.a x.kids.n x.kids.cap)
theorem TI {w:World} {b:Nat} {x:NdV} {i:St} {k:ByteArray} {p q r:Sl} (h:NdB w b i k p q r):NdB (VG w b x) b x.id x.kind x.attrs x.text x.kids:=by
 have h:=show w.heap[b]?=_ from h
 show (World.heap _)[b]?=_
 simp only[VG,World.setCell,Array.getElem?_modify,if_true,h]
 rfl
theorem XI (w:World) (b:Nat) (x:NdV):Ext (·=b) w (VG w b x) :=
 ((((((Ext.refl (·=b) w).setCell (p:=⟨b,0,none⟩) (.inr rfl) _).setCell (p:=⟨b,1,none⟩) (.inr rfl) _).setCell (p:=⟨b,2,none⟩) (.inr rfl) _).setCell (p:=⟨b,3,none⟩) (.inr rfl) _).setCell (p:=⟨b,4,none⟩) (.inr rfl) _).setCell (p:=⟨b,5,none⟩) (.inr rfl) _
theorem R7 {fn:Func} {p t:Tmp} {ty:TypeId} (h:fn.results=#[.cell p ty,.cell t ty]) (tmps:Array Value) (P:Program) (w:World) (g f:Nat) (T U:TypeId) (cs ds:Array Value) (fr fs:Nat × Nat) (d:TypeDesc)
  (hp:tmps.getD p undef=.pointer (some ⟨g,0,none⟩)) (ht:tmps.getD t undef=.pointer (some ⟨f,0,none⟩)) (hg:w.heap[g]?=some (.cells cs T fr)) (hf:w.heap[f]?=some (.cells ds U fs))
  (hd:(match d with|.struct _|.array _ _=>true|_=>false)=true) (hu:P.underlying ty=some d) (hi:(P.info? ty).map (·.size)=some cs.size) (hj:(P.info? ty).map (·.size)=some ds.size) :
  (results fn tmps).run P w=.ok (.tuple #[.agg cs,.agg ds]) w:=by
 have hp':tmps[p]?.getD undef=.pointer (some ⟨g,0,none⟩):=by simpa using hp
 have ht':tmps[t]?.getD undef=.pointer (some ⟨f,0,none⟩):=by simpa using ht
 simp[results,h,hp',ht',asAddr,run_loadVar_row (P:=P) w g T ty cs fr d hg hu (by cases d <;> first|rfl|(cases hd)) hi,run_loadVar_row (P:=P) w f U ty ds fs d hf hu (by cases d <;> first|rfl|(cases hd)) hj]
theorem Z2E {W:World} {a:Option Addr} {n c:Nat} {l:List Za} (h:Z4 Za.cells 6 W (.slice a n c) l) {k:Nat} {x:Za} (hx:l[k]?=some x):∃ b o,a=some ⟨b,o,none⟩∧W.cell? ⟨b,o+k*6,none⟩=some (.int .i64 x.at_.n)∧W.cell? ⟨b,o+k*6+1,none⟩=some (.int .i64 x.at_.r) ∧
  W.cell? ⟨b,o+k*6+2,none⟩=some (.int .i64 x.blk.n)∧W.cell? ⟨b,o+k*6+3,none⟩=some (.int .i64 x.blk.r)∧W.cell? ⟨b,o+k*6+4,none⟩=some (.string x.name)∧W.cell? ⟨b,o+k*6+5,none⟩=some (.string x.value):=by
 obtain ⟨a',c',e,_,_,hh⟩:=h
 injection e with e1 _ _
 subst e1
 obtain ⟨b,o,rfl,h1⟩:=hh (by intro e;rw[e] at hx;simp at hx)
 have:=h1 k x hx
 exact ⟨b,o,rfl,this 0 _ rfl,this 1 _ rfl,this 2 _ rfl,this 3 _ rfl,this 4 _ rfl,this 5 _ rfl⟩
def Wv (s:Nat) (ws:List Za) (w:World):Prop :=
 X3 w (s+5) (s+3) (s+4) (Zv ws).1 (Zv ws).2∧∃ v,w.heap[s+6]?=some (.cells #[v] 81 (0,0))∧Own Za.cells 6 58 (s+6) w v (X4 ws)
theorem Wv.below {s:Nat} {ws:List Za} {w w':World} (h:Wv s ws w) (hb:Below w.heap.size w w'):Wv s ws w':=by
 obtain ⟨h1,v,h2,h3⟩:=h
 exact ⟨h1.below hb,v,(hb.block _ (Array.getElem?_eq_some_iff.1 h2).1).trans h2,h3.ext (Ext.of_below (S:=fun _=>False) hb) (fun _ _ f=>f)⟩
theorem Z2n {s:Nat} {ws:List Za} {w:World} (h:Wv s ws w) (hl:ws.length≤60) (W:World) (hW:Below w.heap.size w W) (u:St) :
  Calls Tryz.prog 44 #[.pointer (some ⟨s+5,0,none⟩),.agg #[.int .i64 u.n,.int .i64 u.r]] W fun e w'=>Wk W (Vr (Zv ws).1 u) e w':=by
 have h1:=(h.below hW).1
 have hlen:=TK ws
 refine (Z2f (s+5) (s+3) (s+4) _ _ u.n u.r W h1 (by omega)).mono ?_
 rintro e w' ⟨v,l,rfl,ho,hp,hs,hb⟩
 have hal:=Z09 h1.hv.nodup hp hs
 rw[show (⟨u.n,u.r⟩:St)=u from rfl] at hal hp
 rw[QF hal]
 exact ⟨v,rfl,ho,by have:=hp.length_eq;have:=U5 (Zv ws).1 u;omega,hb⟩
theorem Z1a {s:Nat} {ws:List Za} {w:World} (h:Wv s ws w) (hl:ws.length≤60) (W:World) (hW:Below w.heap.size w W) (u:St) :
  Calls Tryz.prog 108 #[.pointer (some ⟨s+6,0,none⟩),.agg #[.int .i64 u.n,.int .i64 u.r]] W fun e w'=>Wk W (Vr (Zv ws).1 u) e w':=by
 obtain ⟨hac,hse⟩:=Z15 ws
 have hlen:=Sz ws
 have hvl:=TK ws
 have hmn:=(h.below hW).1.hv.nodup
 refine (Z1u (s+6) (s+6) (X4 ws) u.n u.r W (h.below hW).2 (by omega) hac.right).mono ?_
 rintro e w' ⟨v,O,rfl,ho,hg,hb⟩
 have hal:=hg.allList hac.right (vs:=(Zv ws).1) (fun p=>by rw[←hse];exact Z2X hac p)
 rw[show (⟨u.n,u.r⟩:St)=u from rfl] at hal
 rw[QF hal]
 refine ⟨v,rfl,ho,?_,hb⟩
 have hnd:O.Pairwise (fun a c=>a≠c):=hal.rising.imp (fun {a c} h e=>by rw[e] at h;exact List.lt_irrefl _ h)
 have:=(show O.Nodup from hnd).length_le_of_subset (l₂:=(Zv ws).1.map (fun p=>(⟨p.1.name,p.2.value⟩:Atr))) (fun a ha=>by
  obtain ⟨x,hx,hv⟩:=(hal.mem a).1 ha
  exact List.mem_map.2 ⟨(⟨u,a.name⟩,x),Tl hx,by cases a;simp_all⟩)
 rw[List.length_map] at this
 omega
theorem Z1n (a0 a1 a2 a3:Option Addr) (n0 n1 n2 n3 c0 c1 c2 c3:Nat) (l:List El) (mv:List RMv) (ws:List Za) (ms:List OpD) (w:World) (h0:Z4 El.cells 4 w (.slice a0 n0 c0) l) (h1:Z4 RMv.cells 7 w (.slice a1 n1 c1) mv) (h2:Z4 Za.cells 6 w (.slice a2 n2 c2) ws)
  (h3:Z4 OpD.cells 26 w (.slice a3 n3 c3) ms) (hl:l.length≤60) (hul:XJ l) (hmv:mv.length≤60) (hws:ws.length≤60) (hms:ms.length≤30) :
  Calls Tryz.prog 17 #[.agg #[.slice a0 n0 c0,.slice a1 n1 c1,.slice a2 n2 c2,.slice a3 n3 c3]] w fun e w'=>SE l mv ws ms w e w':=by
 have e0:=h0.len
 have e1:=h1.len
 have e2:=h2.len
 have e3:=h3.len
 have hB0:Below w.heap.size w (((w.alloc (.cells #[.slice a0 n0 c0,.slice a1 n1 c1,.slice a2 n2 c2,.slice a3 n3 c3] 39)).alloc (.cells #[.int .i64 0,.int .i64 0,.string ⟨#[]⟩,.slice none 0 0,.slice none 0 0,.slice none 0 0] 28)).alloc (.cells #[.int .i64 0,.int .i64 0,.string ⟨#[]⟩,.slice none 0 0,.slice none 0 0,.slice none 0 0] 28)):=(((Below.refl _ _).alloc (Nat.le_refl _) _).alloc (by simp) _).alloc (by simp;omega) _
 have hz1:(((w.alloc (.cells #[.slice a0 n0 c0,.slice a1 n1 c1,.slice a2 n2 c2,.slice a3 n3 c3] 39)).alloc (.cells #[.int .i64 0,.int .i64 0,.string ⟨#[]⟩,.slice none 0 0,.slice none 0 0,.slice none 0 0] 28)).alloc (.cells #[.int .i64 0,.int .i64 0,.string ⟨#[]⟩,.slice none 0 0,.slice none 0 0,.slice none 0 0] 28)).heap.size=w.heap.size+3:=by simp
 have hmd:(((w.alloc (.cells #[.slice a0 n0 c0,.slice a1 n1 c1,.slice a2 n2 c2,.slice a3 n3 c3] 39)).alloc (.cells #[.int .i64 0,.int .i64 0,.string ⟨#[]⟩,.slice none 0 0,.slice none 0 0,.slice none 0 0] 28)).alloc (.cells #[.int .i64 0,.int .i64 0,.string ⟨#[]⟩,.slice none 0 0,.slice none 0 0,.slice none 0 0] 28)).heap[w.heap.size]?=some (.cells #[.slice a0 n0 c0,.slice a1 n1 c1,.slice a2 n2 c2,.slice a3 n3 c3] 39):=(Below.heap_alloc _ _ _ (by simp;omega)).trans ((Below.heap_alloc _ _ _ (by simp)).trans (World.alloc_heap_new w _))
 have hn2:NdB (((w.alloc (.cells #[.slice a0 n0 c0,.slice a1 n1 c1,.slice a2 n2 c2,.slice a3 n3 c3] 39)).alloc (.cells #[.int .i64 0,.int .i64 0,.string ⟨#[]⟩,.slice none 0 0,.slice none 0 0,.slice none 0 0] 28)).alloc (.cells #[.int .i64 0,.int .i64 0,.string ⟨#[]⟩,.slice none 0 0,.slice none 0 0,.slice none 0 0] 28)) (w.heap.size+1) ⟨0,0⟩ ⟨#[]⟩ Z2 Z2 Z2:=by
  have:=(Xb (w.alloc (.cells #[.slice a0 n0 c0,.slice a1 n1 c1,.slice a2 n2 c2,.slice a3 n3 c3] 39))).ext ((Ext.refl (fun _=>False) _).alloc (.cells #[.int .i64 0,.int .i64 0,.string ⟨#[]⟩,.slice none 0 0,.slice none 0 0,.slice none 0 0] 28)) (fun f=>f)
  rwa [World.size_alloc] at this
 have hn3:NdB (((w.alloc (.cells #[.slice a0 n0 c0,.slice a1 n1 c1,.slice a2 n2 c2,.slice a3 n3 c3] 39)).alloc (.cells #[.int .i64 0,.int .i64 0,.string ⟨#[]⟩,.slice none 0 0,.slice none 0 0,.slice none 0 0] 28)).alloc (.cells #[.int .i64 0,.int .i64 0,.string ⟨#[]⟩,.slice none 0 0,.slice none 0 0,.slice none 0 0] 28)) (w.heap.size+2) ⟨0,0⟩ ⟨#[]⟩ Z2 Z2 Z2:=by
  have:=Xb ((w.alloc (.cells #[.slice a0 n0 c0,.slice a1 n1 c1,.slice a2 n2 c2,.slice a3 n3 c3] 39)).alloc (.cells #[.int .i64 0,.int .i64 0,.string ⟨#[]⟩,.slice none 0 0,.slice none 0 0,.slice none 0 0] 28))
  rwa [World.size_alloc,World.size_alloc] at this
 have HIN:=Jh (And.intro h0 (And.intro h1 (And.intro h2 h3)))
 have HLN:=Jh (And.intro e0.1 (And.intro e1.1 (And.intro e2.1 e3.1)))
 have HLE:=Jh (And.intro hl (And.intro hmv (And.intro hws (And.intro hms hul))))
 have HB0:=Lib.hid hB0
 have HZ1:=Lib.hid hz1
 have HMD:=Lib.hid hmd
 have HN:=Jh (And.intro hn2 hn3)
 have hn2n:n2≤9223372036854775807:=by omega
 clear h0 h1 h2 h3 e0 e1 e2 e3 hl hmv hws hms hul hB0 hz1 hmd hn2 hn3
 go_enter Tryz.func17,Tryz.ntmps17
 go_upto_region 1 with fail
 generalize (((w.alloc (.cells #[.slice a0 n0 c0,.slice a1 n1 c1,.slice a2 n2 c2,.slice a3 n3 c3] 39)).alloc (.cells #[.int .i64 0,.int .i64 0,.string ⟨#[]⟩,.slice none 0 0,.slice none 0 0,.slice none 0 0] 28)).alloc (.cells #[.int .i64 0,.int .i64 0,.string ⟨#[]⟩,.slice none 0 0,.slice none 0 0,.slice none 0 0] 28))=w1 at *
 go_wp2_with fail
 refine (Z38 w1).mono ?_
 rintro e w2 ⟨rfl,hreg,b2,hz2⟩
 have hrb:(w2.alloc (.cells #[.slice none 0 0] 81)).heap[w2.heap.size]?=some (.cells #[.slice none 0 0] 81):=World.alloc_heap_new w2 _
 rw[HZ1.out] at hreg hz2 ⊢
 rw[show w.heap.size+3+2=w.heap.size+5 from rfl]
 rw[hz2] at hrb
 have HRA:Hid (Wv w.heap.size [] (w2.alloc (.cells #[.slice none 0 0] 81))):=Lib.hid ⟨hreg.below ((Below.refl _ _).alloc (Nat.le_refl _) _),.slice none 0 0,hrb,Own.nil⟩
 have HB2:=Jh ((show Below (w.heap.size+3) w1 w2 from b2.mono (by have:=HZ1.out;omega)).alloc (by have:=HZ1.out;omega) (.cells #[.slice none 0 0] 81))
 have HZ2:=Lib.hid hz2
 have HZA:Hid (w.heap.size+7≤(w2.alloc (.cells #[.slice none 0 0] 81)).heap.size):=Jh (by rw[World.size_alloc];omega)
 clear hreg b2 hrb
 go_upto_region 3 with fail
 rw[show w.heap.size+3+3=w.heap.size+6 from rfl]
 clear hz2
 generalize w2.alloc (.cells #[.slice none 0 0] 81)=wa at *
 go_wp2_with fail
 go_loopg [6] n2 (fun g iv wr=>∃ k:Nat,g=n2 - k∧k≤n2∧iv=.int .i64 k∧Hid (Wv w.heap.size (ws.take k) wr)∧Hid (Below (w.heap.size+3) w1 wr)∧Hid (w.heap.size+7≤wr.heap.size))
 case atStart=>exact ⟨0,by omega,Nat.zero_le _,rfl,HRA,HB2,HZA⟩
 case round =>
  obtain ⟨k,hg,hk,rfl,HR,HB,HZ⟩:=hrel
  have HG:=Lib.hid hg
  clear hg
  have HBW:=Jh (HB0.out.trans (HB.out.mono (by omega)))
  have hmd:=(HB.out.block w.heap.size (by omega)).trans HMD.out
  have x0:wr.cell? ⟨w.heap.size,0,none⟩=some (.slice a0 n0 c0):=by rw[Lib.cell_of_heap hmd];rfl
  have x1:wr.cell? ⟨w.heap.size,1,none⟩=some (.slice a1 n1 c1):=by rw[Lib.cell_of_heap hmd];rfl
  have x2:wr.cell? ⟨w.heap.size,2,none⟩=some (.slice a2 n2 c2):=by rw[Lib.cell_of_heap hmd];rfl
  have x3:wr.cell? ⟨w.heap.size,3,none⟩=some (.slice a3 n3 c3):=by rw[Lib.cell_of_heap hmd];rfl
  clear hmd
  by_cases hkl:k<n2
  ·obtain ⟨⟨⟨an,ar⟩,⟨bn,br⟩,nm,vl⟩,hx⟩:∃ x,ws[k]?=some x:=⟨_,List.getElem?_eq_getElem (by have:=HLN.out.2.2.1;omega)⟩
   obtain ⟨b,o,rfl,z0,z1,z2,z3,z4,z5⟩:=Z2E HIN.out.2.2.1 hx
   replace z0:=Z0 HBW.out z0
   replace z1:=Z0 HBW.out z1
   replace z2:=Z0 HBW.out z2
   replace z3:=Z0 HBW.out z3
   replace z4:=Z0 HBW.out z4
   replace z5:=Z0 HBW.out z5
   simp only at z0 z1 z2 z3 z4 z5
   have HX:=Lib.hid hx
   have hkk:(k:Int)<(n2:Int):=by omega
   clear hx
   have hblk:(wr.alloc (.cells #[.int .i64 an,.int .i64 ar,.int .i64 bn,.int .i64 br,.string nm,.string vl] 58)).heap[wr.heap.size]?=some (.cells #[.int .i64 an,.int .i64 ar,.int .i64 bn,.int .i64 br,.string nm,.string vl] 58):=World.alloc_heap_new wr _
   have HBK:=Lib.hid hblk
   have HR9:=Jh (HR.out.below ((Below.refl wr.heap.size wr).alloc (Nat.le_refl _) (.cells #[.int .i64 an,.int .i64 ar,.int .i64 bn,.int .i64 br,.string nm,.string vl] 58)))
   have HB9:Hid (Below (w.heap.size+3) w1 (wr.alloc (.cells #[.int .i64 an,.int .i64 ar,.int .i64 bn,.int .i64 br,.string nm,.string vl] 58))):=Jh (HB.out.alloc (by have:=HZ1.out;have:=HZ.out;omega) _)
   have hza:(wr.alloc (.cells #[.int .i64 an,.int .i64 ar,.int .i64 bn,.int .i64 br,.string nm,.string vl] 58)).heap.size=wr.heap.size+1:=by simp
   have HZA9:=Lib.hid hza
   clear hblk hza
   go_upto_region 7 with fail
   generalize wr.alloc (.cells #[.int .i64 an,.int .i64 ar,.int .i64 bn,.int .i64 br,.string nm,.string vl] 58)=w9 at *
   clear z0 z1 z2 z3 z4 z5
   have y0:w9.cell? ⟨wr.heap.size,0,none⟩=some (.int .i64 an):=by rw[Lib.cell_of_heap HBK.out];rfl
   have y1:w9.cell? ⟨wr.heap.size,1,none⟩=some (.int .i64 ar):=by rw[Lib.cell_of_heap HBK.out];rfl
   have y2:w9.cell? ⟨wr.heap.size,2,none⟩=some (.int .i64 bn):=by rw[Lib.cell_of_heap HBK.out];rfl
   have y3:w9.cell? ⟨wr.heap.size,3,none⟩=some (.int .i64 br):=by rw[Lib.cell_of_heap HBK.out];rfl
   have y4:w9.cell? ⟨wr.heap.size,4,none⟩=some (.string nm):=by rw[Lib.cell_of_heap HBK.out];rfl
   have y5:w9.cell? ⟨wr.heap.size,5,none⟩=some (.string vl):=by rw[Lib.cell_of_heap HBK.out];rfl
   have HSET:=Jh (Z3g (w.heap.size+5) (w.heap.size+3) (w.heap.size+4) (Zv (ws.take k)).1 (Zv (ws.take k)).2 an ar bn br nm vl w9 HR9.out.1)
   go_wp2_with fail
   refine HSET.out.mono ?_
   rintro e w10 ⟨rfl,hr10,hx10⟩
   have hbk10:=(hx10.block wr.heap.size (by have:=HZA9.out;omega) (by have:=HZ.out;omega)).trans HBK.out
   replace y0:w10.cell? ⟨wr.heap.size,0,none⟩=some (.int .i64 an):=by rw[Lib.cell_of_heap hbk10];rfl
   replace y1:w10.cell? ⟨wr.heap.size,1,none⟩=some (.int .i64 ar):=by rw[Lib.cell_of_heap hbk10];rfl
   replace y2:w10.cell? ⟨wr.heap.size,2,none⟩=some (.int .i64 bn):=by rw[Lib.cell_of_heap hbk10];rfl
   replace y3:w10.cell? ⟨wr.heap.size,3,none⟩=some (.int .i64 br):=by rw[Lib.cell_of_heap hbk10];rfl
   replace y4:w10.cell? ⟨wr.heap.size,4,none⟩=some (.string nm):=by rw[Lib.cell_of_heap hbk10];rfl
   replace y5:w10.cell? ⟨wr.heap.size,5,none⟩=some (.string vl):=by rw[Lib.cell_of_heap hbk10];rfl
   obtain ⟨v9,hv9,ho9⟩:=HR9.out.2
   have hv10:=(hx10.block (w.heap.size+6) (Array.getElem?_eq_some_iff.1 hv9).1 (by omega)).trans hv9
   have ho10:=ho9.ext hx10 (fun b hb h=>by have:=(ho9.blk b hb).1;omega)
   have hz10:=hx10.size
   have HRS:=Jh (Z2q (w.heap.size+6) (w.heap.size+6) v9 (X4 (ws.take k)) ⟨⟨an,ar⟩,⟨bn,br⟩,nm,vl⟩ w10 hv10 ho10 (by have:=HZ.out;have:=HZA9.out;omega) (by have:=Sz (ws.take k);rw[List.length_take] at this;have:=HLE.out.2.2.1;omega))
   have HV9:=Jh (fun q (hq:v9.ownBlock=some q)=>(ho9.blk q hq).1)
   have HR10:=Lib.hid hr10
   have HB10:Hid (Below (w.heap.size+3) w1 w10):=Jh (Ext.new HB9.out hx10 (fun i hi _ h=>by omega) (by have:=HZA9.out;have:=HZ.out;omega))
   have HZ10:Hid (w.heap.size+7≤w10.heap.size):=Jh (by have:=HZA9.out;have:=HZ.out;omega)
   clear hr10 hx10 hbk10 hv9 ho9 hv10 ho10 hz10 HSET
   go_upto_region 8 with fail
   go_wp2_with fail
   refine HRS.out.mono ?_
   rintro e w11 ⟨rfl,hr11,hx11⟩
   have HRF:Hid (Wv w.heap.size (ws.take (k+1)) w11):=Lib.hid ⟨by rw[Ql HX.out];exact HR10.out.ext hx11 (by rintro (h|h);omega;have:=HV9.out _ h;omega) (by rintro (h|h);omega;have:=HV9.out _ h;omega) (by rintro (h|h);omega;have:=HV9.out _ h;omega),by rw[Z0w HX.out];exact hr11⟩
   have HB11:Hid (Below (w.heap.size+3) w1 w11):=Jh (Ext.new HB10.out hx11 (fun i hi _ h=>by rcases h with h|h;omega;have:=HV9.out _ h;omega) (by have:=HZ10.out;omega))
   have HZ11:Hid (w.heap.size+7≤w11.heap.size):=Jh (by have:=hx11.size;have:=HZ10.out;omega)
   clear hr11 hx11 HRS
   go_wp2_with fail
   go_roundg (n2 - (k+1))
   case measure=>rw[HG.out];omega
   case rel=>exact ⟨k+1,rfl,hkl,by go_num,HRF,HB11,HZ11⟩
  ·have hkk:¬ ((k:Int)<(n2:Int)):=by omega
   have HRW:Hid (Wv w.heap.size ws wr):=Jh (by have:=HR.out;rwa [List.take_of_length_le (by have:=HLN.out.2.2.1;omega)] at this)
   have HHG:=Jh (Z2o a0 a1 a2 a3 n0 n1 n2 n3 c0 c1 c2 c3 mv wr (HIN.out.2.1.below HBW.out) HLE.out.2.1)
   go_wp2_with fail
   refine HHG.out.mono ?_
   rintro e w5 ⟨v5,A,rfl,ho5,hA5,b5⟩
   obtain ⟨a5,c5,rfl,hc5,hm5,-⟩:=ho5.slice (fun _=>rfl)
   have HO5:=Jh (ho5.slice (fun _=>rfl))
   have HA5:=Lib.hid hA5
   have HAL:Hid (A.length≤60):=Jh (Nat.le_trans (Z1h hA5) (Nat.le_trans (SN mv) HLE.out.2.1))
   have HR5:=Jh (HRW.out.below b5)
   have HB5:Hid (Below (w.heap.size+3) w1 w5):=Jh (HB.out.trans (b5.mono (by have:=HZ.out;omega)))
   have HBW5:=Jh (HBW.out.trans (b5.mono HBW.out.size))
   have HZ5:Hid (w.heap.size+7≤w5.heap.size):=Jh (by have:=b5.size;have:=HZ.out;omega)
   replace x0:=Z0 b5 x0
   replace x3:=Z0 b5 x3
   clear x1 x2 ho5 hA5 b5 hc5 hm5 HHG
   have HB1:Hid (∀ W,Below w5.heap.size w5 W→Calls Tryz.prog 27 #[.slice a0 n0 c0,.slice a5 A.length c5,.pointer (some ⟨w.heap.size+5,0,none⟩),.slice a3 n3 c3] W fun e w'=>∃ (x:NdV) (n:Nat),e=.returned x.val∧(∀ D,Zm (Y2 l (Y3 (ZT mv)) A) D→D.length+1≤n)∧Zr (fun k=>W.heap.size≤k) w' x (Vf l mv ws ms A n)∧Below W.heap.size W w'):=Jh (fun W hW=>by
    have:=Sm a0 a5 a3 (some ⟨w.heap.size+5,0,none⟩) c0 c5 c3 l A ms (Vr (Zv ws).1) (Y3 (ZT mv)) W (by have:=(HIN.out.1.below HBW5.out).below hW;rwa [HLN.out.1] at this) (by have:=HLE.out.1;omega) HLE.out.2.2.2.2 (HO5.out.below hW) (by have:=HAL.out;omega) HA5.out (YT _) (VC _) (VJ mv) (by have:=(HIN.out.2.2.2.below HBW5.out).below hW;rwa [HLN.out.2.2.2] at this) (by have:=HLE.out.2.2.2.1;omega) (fun W2 hW2 u=>Z2n HR5.out HLE.out.2.2.1 W2 (hW.trans (hW2.mono hW.size)) u)
    rw[←HLN.out.1,←HLN.out.2.2.2] at this
    exact this)
   have HB2:Hid (∀ W,Below w5.heap.size w5 W→Calls Tryz.prog 37 #[.slice a0 n0 c0,.slice a5 A.length c5,.pointer (some ⟨w.heap.size+6,0,none⟩),.slice a3 n3 c3] W fun e w'=>∃ (x:NdV) (n:Nat),e=.returned x.val∧(∀ D,Zm (Y2 l (Y3 (ZT mv)) A) D→D.length+1≤n)∧Zr (fun k=>W.heap.size≤k) w' x (Vf l mv ws ms A n)∧Below W.heap.size W w'):=Jh (fun W hW=>by
    have:=QL a0 a5 a3 c0 c5 c3 (w.heap.size+6) l A ms (Vr (Zv ws).1) (Y3 (ZT mv)) W (by have:=(HIN.out.1.below HBW5.out).below hW;rwa [HLN.out.1] at this) (by have:=HLE.out.1;omega) HLE.out.2.2.2.2 (HO5.out.below hW) (by have:=HAL.out;omega) HA5.out (YT _) (VC _) (VJ mv) (by have:=(HIN.out.2.2.2.below HBW5.out).below hW;rwa [HLN.out.2.2.2] at this) (by have:=HLE.out.2.2.2.1;omega) (fun W2 hW2 u=>Z1a HR5.out HLE.out.2.2.1 W2 (hW.trans (hW2.mono hW.size)) u)
    rw[←HLN.out.1,←HLN.out.2.2.2] at this
    exact this)
   unfold NdV.val at HB1 HB2
   go_upto_region 10 with fail
   have hS0:(fun W:World=>W.cell? ⟨w.heap.size,0,none⟩=some (.slice a0 n0 c0)∧W.cell? ⟨w.heap.size,3,none⟩=some (.slice a3 n3 c3)) w5.drew:=⟨x0,x3⟩
   refine Zf (fun W:World=>W.cell? ⟨w.heap.size,0,none⟩=some (.slice a0 n0 c0)∧W.cell? ⟨w.heap.size,3,none⟩=some (.slice a3 n3 c3)) (fun _=>false) (by kernel_rfl) ?_
   refine J2 0 46 _ hS0 ?_
   try simp only[Ja]
   refine J2 1 47 _ hS0 ?_
   try simp only[Ja]
   refine J2 2 48 _ hS0 ?_
   try simp only[Ja]
   refine J2 3 49 _ hS0 ?_
   try simp only[Ja]
   refine J2 4 50 _ hS0 ?_
   try simp only[Ja]
   refine J2 5 51 _ hS0 ?_
   try simp only[Ja]
   refine J2 7 53 _ hS0 ?_
   try simp only[Ja]
   refine J2 8 54 _ hS0 ?_
   try simp only[Ja]
   refine J2 9 55 _ hS0 ?_
   try simp only[Ja]
   refine J2 10 56 _ hS0 ?_
   try simp only[Ja]
   refine J2 11 57 _ hS0 ?_
   try simp only[Ja]
   refine J2 12 58 _ hS0 ?_
   try simp only[Ja]
   refine ZB (i:=6) (d:=some 52) (f:=27) (args:=#[.slice a0 n0 c0,.slice a5 A.length c5,.pointer (some ⟨w.heap.size+5,0,none⟩),.slice a3 n3 c3]) (w':=w5.drew) (by kernel_rfl) rfl rfl (by rfl) (by go_simp;try rfl) ?_
   refine (HB1.out w5.drew (below_drewN (Below.refl _ _) 1)).mono ?_
   rintro e w6 ⟨⟨⟨xn,xr⟩,xk,⟨xa,xb,xc⟩,⟨xd,xe,xf⟩,⟨xg,xh,xi⟩⟩,N1,rfl,hN1,hx6,b6⟩
   simp only[ZR,ZJ] at b6 hx6
   refine ⟨_,rfl,fun _=>⟨Z0 b6 x0,Z0 b6 x3⟩,?_⟩
   try simp only[Ja]
   refine ZB (i:=13) (d:=some 59) (f:=37) (args:=#[.slice a0 n0 c0,.slice a5 A.length c5,.pointer (some ⟨w.heap.size+6,0,none⟩),.slice a3 n3 c3]) (w':=w6) (by kernel_rfl) rfl rfl (by rfl) (by go_simp;try rfl) ?_
   refine (HB2.out w6 b6).mono ?_
   rintro e w7 ⟨⟨⟨yn,yr⟩,yk,⟨ya,yb,yc⟩,⟨yd,ye,yf⟩,⟨yg,yh,yi⟩⟩,N2,rfl,hN2,hy7,b7⟩
   have hz6:=b6.size
   have hz7:=b7.size
   have hb7:Below (w.heap.size+3) w1 w7:=(HB5.out.trans (b6.mono (by have:=HZ5.out;omega))).trans (b7.mono (by have:=HZ5.out;omega))
   have hnb1:NdB w7 (w.heap.size+1) ⟨0,0⟩ ⟨#[]⟩ Z2 Z2 Z2:=(hb7.block _ (by omega)).trans HN.out.1
   have hnb2:NdB w7 (w.heap.size+2) ⟨0,0⟩ ⟨#[]⟩ Z2 Z2 Z2:=(hb7.block _ (by omega)).trans HN.out.2
   have x0c:=Z0 b7 (Z0 b6 x0)
   have x3c:=Z0 b7 (Z0 b6 x3)
   refine ⟨_,rfl,fun _=>⟨Z0 b7 (Z0 b6 x0),Z0 b7 (Z0 b6 x3)⟩,?_⟩
   try simp only[Ja]
   have q0:w7.cell? ⟨w.heap.size+1,0,none⟩=some (.int .i64 0):=by rw[Lib.cell_of_heap hnb1];rfl
   have f0:w7.frozen? ⟨w.heap.size+1,0,none⟩=false:=Lib.frozen_of_heap hnb1 0
   have q1:w7.cell? ⟨w.heap.size+1,1,none⟩=some (.int .i64 0):=by rw[Lib.cell_of_heap hnb1];rfl
   have f1:w7.frozen? ⟨w.heap.size+1,1,none⟩=false:=Lib.frozen_of_heap hnb1 1
   have q2:w7.cell? ⟨w.heap.size+1,2,none⟩=some (.string ⟨#[]⟩):=by rw[Lib.cell_of_heap hnb1];rfl
   have f2:w7.frozen? ⟨w.heap.size+1,2,none⟩=false:=Lib.frozen_of_heap hnb1 2
   have q3:w7.cell? ⟨w.heap.size+1,3,none⟩=some (.slice none 0 0):=by rw[Lib.cell_of_heap hnb1];rfl
   have f3:w7.frozen? ⟨w.heap.size+1,3,none⟩=false:=Lib.frozen_of_heap hnb1 3
   have q4:w7.cell? ⟨w.heap.size+1,4,none⟩=some (.slice none 0 0):=by rw[Lib.cell_of_heap hnb1];rfl
   have f4:w7.frozen? ⟨w.heap.size+1,4,none⟩=false:=Lib.frozen_of_heap hnb1 4
   have q5:w7.cell? ⟨w.heap.size+1,5,none⟩=some (.slice none 0 0):=by rw[Lib.cell_of_heap hnb1];rfl
   have f5:w7.frozen? ⟨w.heap.size+1,5,none⟩=false:=Lib.frozen_of_heap hnb1 5
   refine Zg (i:=14) (d:=none) (w':=VG w7 (w.heap.size+1) ⟨⟨xn,xr⟩,xk,⟨xa,xb,xc⟩,⟨xd,xe,xf⟩,⟨xg,xh,xi⟩⟩) (by kernel_rfl) rfl rfl (by rfl) (by go_simp;try rfl) (fun _=>⟨(XI w7 _ _).keep x0c (by omega),(XI w7 _ _).keep x3c (by omega)⟩) ?_
   try simp only[Ja]
   clear q0 q1 q2 q3 q4 q5 f0 f1 f2 f3 f4 f5
   have hp1:=TI (x:=⟨⟨xn,xr⟩,xk,⟨xa,xb,xc⟩,⟨xd,xe,xf⟩,⟨xg,xh,xi⟩⟩) hnb1
   have hp2:=(show (VG w7 (w.heap.size+1) ⟨⟨xn,xr⟩,xk,⟨xa,xb,xc⟩,⟨xd,xe,xf⟩,⟨xg,xh,xi⟩⟩).heap[w.heap.size+2]?=_ from ((XI w7 (w.heap.size+1) _).block (w.heap.size+2) (Array.getElem?_eq_some_iff.1 hnb2).1 (by omega)).trans hnb2)
   have hpx:=XI w7 (w.heap.size+1) ⟨⟨xn,xr⟩,xk,⟨xa,xb,xc⟩,⟨xd,xe,xf⟩,⟨xg,xh,xi⟩⟩
   generalize VG w7 (w.heap.size+1) ⟨⟨xn,xr⟩,xk,⟨xa,xb,xc⟩,⟨xd,xe,xf⟩,⟨xg,xh,xi⟩⟩=w8 at *
   have q0:w8.cell? ⟨w.heap.size+2,0,none⟩=some (.int .i64 0):=by rw[Lib.cell_of_heap hp2];rfl
   have f0:w8.frozen? ⟨w.heap.size+2,0,none⟩=false:=Lib.frozen_of_heap hp2 0
   have q1:w8.cell? ⟨w.heap.size+2,1,none⟩=some (.int .i64 0):=by rw[Lib.cell_of_heap hp2];rfl
   have f1:w8.frozen? ⟨w.heap.size+2,1,none⟩=false:=Lib.frozen_of_heap hp2 1
   have q2:w8.cell? ⟨w.heap.size+2,2,none⟩=some (.string ⟨#[]⟩):=by rw[Lib.cell_of_heap hp2];rfl
   have f2:w8.frozen? ⟨w.heap.size+2,2,none⟩=false:=Lib.frozen_of_heap hp2 2
   have q3:w8.cell? ⟨w.heap.size+2,3,none⟩=some (.slice none 0 0):=by rw[Lib.cell_of_heap hp2];rfl
   have f3:w8.frozen? ⟨w.heap.size+2,3,none⟩=false:=Lib.frozen_of_heap hp2 3
   have q4:w8.cell? ⟨w.heap.size+2,4,none⟩=some (.slice none 0 0):=by rw[Lib.cell_of_heap hp2];rfl
   have f4:w8.frozen? ⟨w.heap.size+2,4,none⟩=false:=Lib.frozen_of_heap hp2 4
   have q5:w8.cell? ⟨w.heap.size+2,5,none⟩=some (.slice none 0 0):=by rw[Lib.cell_of_heap hp2];rfl
   have f5:w8.frozen? ⟨w.heap.size+2,5,none⟩=false:=Lib.frozen_of_heap hp2 5
   refine Zg (i:=15) (d:=none) (w':=VG w8 (w.heap.size+2) ⟨⟨yn,yr⟩,yk,⟨ya,yb,yc⟩,⟨yd,ye,yf⟩,⟨yg,yh,yi⟩⟩) (by kernel_rfl) rfl rfl (by rfl) (by go_simp;try rfl) (fun _=>⟨(XI w8 _ _).keep (hpx.keep x0c (by omega)) (by omega),(XI w8 _ _).keep (hpx.keep x3c (by omega)) (by omega)⟩) ?_
   try simp only[Ja]
   refine Zd (by kernel_rfl) ?_ _
   clear q0 q1 q2 q3 q4 q5 f0 f1 f2 f3 f4 f5
   have hpy:=XI w8 (w.heap.size+2) ⟨⟨yn,yr⟩,yk,⟨ya,yb,yc⟩,⟨yd,ye,yf⟩,⟨yg,yh,yi⟩⟩
   have hq2:=TI (x:=⟨⟨yn,yr⟩,yk,⟨ya,yb,yc⟩,⟨yd,ye,yf⟩,⟨yg,yh,yi⟩⟩) hp2
   have hq1:=(hpy.block (w.heap.size+1) (Array.getElem?_eq_some_iff.1 hp1).1 (by omega)).trans hp1
   generalize VG w8 (w.heap.size+2) ⟨⟨yn,yr⟩,yk,⟨ya,yb,yc⟩,⟨yd,ye,yf⟩,⟨yg,yh,yi⟩⟩=w9 at *
   have HQ:=Jh (And.intro hq1 hq2)
   have HF:Hid (SE l mv ws ms w (.returned (.tuple #[NdV.val ⟨⟨xn,xr⟩,xk,⟨xa,xb,xc⟩,⟨xd,xe,xf⟩,⟨xg,xh,xi⟩⟩,NdV.val ⟨⟨yn,yr⟩,yk,⟨ya,yb,yc⟩,⟨yd,ye,yf⟩,⟨yg,yh,yi⟩⟩])) w9):=Jh (by
    obtain ⟨D,hD⟩:=Q5 (l:=l) HA5.out (YT (ZT mv))
    have hz5:=HZ5.out
    refine ⟨A,D,N1,_,_,rfl,HA5.out,hD,hN1 D hD,?_,?_,?_⟩
    ·exact (((hx6.belowW b7).ext hpx (fun b hb _ e=>by omega)).ext hpy (fun b hb _ e=>by omega)).mono (fun b hb=>by omega)
    ·rw[Z0c hD (hN1 D hD) (hN2 D hD)]
     exact ((hy7.ext hpx (fun b hb _ e=>by omega)).ext hpy (fun b hb _ e=>by omega)).mono (fun b hb=>by omega)
    ·exact Ext.new (Ext.new (HB0.out.trans (hb7.mono (by omega))) hpx (fun i hi _ e=>by omega) (by omega)) hpy (fun i hi _ e=>by omega) (by have:=hpx.size;omega))
   clear hx6 hy7 hN1 hN2 b6 b7 hb7 hpx hpy hp1 hp2 hq1 hq2 hnb1 hnb2 x0c x3c hS0
   go_wp2_with fail
   refine bodyPost_ret (v:=.tuple #[NdV.val ⟨⟨xn,xr⟩,xk,⟨xa,xb,xc⟩,⟨xd,xe,xf⟩,⟨xg,xh,xi⟩⟩,NdV.val ⟨⟨yn,yr⟩,yk,⟨ya,yb,yc⟩,⟨yd,ye,yf⟩,⟨yg,yh,yi⟩⟩]) (R7 rfl _ _ _ (w.heap.size+1) (w.heap.size+2) _ _ _ _ _ _ _ rfl rfl HQ.out.1 HQ.out.2 rfl Tryz.underlying28 (by kernel_rfl) (by kernel_rfl)) rfl ?_
   exact HF.out
end Go.Proofs.YtlgipkemoldckaaGreatDoor
namespace Go.Proofs
open Go.Shelf
def Tryz.repF_ren:Go.Shelf.Ren:=⟨fun|105=>50|212=>73|99=>74|165=>75|166=>49|170=>76|169=>29|263=>101|264=>102|206=>103|240=>72|241=>104|276=>100|277=>130|n=>n,fun|9=>9|3=>3|4=>4|20=>20|0=>0|46=>145|109=>146|5=>5|72=>66|76=>115|51=>189|146=>190|53=>192|148=>193|70=>63|37=>64|75=>114|127=>118|164=>187|80=>68|n=>n,fun|n=>n⟩
theorem Tryz.repF:Go.Proofs.Lays.n105 Tryz.prog Tryz.repF_ren:={
 mixed:=by kernel_rfl
 f99:=Tryz.func74.trans (congrArg some (by kernel_rfl))
 f105:=Tryz.func50.trans (congrArg some (by kernel_rfl))
 f165:=Tryz.func75.trans (congrArg some (by kernel_rfl))
 f166:=Tryz.func49.trans (congrArg some (by kernel_rfl))
 f169:=Tryz.func29.trans (congrArg some (by kernel_rfl))
 f170:=Tryz.func76.trans (congrArg some (by kernel_rfl))
 f206:=Tryz.func103.trans (congrArg some (by kernel_rfl))
 f212:=Tryz.func73.trans (congrArg some (by kernel_rfl))
 f240:=Tryz.func72.trans (congrArg some (by kernel_rfl))
 f241:=Tryz.func104.trans (congrArg some (by kernel_rfl))
 f263:=Tryz.func101.trans (congrArg some (by kernel_rfl))
 f264:=Tryz.func102.trans (congrArg some (by kernel_rfl))
 f276:=Tryz.func100.trans (congrArg some (by kernel_rfl))
 f277:=Tryz.func130.trans (congrArg some (by kernel_rfl))
 t0:=Tryz.underlying0
 a0:=Tryz.isAgg0
 z0:=Tryz.sizeOf0
 v0:=Tryz.zeroValue0
 t3:=Tryz.underlying3
 a3:=Tryz.isAgg3
 z3:=Tryz.sizeOf3
 v3:=Tryz.zeroValue3
 t4:=Tryz.underlying4
 a4:=Tryz.isAgg4
 z4:=Tryz.sizeOf4
 v4:=Tryz.zeroValue4
 t5:=Tryz.underlying5
 a5:=Tryz.isAgg5
 z5:=Tryz.sizeOf5
 v5:=Tryz.zeroValue5
 t9:=Tryz.underlying9
 a9:=Tryz.isAgg9
 z9:=Tryz.sizeOf9
 v9:=Tryz.zeroValue9
 t20:=Tryz.underlying20
 a20:=Tryz.isAgg20
 z20:=Tryz.sizeOf20
 v20:=Tryz.zeroValue20
 t37:=Tryz.underlying64
 a37:=Tryz.isAgg64
 z37:=Tryz.sizeOf64
 v37:=Tryz.zeroValue64
 t46:=Tryz.underlying145
 a46:=Tryz.isAgg145
 z46:=Tryz.sizeOf145
 v46:=Tryz.zeroValue145
 t51:=Tryz.underlying189
 a51:=Tryz.isAgg189
 z51:=Tryz.sizeOf189
 v51:=Tryz.zeroValue189
 t53:=Tryz.underlying192
 a53:=Tryz.isAgg192
 z53:=Tryz.sizeOf192
 v53:=Tryz.zeroValue192
 t70:=Tryz.underlying63
 a70:=Tryz.isAgg63
 z70:=Tryz.sizeOf63
 v70:=Tryz.zeroValue63
 t72:=Tryz.underlying66
 a72:=Tryz.isAgg66
 z72:=Tryz.sizeOf66
 v72:=Tryz.zeroValue66
 t75:=Tryz.underlying114
 a75:=Tryz.isAgg114
 z75:=Tryz.sizeOf114
 v75:=Tryz.zeroValue114
 t76:=Tryz.underlying115
 a76:=Tryz.isAgg115
 z76:=Tryz.sizeOf115
 v76:=Tryz.zeroValue115
 t109:=Tryz.underlying146
 a109:=Tryz.isAgg146
 z109:=Tryz.sizeOf146
 v109:=Tryz.zeroValue146
 t127:=Tryz.underlying118
 a127:=Tryz.isAgg118
 z127:=Tryz.sizeOf118
 v127:=Tryz.zeroValue118
 t146:=Tryz.underlying190
 a146:=Tryz.isAgg190
 z146:=Tryz.sizeOf190
 v146:=Tryz.zeroValue190
 t148:=Tryz.underlying193
 a148:=Tryz.isAgg193
 z148:=Tryz.sizeOf193
 v148:=Tryz.zeroValue193
 t164:=Tryz.underlying187
 a164:=Tryz.isAgg187
 z164:=Tryz.sizeOf187
 v164:=Tryz.zeroValue187 }
def Tryz.itoaF_ren:Go.Shelf.Ren:=⟨fun|171=>105|243=>131|246=>144|283=>149|284=>150|285=>151|286=>152|129=>118|317=>154|318=>155|319=>156|320=>157|337=>158|338=>159|n=>n,fun|3=>3|9=>9|2=>2|4=>4|171=>232|0=>0|53=>192|37=>64|5=>5|173=>234|212=>238|51=>189|20=>20|213=>239|46=>145|232=>240|233=>241|n=>n,fun|17=>1|18=>2|19=>3|n=>n⟩
theorem Tryz.itoaF:Go.Proofs.LaysM.n171 Tryz.prog Tryz.itoaF_ren:={
 mixed:=by kernel_rfl
 f129:=Tryz.func118.trans (congrArg some (by kernel_rfl))
 f171:=Tryz.func105.trans (congrArg some (by kernel_rfl))
 f243:=Tryz.func131.trans (congrArg some (by kernel_rfl))
 f246:=Tryz.func144.trans (congrArg some (by kernel_rfl))
 f283:=Tryz.func149.trans (congrArg some (by kernel_rfl))
 f284:=Tryz.func150.trans (congrArg some (by kernel_rfl))
 f285:=Tryz.func151.trans (congrArg some (by kernel_rfl))
 f286:=Tryz.func152.trans (congrArg some (by kernel_rfl))
 f317:=Tryz.func154.trans (congrArg some (by kernel_rfl))
 f318:=Tryz.func155.trans (congrArg some (by kernel_rfl))
 f319:=Tryz.func156.trans (congrArg some (by kernel_rfl))
 f320:=Tryz.func157.trans (congrArg some (by kernel_rfl))
 f337:=Tryz.func158.trans (congrArg some (by kernel_rfl))
 f338:=Tryz.func159.trans (congrArg some (by kernel_rfl))
 t0:=Tryz.underlying0
 a0:=Tryz.isAgg0
 z0:=Tryz.sizeOf0
 v0:=Tryz.zeroValue0
 t2:=Tryz.underlying2
 a2:=Tryz.isAgg2
 z2:=Tryz.sizeOf2
 v2:=Tryz.zeroValue2
 t3:=Tryz.underlying3
 a3:=Tryz.isAgg3
 z3:=Tryz.sizeOf3
 v3:=Tryz.zeroValue3
 t4:=Tryz.underlying4
 a4:=Tryz.isAgg4
 z4:=Tryz.sizeOf4
 v4:=Tryz.zeroValue4
 t5:=Tryz.underlying5
 a5:=Tryz.isAgg5
 z5:=Tryz.sizeOf5
 v5:=Tryz.zeroValue5
 t9:=Tryz.underlying9
 a9:=Tryz.isAgg9
 z9:=Tryz.sizeOf9
 v9:=Tryz.zeroValue9
 t20:=Tryz.underlying20
 a20:=Tryz.isAgg20
 z20:=Tryz.sizeOf20
 v20:=Tryz.zeroValue20
 t37:=Tryz.underlying64
 a37:=Tryz.isAgg64
 z37:=Tryz.sizeOf64
 v37:=Tryz.zeroValue64
 t46:=Tryz.underlying145
 a46:=Tryz.isAgg145
 z46:=Tryz.sizeOf145
 v46:=Tryz.zeroValue145
 t51:=Tryz.underlying189
 a51:=Tryz.isAgg189
 z51:=Tryz.sizeOf189
 v51:=Tryz.zeroValue189
 t53:=Tryz.underlying192
 a53:=Tryz.isAgg192
 z53:=Tryz.sizeOf192
 v53:=Tryz.zeroValue192
 t171:=Tryz.underlying232
 a171:=Tryz.isAgg232
 z171:=Tryz.sizeOf232
 v171:=Tryz.zeroValue232
 t173:=Tryz.underlying234
 a173:=Tryz.isAgg234
 z173:=Tryz.sizeOf234
 v173:=Tryz.zeroValue234
 t212:=Tryz.underlying238
 a212:=Tryz.isAgg238
 z212:=Tryz.sizeOf238
 v212:=Tryz.zeroValue238
 t213:=Tryz.underlying239
 a213:=Tryz.isAgg239
 z213:=Tryz.sizeOf239
 t232:=Tryz.underlying240
 a232:=Tryz.isAgg240
 z232:=Tryz.sizeOf240
 v232:=Tryz.zeroValue240
 t233:=Tryz.underlying241
 a233:=Tryz.isAgg241
 z233:=Tryz.sizeOf241
 v233:=Tryz.zeroValue241
 g17:=by kernel_rfl
 g18:=by kernel_rfl
 g19:=by kernel_rfl
 i0:=by kernel_rfl
 i2:=by kernel_rfl
 i3:=by kernel_rfl
 i4:=by kernel_rfl
 i5:=by kernel_rfl
 i9:=by kernel_rfl
 i20:=by kernel_rfl
 i37:=by kernel_rfl
 i46:=by kernel_rfl
 i51:=by kernel_rfl
 i53:=by kernel_rfl
 i171:=by kernel_rfl
 i173:=by kernel_rfl
 i212:=by kernel_rfl
 i232:=by kernel_rfl
 i233:=by kernel_rfl
 m17:=by kernel_rfl
 m18:=by kernel_rfl
 m19:=by kernel_rfl }
end Go.Proofs
namespace Go.Proofs.YtlgipkemoldckaaGreatDoor
open Go.RowKit Go.Shelf
def BdF (B b:Nat) (l:List UInt8) (w:World):Prop:=Lib.IsBuilderF 66 5 B b (Lib.byteCells l) w
def KpO (b:Nat) (w w':World):Prop:=Lib.OthersKept 5 (some b) w w'
theorem BdF.keepW {B b:Nat} {l:List UInt8} {w w':World} (h:BdF B b l w) (hk:∀ k,k<w.heap.size→w'.heap[k]?=w.heap[k]?):BdF B b l w':=by
 have go:∀ p,Lib.BuilderAtF 66 5 B b p (Lib.byteCells l) w→Lib.BuilderAtF 66 5 B b p (Lib.byteCells l) w':=by
  rintro p ⟨hB,v,hb,⟨h1,h2⟩,hne⟩
  have hlt:∀ k o,w.heap[k]?=some o→w'.heap[k]?=some o:=fun k o e=>(hk k (Array.getElem?_eq_some_iff.1 e).1).trans e
  refine ⟨hB,v,hlt _ _ hb,⟨h1,?_⟩,hne⟩
  rcases h2 with h2|⟨g,cap,cur,fz,e1,e2,e3,rest⟩
  ·exact .inl h2
  ·exact .inr ⟨g,cap,cur,fz,e1,e2,hlt _ _ e3,rest⟩
 exact h.elim (fun x=>.inl (go _ x)) (fun x=>.inr (go _ x))
theorem BdF.below {B b:Nat} {l:List UInt8} {w w':World} (h:BdF B b l w) (hb:Below w.heap.size w w'):BdF B b l w':=h.keepW hb.block
theorem BdF.alloc {B b:Nat} {l:List UInt8} {w:World} (h:BdF B b l w) (o:Obj):BdF B b l (w.alloc o):=Lib.IsBuilderF.alloc h o
theorem BdF.lt {B b:Nat} {l:List UInt8} {w:World} (h:BdF B b l w):B≤b∧b<w.heap.size:=h.elim (fun x=>⟨x.1,x.lt⟩) (fun x=>⟨x.1,x.lt⟩)
theorem KpO.refl (b:Nat) (w:World):KpO b w w:=Lib.OthersKept.refl _ _ _
theorem KpO.trans {b:Nat} {w w' w'':World} (h:KpO b w w') (k:KpO b w' w''):KpO b w w'':=Lib.OthersKept.trans h k
theorem KpO.of_below {b:Nat} {w w':World} (h:Below w.heap.size w w'):KpO b w w':=fun k o e _ _=>(h.block k (Array.getElem?_eq_some_iff.1 e).1).trans e
theorem KpO.alloc {b:Nat} {w w':World} (h:KpO b w w') (o:Obj):KpO b w (w'.alloc o):=Lib.OthersKept.alloc h o
theorem KpO.block {b:Nat} {w w':World} (h:KpO b w w') {k:Nat} {cs:Array Value} {t:TypeId} {fz:Nat × Nat} (e:w.heap[k]?=some (.cells cs t fz)) (hk:k≠b) (ht:t≠5):w'.heap[k]?=some (.cells cs t fz) :=
 h k _ e (fun e=>hk (Option.some.inj e)) (fun c f e2=>by cases e2;exact ht rfl)
theorem BdF.ne {B b:Nat} {l:List UInt8} {w:World} (h:BdF B b l w) {k:Nat} {cs:Array Value} {t:TypeId} {fz:Nat × Nat} (e:w.heap[k]?=some (.cells cs t fz)) (ht:t≠66):k≠b:=by
 rintro rfl
 rcases h with ⟨_,v,hb,_⟩|⟨_,v,hb,_⟩ <;> (rw[e] at hb;cases hb;exact ht rfl)
theorem BdF.fresh {B b:Nat} {w:World} (hB:B≤b) (h:w.heap[b]?=some (.cells #[.pointer none,.slice none 0 0] 66 (0,0))):BdF B b [] w :=
 .inl ⟨hB,.slice none 0 0,h,⟨rfl,.inl ⟨rfl,rfl⟩⟩,by simp[Value.ownBlock]⟩
theorem Z3A:Lays.n166 Tryz.prog Tryz.repF_ren:={ Tryz.repF with }
theorem RM:Builder.Extra Tryz.prog Tryz.repF_ren where
 sizeBuilder:=by kernel_rfl
 liesBuilder:=by kernel_rfl
 t5:=Tryz.underlying5
 a5:=Tryz.isAgg5
 z5:=Tryz.sizeOf5
 v5:=Tryz.zeroValue5
 infoByte:=by kernel_rfl
 cellsByte:=by kernel_rfl
 sizeByte:=by kernel_rfl
 neB5:=by decide
theorem UW (B b:Nat) (l:List UInt8) (s:ByteArray) (w:World) (h:BdF B b l w) (hl:l.length+s.size≤140737488355328) (hB:B≤w.heap.size) :
  Calls Tryz.prog 49 #[.pointer (some ⟨b,0,none⟩),.string s] w fun e w'=>e=.returned (.tuple #[.int .i64 s.size,.nilIface])∧BdF B b (l++s.data.toList) w'∧Below B w w'∧KpO b w w':=by
 refine (Any.Builder_WriteString_k Z3A RM B b (Lib.byteCells l) s w h (by rw[Lib.byteCells_length];exact hl) hB).mono ?_
 rintro e w' ⟨rfl,h1,h2,h3⟩
 refine ⟨rfl,?_,h2,h3⟩
 rw[Lib.strCells_eq,←Lib.byteCells_append] at h1
 exact .inr h1
theorem Z3x:Lays.n169 Tryz.prog Tryz.repF_ren:={ Tryz.repF with }
theorem RL (B b:Nat) (l:List UInt8) (w:World) (h:BdF B b l w) (hB:B≤w.heap.size) :
  Calls Tryz.prog 29 #[.pointer (some ⟨b,0,none⟩)] w fun e w'=>e=.returned (.string ⟨l.toArray⟩)∧BdF B b l w'∧Below B w w'∧KpO b w w' :=
 Any.Builder_String_any_k Z3x RM B b l w h hB
def YV (ss:List ByteArray):List UInt8:=ss.flatMap fun s=>s.data.toList
theorem Si {ss:List ByteArray} {k:Nat} {s:ByteArray} (h:ss[k]?=some s):YV (ss.take (k+1))=YV (ss.take k)++s.data.toList:=by
 unfold YV
 rw[List.take_add_one,h,Option.toList_some,List.flatMap_append]
 simp
theorem Re (ss:List ByteArray) (k:Nat):(YV (ss.take k)).length≤(YV ss).length:=by
 conv=>rhs;rw[←List.take_append_drop k ss]
 unfold YV
 rw[List.flatMap_append,List.length_append]
 omega
def Vg (B b:Nat) (l x:List UInt8) (w:World) (e:Ending) (w':World):Prop:=e=.returned (.tuple #[])∧BdF B b (l++x) w'∧Below B w w'∧KpO b w w'
theorem Vl (B b g:Nat) (l:List UInt8) (ss:List ByteArray) (fz:Nat × Nat) (w:World) (h:BdF B b l w) (hg:w.heap[g]?=some (.cells (ss.map Value.string).toArray 9 fz)) (hl:l.length+(YV ss).length≤140737488355328) (hB:B≤w.heap.size) (hs:ss.length≤1000) :
  Calls Tryz.prog 77 #[.slice (some ⟨g,0,none⟩) ss.length ss.length,.pointer (some ⟨b,0,none⟩)] w fun e w'=>Vg B b l (YV ss) w e w':=by
 have hgb:g≠b:=h.ne hg (by decide)
 have HH:=Lib.hid h
 have HG:=Lib.hid hg
 clear h hg
 go_enter Tryz.func77,Tryz.ntmps77
 go_wp2_with fail
 go_loopg [7] ss.length (fun n iv wr=>∃ k:Nat,n=ss.length - k∧k≤ss.length∧iv=.int .i64 k∧Hid (BdF B b (l++YV (ss.take k)) wr)∧Hid (Below B w wr)∧Hid (KpO b w wr))
 case atStart=>exact ⟨0,by omega,by omega,rfl,Jh (by simpa [YV] using HH.out),Jh (Below.refl _ _),Jh (KpO.refl _ _)⟩
 case round =>
  obtain ⟨k,hn,hk,rfl,H1,H2,H3⟩:=hrel
  have HN:=Lib.hid hn
  clear hn
  by_cases hkl:k<ss.length
  ·obtain ⟨s,hs1⟩:∃ s,ss[k]?=some s:=⟨_,List.getElem?_eq_getElem hkl⟩
   have hgw:=H3.out.block HG.out hgb (by decide)
   have c0:wr.cell? ⟨g,0+k*1,none⟩=some (.string s):=by
    rw[Lib.cell_of_heap hgw]
    simp[hs1]
   rw[Nat.zero_add,Nat.mul_one] at c0
   have hkk:(k:Int)<(ss.length:Int):=by omega
   have hct:=Re ss (k+1)
   rw[Si hs1,List.length_append] at hct
   have hsz:s.data.toList.length=s.size:=by rw[Array.length_toList];rfl
   have HW:=Jh (UW B b (l++YV (ss.take k)) s wr H1.out (by rw[List.length_append];omega) (by have:=H2.out.size;omega))
   have HS:=Lib.hid hs1
   clear hgw hs1 hct hsz
   go_wp2_with fail
   refine HW.out.mono ?_
   rintro e w5 ⟨rfl,g1,g2,g3⟩
   have G1:=Jh (by rw[List.append_assoc,←Si HS.out] at g1;exact g1)
   have G2:=Jh (H2.out.trans g2)
   have G3:=Jh (H3.out.trans g3)
   clear g1 g2 g3 c0
   go_wp2_with fail
   go_roundg (ss.length - (k+1))
   case measure=>rw[HN.out];omega
   case rel=>exact ⟨k+1,rfl,hkl,by go_num,G1,G2,G3⟩
  ·have hkk:¬ ((k:Int)<(ss.length:Int)):=by omega
   go_wp2_with fail
   go_end0
   refine ⟨rfl,?_,H2.out,H3.out⟩
   have:=H1.out
   rwa [List.take_of_length_le (by omega)] at this
end Go.Proofs.YtlgipkemoldckaaGreatDoor
namespace Go.Proofs.YtlgipkemoldckaaGreatDoor
open Go.RowKit Go.Deep
theorem WM:Tryz.prog.underlying 64=some (.slice 5):=by kernel_rfl
theorem WN {l:List UInt8} {k:Nat} {c:UInt8} (h:l[k]?=some c):(l.take (k+1)).flatMap ZX=(l.take k).flatMap ZX++ZX c:=by
 rw[List.take_add_one,h,Option.toList_some,List.flatMap_append]
 simp
theorem Z37 (l:List UInt8):(l.flatMap ZX).length≤2*l.length:=by
 induction l with
 | nil=>simp
 | cons c l ih =>
  rw[List.flatMap_cons,List.length_append,List.length_cons]
  have:(ZX c).length≤2:=by unfold ZX;split <;> simp
  omega
theorem Rg (l:List UInt8) (k:Nat):((l.take k).flatMap ZX).length≤2*l.length:=by
 have h1:=Z37 (l.take k)
 have h2:(l.take k).length≤l.length:=by rw[List.length_take];omega
 omega
theorem Z2P {c:UInt8} {n:Nat} (hn:n<256) (h:(c.toNat:Int)=(n:Int)):c=UInt8.ofNat n:=by
 have:c.toNat=n:=by omega
 rw[←this];simp
theorem Z2S {c:UInt8} {n:Nat} (hn:n<256) (h:¬ (c.toNat:Int)=(n:Int)):c≠UInt8.ofNat n:=fun e=>h (by rw[e];simp;omega)
theorem Th {w:World} (e:TypeId) (s:ByteArray):Below w.heap.size w (Lib.bytesWorld w e s) :=
 ⟨by unfold Lib.bytesWorld World.freeze;split <;> rfl,by unfold Lib.bytesWorld World.freeze;split <;> rfl,by unfold Lib.bytesWorld World.freeze;split <;> rfl,by rw[Lib.bytesWorld_size];omega,fun k hk=>Lib.bytesWorld_at_old w e s k hk⟩
theorem Uf (s:ByteArray) (w:World) (hs:s.size≤35184372088832) :
  Calls Tryz.prog 79 #[.string s] w fun e w'=>e=.returned (.string ⟨(Yj s.data.toList).toArray⟩)∧Below w.heap.size w w':=by
 obtain ⟨i0,hi,hz0,hz1,hz2⟩:=info_parts Z36
 have hsz:s.data.toList.length=s.size:=by rw[Array.length_toList];rfl
 have hcv:∀ W:World,(convert 9 64 (.string s)).run Tryz.prog W=.ok (.slice (some ⟨W.heap.size,0,none⟩) s.size (grownCap W s.size 0 5)) (Lib.bytesWorld W 5 s):=fun W=>Lib.run_convert_string_bytes W _ _ _ s Tryz.underlying9 WM (by kernel_rfl)
 have hown0:Own u8c 1 5 w.heap.size (w.alloc (.cells #[.int .u8 34] 5)) (.slice (some ⟨w.heap.size,0,none⟩) 1 1) [34]:=SC w YM (Nat.le_refl _) (34:UInt8)
 have hB0:Below w.heap.size w (w.alloc (.cells #[.int .u8 34] 5)):=(Below.refl _ _).alloc (Nat.le_refl _) _
 have hz0':(w.alloc (.cells #[.int .u8 34] 5)).heap.size=w.heap.size+1:=by simp
 have HO0:=Lib.hid hown0
 have HB0:=Lib.hid hB0
 clear hown0 hB0
 go_enter Tryz.func79,Tryz.ntmps79
 go_upto_region 2 with fail
 generalize w.alloc (.cells #[.int .u8 34] 5)=w1 at *
 have hcv1:=hcv w1
 have hbw:=Th (w:=w1) 5 s
 have hnew:∀ j c,s.data.toList[j]?=some c→(Lib.bytesWorld w1 5 s).cell? ⟨w.heap.size+1,j,none⟩=some (.int .u8 c.toNat):=fun j c hj=>by
  have hjl:=(List.getElem?_eq_some_iff.1 hj).1
  have:=Lib.bytesWorld_cell w1 5 s j (by omega)
  rw[hz0'] at this
  rw[this,List.getD_eq_getElem?_getD,hj]
  rfl
 have hsz2:=Lib.bytesWorld_size w1 5 s
 rw[hz0'] at hcv1 hsz2
 generalize Lib.bytesWorld w1 5 s=w2 at *
 generalize grownCap w1 s.size 0 5=gc at *
 have HNEW:=Lib.hid hnew
 have HO2:=Jh (HO0.out.ext (Ext.of_below (S:=fun _=>False) hbw) (fun _ _ f=>f))
 have HB2:=Jh (HB0.out.trans (hbw.mono (by omega)))
 clear hnew hbw hcv
 go_wp2_with fail
 go_loopg [3,10] s.size (fun n v iv wr=>∃ (k:Nat) (a:Option Addr) (cap:Nat),n=s.size - k∧k≤s.size∧iv=.int .i64 k∧v=.slice a (34 :: (s.data.toList.take k).flatMap ZX).length cap∧Hid (Own u8c 1 5 w.heap.size wr (.slice a (34 :: (s.data.toList.take k).flatMap ZX).length cap) (34 :: (s.data.toList.take k).flatMap ZX)) ∧
  Hid (∀ b,(Value.slice a (34 :: (s.data.toList.take k).flatMap ZX).length cap).ownBlock=some b→b≠w.heap.size+1)∧Hid (Ext (fun b=>b≠w.heap.size+1∧w.heap.size≤b) w2 wr))
 case atStart =>
  refine ⟨0,some ⟨w.heap.size,0,none⟩,1,by omega,by omega,rfl,rfl,HO2,Jh (fun b hb=>?_),Jh (Ext.refl _ _)⟩
  simp only[Value.ownBlock,Option.some.injEq] at hb
  omega
 case round =>
  obtain ⟨k,a,cap,hn,hk,rfl,rfl,HO,HD,HX⟩:=hrel
  have HN:=Lib.hid hn
  have hql:=Rg s.data.toList k
  have hwz:=HX.out.size
  clear hn
  by_cases hkl:k<s.size
  ·obtain ⟨c,hc⟩:∃ c,s.data.toList[k]?=some c:=⟨_,List.getElem?_eq_getElem (by omega)⟩
   have c0:=HX.out.keep (HNEW.out k c hc) (fun h=>h.1 rfl)
   have hkk:(k:Int)<(s.size:Int):=by omega
   have HC:=Lib.hid hc
   have hll:(34 :: (s.data.toList.take k).flatMap ZX).length≤2*s.size+1:=by simp only[List.length_cons];omega
   have hblk:=HO.out.blk
   have HBK:=Lib.hid hblk
   clear hc hql hblk
   generalize hL:34 :: (s.data.toList.take k).flatMap ZX=L at *
   have HL:=Lib.hid hL
   clear hL
   obtain ⟨cn,hcn⟩:∃ cn:Int,(c.toNat:Int)=cn:=⟨_,rfl⟩
   rw[hcn] at c0
   have HCN:=Lib.hid hcn
   clear hcn
   by_cases h1:cn=34
   ·have hq:ZX c=[92,34]:=by rw[show c=34 from Z2P (n:=34) (by omega) (HCN.out.trans h1)];rfl
    subst h1
    go_wp2_with (at_builtin;refine Zq (ea:=u8c) (k:=1) rfl _ _ _ rfl i0 (.int .u8 0) 1 WM hi hz0 hz1 hz2 rfl (by omega) YM Vh rfl (HO.out.alloc _) (92:UInt8) wr.heap.size 1 rfl ?_ (by unfold maxLen;omega) (by omega) (by simp;omega) ?_)
    ·exact VR _ 92
    ·intro v8 w8 hown8 hx8 hfr8
     obtain ⟨a8,c8,rfl,-,-,-⟩:=hown8.slice YM
     have hz8:=hx8.size
     simp only[World.size_alloc] at hz8
     have hl8:(L++[92]).length=L.length+1:=by simp
     rw[hl8] at hown8 hfr8 ⊢
     have hdd8:∀ b,(Value.slice a8 (L.length+1) c8).ownBlock=some b→b≠w.heap.size+1:=fun b hb=>by
      rcases hfr8 b hb with h|h
      ·exact HD.out b h
      ·first|omega|(simp at h;omega)
     have hX8:=(HX.out.alloc _).andThen hx8 (fun i hi e=>⟨HD.out i e,(HBK.out i e).1⟩)
     have HX8:=Lib.hid hX8
     have HO8:=Lib.hid hown8
     have HD8:=Lib.hid hdd8
     have HBK8:=Lib.hid hown8.blk
     have c08:=hX8.keep (HNEW.out k c HC.out) (fun h=>h.1 rfl)
     clear hown8 hx8 hfr8 hdd8 hX8
     generalize hL8:L++[92]=L8 at *
     have HL8:=Lib.hid hL8
     clear hL8
     go_wp2_with (at_builtin;refine Zq (ea:=u8c) (k:=1) rfl _ _ _ rfl i0 (.int .u8 0) 1 WM hi hz0 hz1 hz2 rfl (by omega) YM Vh rfl (HO8.out.alloc _) (34:UInt8) w8.heap.size 1 rfl ?_ (by unfold maxLen;omega) (by omega) (by simp;omega) ?_)
     ·exact VR _ 34
     ·intro v9 w9 hown9 hx9 hfr9
      have hdd:∀ b,v9.ownBlock=some b→b≠w.heap.size+1:=fun b hb=>by
       rcases hfr9 b hb with h|h
       ·exact HD8.out b h
       ·first|omega|(simp at h;omega)
      obtain ⟨a9,c9,rfl,-,-,-⟩:=hown9.slice YM
      have HE:Hid (34 :: (s.data.toList.take (k+1)).flatMap ZX=L8++[34]):=Jh (by rw[WN HC.out,←List.cons_append,HL.out,hq,List.append_cons,←HL8.out])
      have HX9:=Jh ((HX8.out.alloc _).andThen hx9 (fun i hi e=>⟨HD8.out i e,(HBK8.out i e).1⟩))
      have HO9:=Lib.hid hown9
      have HD9:=Jh (hdd)
      clear hown9 hx9 hfr9 hdd
      go_wp2_with fail
      go_roundg (s.size - (k+1))
      case measure=>rw[HN.out];omega
      case rel =>
       refine ⟨k+1,a9,c9,rfl,hkl,by go_num,by rw[HE.out],by rw[HE.out];exact HO9,by rw[HE.out];exact HD9,HX9⟩
   ·by_cases h2:cn=92
    ·have hq:ZX c=[92,92]:=by rw[show c=92 from Z2P (n:=92) (by omega) (HCN.out.trans h2)];rfl
     subst h2
     go_wp2_with (at_builtin;refine Zq (ea:=u8c) (k:=1) rfl _ _ _ rfl i0 (.int .u8 0) 1 WM hi hz0 hz1 hz2 rfl (by omega) YM Vh rfl (HO.out.alloc _) (92:UInt8) wr.heap.size 1 rfl ?_ (by unfold maxLen;omega) (by omega) (by simp;omega) ?_)
     ·exact VR _ 92
     ·intro v8 w8 hown8 hx8 hfr8
      obtain ⟨a8,c8,rfl,-,-,-⟩:=hown8.slice YM
      have hz8:=hx8.size
      simp only[World.size_alloc] at hz8
      have hl8:(L++[92]).length=L.length+1:=by simp
      rw[hl8] at hown8 hfr8 ⊢
      have hdd8:∀ b,(Value.slice a8 (L.length+1) c8).ownBlock=some b→b≠w.heap.size+1:=fun b hb=>by
       rcases hfr8 b hb with h|h
       ·exact HD.out b h
       ·first|omega|(simp at h;omega)
      have hX8:=(HX.out.alloc _).andThen hx8 (fun i hi e=>⟨HD.out i e,(HBK.out i e).1⟩)
      have HX8:=Lib.hid hX8
      have HO8:=Lib.hid hown8
      have HD8:=Lib.hid hdd8
      have HBK8:=Lib.hid hown8.blk
      have c08:=hX8.keep (HNEW.out k c HC.out) (fun h=>h.1 rfl)
      clear hown8 hx8 hfr8 hdd8 hX8
      generalize hL8:L++[92]=L8 at *
      have HL8:=Lib.hid hL8
      clear hL8
      go_wp2_with (at_builtin;refine Zq (ea:=u8c) (k:=1) rfl _ _ _ rfl i0 (.int .u8 0) 1 WM hi hz0 hz1 hz2 rfl (by omega) YM Vh rfl (HO8.out.alloc _) (92:UInt8) w8.heap.size 1 rfl ?_ (by unfold maxLen;omega) (by omega) (by simp;omega) ?_)
      ·exact VR _ 92
      ·intro v9 w9 hown9 hx9 hfr9
       have hdd:∀ b,v9.ownBlock=some b→b≠w.heap.size+1:=fun b hb=>by
        rcases hfr9 b hb with h|h
        ·exact HD8.out b h
        ·first|omega|(simp at h;omega)
       obtain ⟨a9,c9,rfl,-,-,-⟩:=hown9.slice YM
       have HE:Hid (34 :: (s.data.toList.take (k+1)).flatMap ZX=L8++[92]):=Jh (by rw[WN HC.out,←List.cons_append,HL.out,hq,List.append_cons,←HL8.out])
       have HX9:=Jh ((HX8.out.alloc _).andThen hx9 (fun i hi e=>⟨HD8.out i e,(HBK8.out i e).1⟩))
       have HO9:=Lib.hid hown9
       have HD9:=Jh (hdd)
       clear hown9 hx9 hfr9 hdd
       go_wp2_with fail
       go_roundg (s.size - (k+1))
       case measure=>rw[HN.out];omega
       case rel =>
        refine ⟨k+1,a9,c9,rfl,hkl,by go_num,by rw[HE.out],by rw[HE.out];exact HO9,by rw[HE.out];exact HD9,HX9⟩
    ·have hq:ZX c=[c]:=by unfold ZX;rw[if_neg (by rintro (h|h);exact Z2S (n:=34) (by omega) (by rw[HCN.out];exact h1) h;exact Z2S (n:=92) (by omega) (by rw[HCN.out];exact h2) h)]
     have h2b:(cn == 92)=false:=by simpa using h2
     have h1b:(cn == 34)=false:=by simpa using h1
     clear h1 h2
     go_wp2_with (at_builtin;refine Zq (ea:=u8c) (k:=1) rfl _ _ _ rfl i0 (.int .u8 0) 1 WM hi hz0 hz1 hz2 rfl (by omega) YM Vh rfl (HO.out.alloc _) (c:UInt8) wr.heap.size 1 rfl ?_ (by unfold maxLen;omega) (by omega) (by simp;omega) ?_)
     ·rw[←HCN.out];exact VR _ c
     ·intro v9 w9 hown9 hx9 hfr9
      have hdd:∀ b,v9.ownBlock=some b→b≠w.heap.size+1:=fun b hb=>by
       rcases hfr9 b hb with h|h
       ·exact HD.out b h
       ·first|omega|(simp at h;omega)
      obtain ⟨a9,c9,rfl,-,-,-⟩:=hown9.slice YM
      have HE:Hid (34 :: (s.data.toList.take (k+1)).flatMap ZX=L++[c]):=Jh (by rw[WN HC.out,←List.cons_append,HL.out,hq])
      have HX9:=Jh ((HX.out.alloc _).andThen hx9 (fun i hi e=>⟨HD.out i e,(HBK.out i e).1⟩))
      have HO9:=Lib.hid hown9
      have HD9:=Jh (hdd)
      clear hown9 hx9 hfr9 hdd
      go_wp2_with fail
      go_roundg (s.size - (k+1))
      case measure=>rw[HN.out];omega
      case rel =>
       refine ⟨k+1,a9,c9,rfl,hkl,by go_num,by rw[HE.out],by rw[HE.out];exact HO9,by rw[HE.out];exact HD9,HX9⟩
  ·have hkk:¬ ((k:Int)<(s.size:Int)):=by omega
   have hke:k=s.size:=by omega
   have hLe:34 :: (s.data.toList.take k).flatMap ZX=34 :: s.data.toList.flatMap ZX:=by rw[List.take_of_length_le (by omega)]
   have hll:(34 :: (s.data.toList.take k).flatMap ZX).length≤2*s.size+1:=by simp only[List.length_cons];omega
   have HBK:=Lib.hid HO.out.blk
   generalize hL:34 :: (s.data.toList.take k).flatMap ZX=L at *
   have HL:=Lib.hid hLe
   clear hL hLe
   have HCV:Hid (∀ (W:World) (v:Value) (bs:List UInt8),Z4 u8c 1 W v bs→(convert 64 9 v).run Tryz.prog W=.ok (.string ⟨bs.toArray⟩) W):=Jh (fun W v bs h=>Z0V h)
   go_wp2_with (at_builtin;refine Zq (ea:=u8c) (k:=1) rfl _ _ _ rfl i0 (.int .u8 0) 1 WM hi hz0 hz1 hz2 rfl (by omega) YM Vh rfl (HO.out.alloc _) (34:UInt8) wr.heap.size 1 rfl ?_ (by unfold maxLen;omega) (by omega) (by simp;omega) ?_)
   ·first|exact VR _ 34|exact fun j u hj=>hj
   ·intro v9 w9 hown9 hx9 hfr9
    obtain ⟨a9,c9,rfl,-,-,-⟩:=id (hown9.slice YM)
    have hcb:=HCV.out w9 _ _ (hown9.slice YM)
    have HE:Hid (L++[34]=Yj s.data.toList):=Jh (by rw[HL.out];rfl)
    have HB9:Hid (Below w.heap.size w w9):=Jh (Ext.new HB2.out ((HX.out.alloc _).andThen hx9 (fun i hi e=>⟨HD.out i e,(HBK.out i e).1⟩)) (fun i hi _ h=>absurd h.2 (by omega)) (by omega))
    clear hown9 hx9 hfr9
    generalize (L++[34]).length=ln at hcb ⊢
    rw[HE.out] at hcb
    go_wp2_with fail
    go_ret
    exact ⟨rfl,HB9.out⟩
def Xd (w : World) : Prop := Lib.TabIs Tryz.prog w "internal/strconv.uint64pow10" .u64 Lib.pow10Tab
theorem Xd.below {w w':World} (h:Xd w) (hb:Below w.heap.size w w'):Xd w':=Lib.tabBelow_of_tabIs h w' hb
theorem Xd.drew {w:World} (h:Xd w):Xd w.drew:=h
def Rb (B:Nat) (w:World):Prop:=∀ w',Below B w w'→Xd w'
theorem Rb.next {B:Nat} {w w':World} (h:Rb B w) (hb:Below B w w'):Rb B w':=fun w2 h2=>h w2 (hb.trans h2)
theorem Rx (n:Int) (h0:-9223372036854775808≤n) (h1:n≤9223372036854775807) (w:World) (ht:Xd w) :
  Calls Tryz.prog 105 #[.int .i64 n] w fun e w'=>e=.returned (.string ⟨(Lib.itoa n).toArray⟩)∧Below w.heap.size w w':=by
 refine (Any.strconv_Itoa Tryz.itoaF n h0 h1 w ht).mono ?_
 rintro e w' ⟨rfl,k,os,rfl⟩
 exact ⟨rfl,Lib.below_grow _ _ (Nat.le_refl _) k os⟩
theorem SB (a b:List UInt8):(⟨a.toArray⟩:ByteArray)++⟨b.toArray⟩=⟨(a++b).toArray⟩:=by
 apply ByteArray.ext
 rw[ByteArray.data_append]
 simp
theorem VX (a:List UInt8):(⟨a.toArray⟩:ByteArray).size=a.length:=by show a.toArray.size=_;simp
theorem Ty (sn sr:Int) (w:World) (ht:Xd w) (hg:Z7 ⟨sn,sr⟩=true∨(sn=0∧sr=0)) (hd:∀ W,Below w.heap.size w W→Calls Tryz.prog 41 #[.agg #[.int .i64 sn,.int .i64 sr]] W fun e w'=>e=.returned (.bool (Z7 ⟨sn,sr⟩))∧Below W.heap.size W w') :
  Calls Tryz.prog 78 #[.agg #[.int .i64 sn,.int .i64 sr]] w fun e w'=>e=.returned (.string ⟨(Lib.itoa sn++46 :: Lib.itoa sr).toArray⟩)∧Below w.heap.size w w':=by
 have hbn:0≤sn∧sn≤1048576∧0≤sr∧sr≤8:=by
  rcases hg with h|⟨rfl,rfl⟩
  ·simp only[Z7,decide_eq_true_eq] at h;omega
  ·omega
 have hl1:=Lib.itoa_length_le sn (by omega) (by omega)
 have hl2:=Lib.itoa_length_le sr (by omega) (by omega)
 have hB0:Below w.heap.size w (w.alloc (.cells #[.int .i64 sn,.int .i64 sr] 23)):=(Below.refl _ _).alloc (Nat.le_refl _) _
 have x0:(w.alloc (.cells #[.int .i64 sn,.int .i64 sr] 23)).cell? ⟨w.heap.size,0,none⟩=some (.int .i64 sn):=by go_simp
 have x1:(w.alloc (.cells #[.int .i64 sn,.int .i64 sr] 23)).cell? ⟨w.heap.size,1,none⟩=some (.int .i64 sr):=by go_simp
 have HT:=Jh (ht.below hB0)
 have HC1:Hid (∀ W:World,Xd W→Calls Tryz.prog 105 #[.int .i64 sn] W fun e w'=>e=.returned (.string ⟨(Lib.itoa sn).toArray⟩)∧Below W.heap.size W w'):=Jh (fun W h=>Rx sn (by omega) (by omega) W h)
 have HC2:Hid (∀ W:World,Xd W→Calls Tryz.prog 105 #[.int .i64 sr] W fun e w'=>e=.returned (.string ⟨(Lib.itoa sr).toArray⟩)∧Below W.heap.size W w'):=Jh (fun W h=>Rx sr (by omega) (by omega) W h)
 generalize Lib.itoa sn=A at *
 generalize Lib.itoa sr=C at *
 have hs1:∀ W,(Op.stringOp .add (⟨A.toArray⟩:ByteArray) ⟨#[46]⟩).run Tryz.prog W=.ok (.string ⟨(A++[46]).toArray⟩) W:=fun W=>by
  rw[run_string_add_sum W _ _ (by rw[VX];show _+1≤_;omega)]
  rw[show (⟨#[46]⟩:ByteArray)=⟨([46]:List UInt8).toArray⟩ from rfl,SB]
 have hs2:∀ W,(Op.stringOp .add (⟨(A++[46]).toArray⟩:ByteArray) ⟨C.toArray⟩).run Tryz.prog W=.ok (.string ⟨(A++46 :: C).toArray⟩) W:=fun W=>by
  rw[run_string_add_sum W _ _ (by rw[VX,VX,List.length_append,List.length_singleton];omega),SB,List.append_assoc]
  rfl
 generalize hac:A++[46]=AC at *
 generalize A++46 :: C=AD at *
 have HB0:=Lib.hid hB0
 have HD:=Lib.hid hd
 clear ht hd hB0 hl1 hl2 hac
 have region3:∀ (w1:World) (K:Prop),K→K:=fun _ _ h=>h
 clear region3
 by_cases hz:sn=0∧sr=0
 ·obtain ⟨rfl,rfl⟩:=hz
  go_enter Tryz.func78,Tryz.ntmps78
  go_upto_region 1 with fail
  generalize w.alloc (.cells #[.int .i64 0,.int .i64 0] 23)=w1 at *
  clear hbn hg HD
  go_upto_region 3 with fail
  go_region_held3 (fun W=>W.cell? ⟨w.heap.size,0,none⟩=some (.int .i64 0)∧W.cell? ⟨w.heap.size,1,none⟩=some (.int .i64 0)∧Xd W) (first|exact ⟨x0,x1,HT.out⟩|exact ⟨Z0 b5 x0,Z0 b5 x1,HT.out.below b5⟩|exact ⟨Z0 b6 (Z0 b5 x0),Z0 b6 (Z0 b5 x1),(HT.out.below b5).below b6⟩) (first|(go_at_call 105;((with_reducible refine (HC1.out _ HT.out.drew).mono ?_);rintro e w5 ⟨rfl,b5⟩;simp only[ZR,ZJ] at b5))|(go_at_call 105;((with_reducible refine (HC2.out _ (HT.out.below b5)).mono ?_);rintro e w6 ⟨rfl,b6⟩;try simp only[ZR,ZJ] at b6)))
  go_wp2_with fail
  go_ret
  exact ⟨rfl,(HB0.out.trans (b5.mono HB0.out.size)).trans (b6.mono (by have:=HB0.out.size;have:=b5.size;omega))⟩
 ·have hr:Z7 ⟨sn,sr⟩=true:=hg.resolve_right hz
  rw[hr] at HD
  go_enter Tryz.func78,Tryz.ntmps78
  go_upto_region 1 with fail
  generalize w.alloc (.cells #[.int .i64 sn,.int .i64 sr] 23)=w1 at *
  have hn:¬ sn=0:=fun e=>by
   rw[e] at hr
   simp[Z7] at hr
  clear hbn hg hz hr
  go_wp2_with fail
  refine (HD.out w1 HB0.out).mono ?_
  rintro e w2 ⟨rfl,b2⟩
  replace x0:=Z0 b2 x0
  replace x1:=Z0 b2 x1
  have HT2:=Jh (HT.out.below b2)
  have HB2:=Jh (HB0.out.trans (b2.mono HB0.out.size))
  clear b2 HB0 HT HD
  go_upto_region 3 with fail
  go_region_held3 (fun W=>W.cell? ⟨w.heap.size,0,none⟩=some (.int .i64 sn)∧W.cell? ⟨w.heap.size,1,none⟩=some (.int .i64 sr)∧Xd W) (first|exact ⟨x0,x1,HT2.out⟩|exact ⟨Z0 b5 x0,Z0 b5 x1,HT2.out.below b5⟩|exact ⟨Z0 b6 (Z0 b5 x0),Z0 b6 (Z0 b5 x1),(HT2.out.below b5).below b6⟩) (first|(go_at_call 105;((with_reducible refine (HC1.out _ HT2.out.drew).mono ?_);rintro e w5 ⟨rfl,b5⟩;simp only[ZR,ZJ] at b5))|(go_at_call 105;((with_reducible refine (HC2.out _ (HT2.out.below b5)).mono ?_);rintro e w6 ⟨rfl,b6⟩;try simp only[ZR,ZJ] at b6)))
  go_wp2_with fail
  go_ret
  exact ⟨rfl,(HB2.out.trans (b5.mono HB2.out.size)).trans (b6.mono (by have:=HB2.out.size;have:=b5.size;omega))⟩
theorem Z1Y (sn sr:Int) (w:World) (hr:Z7 ⟨sn,sr⟩=false) (hz:¬ (sn=0∧sr=0)) (hd:∀ W,Below w.heap.size w W→Calls Tryz.prog 41 #[.agg #[.int .i64 sn,.int .i64 sr]] W fun e w'=>e=.returned (.bool (Z7 ⟨sn,sr⟩))∧Below W.heap.size W w') :
  Calls Tryz.prog 78 #[.agg #[.int .i64 sn,.int .i64 sr]] w fun e w'=>e=.returned (.string ⟨#[]⟩)∧Below w.heap.size w w':=by
 have hB0:Below w.heap.size w (w.alloc (.cells #[.int .i64 sn,.int .i64 sr] 23)):=(Below.refl _ _).alloc (Nat.le_refl _) _
 have x0:(w.alloc (.cells #[.int .i64 sn,.int .i64 sr] 23)).cell? ⟨w.heap.size,0,none⟩=some (.int .i64 sn):=by go_simp
 have x1:(w.alloc (.cells #[.int .i64 sn,.int .i64 sr] 23)).cell? ⟨w.heap.size,1,none⟩=some (.int .i64 sr):=by go_simp
 have HD:=Lib.hid hd
 have HB0:=Lib.hid hB0
 rw[hr] at HD
 clear hd hB0 hr
 by_cases h1:sn=0
 ·subst h1
  have h2:¬ sr=0:=fun e=>hz ⟨rfl,e⟩
  go_enter Tryz.func78,Tryz.ntmps78
  go_upto_region 1 with fail
  generalize w.alloc (.cells #[.int .i64 0,.int .i64 sr] 23)=w1 at *
  go_wp2_with fail
  refine (HD.out w1 HB0.out).mono ?_
  rintro e w2 ⟨rfl,b2⟩
  go_wp2_with fail
  go_ret
  exact ⟨rfl,HB0.out.trans (b2.mono HB0.out.size)⟩
 ·go_enter Tryz.func78,Tryz.ntmps78
  go_upto_region 1 with fail
  generalize w.alloc (.cells #[.int .i64 sn,.int .i64 sr] 23)=w1 at *
  go_wp2_with fail
  refine (HD.out w1 HB0.out).mono ?_
  rintro e w2 ⟨rfl,b2⟩
  go_wp2_with fail
  go_ret
  exact ⟨rfl,HB0.out.trans (b2.mono HB0.out.size)⟩
theorem Z1R (sn sr:Int) (w:World) (ht:Xd w) :
  Calls Tryz.prog 78 #[.agg #[.int .i64 sn,.int .i64 sr]] w fun e w'=>e=.returned (.string ⟨(stL ⟨sn,sr⟩).toArray⟩)∧Below w.heap.size w w':=by
 have hd:∀ W,Below w.heap.size w W→Calls Tryz.prog 41 #[.agg #[.int .i64 sn,.int .i64 sr]] W fun e w'=>e=.returned (.bool (Z7 ⟨sn,sr⟩))∧Below W.heap.size W w':=fun W _=>WW sn sr W
 by_cases hz:sn=0∧sr=0
 ·have e:stL ⟨sn,sr⟩=Lib.itoa sn++46 :: Lib.itoa sr:=by unfold stL;rw[if_neg (by rintro ⟨h,_⟩;exact h (by rw[hz.1,hz.2]))]
  rw[e]
  exact Ty sn sr w ht (.inr hz) hd
 ·have hne:(⟨sn,sr⟩:St)≠⟨0,0⟩:=fun e=>hz ⟨congrArg St.n e,congrArg St.r e⟩
  cases hr:Z7 ⟨sn,sr⟩ with
  | true =>
   have e:stL ⟨sn,sr⟩=Lib.itoa sn++46 :: Lib.itoa sr:=by unfold stL;rw[if_neg (by rintro ⟨_,h⟩;rw[hr] at h;cases h)]
   rw[e]
   exact Ty sn sr w ht (.inl hr) hd
  | false =>
   have e:stL ⟨sn,sr⟩=[]:=by unfold stL;rw[if_pos ⟨hne,hr⟩]
   rw[e]
   exact Z1Y sn sr w hr hz hd
theorem Tw {B:Nat} {w w':World} (h:Below B w w') {b o:Nat} {v:Value} (hb:b<B) (hc:w.cell? ⟨b,o,none⟩=some v):w'.cell? ⟨b,o,none⟩=some v:=by
 have:=h.block b hb
 simp only[World.cell?] at hc ⊢
 rw[this]
 exact hc
theorem Ri (l:List UInt8):(⟨l.toArray⟩:ByteArray).data.toList=l:=by simp
theorem Sf (s:ByteArray) (ss:List ByteArray):YV (s :: ss)=s.toList++YV ss:=by rw[ByteArray.toList_eq];rfl
theorem RP:YV []=[]:=rfl
theorem Wu {α:Type} {l:List α} {k:Nat} {x:α} (f:α→List UInt8) (h:l[k]?=some x):(l.take (k+1)).flatMap f=(l.take k).flatMap f++f x:=by
 rw[List.take_add_one,h,Option.toList_some,List.flatMap_append]
 simp
theorem Vp {α:Type} (l:List α) (f:α→List UInt8) (k:Nat):((l.take k).flatMap f).length≤(l.flatMap f).length:=by
 conv=>rhs;rw[←List.take_append_drop k l]
 rw[List.flatMap_append,List.length_append]
 omega
theorem UG (s:List UInt8):s.length+2≤(Yj s).length:=by
 have:s.length≤(s.flatMap ZX).length:=by
  induction s with
  | nil=>simp
  | cons c s ih =>
   rw[List.flatMap_cons,List.length_append,List.length_cons]
   have:1≤(ZX c).length:=by unfold ZX;split <;> simp
   omega
 unfold Yj
 simp only[List.length_cons,List.length_append,List.length_nil]
 omega
theorem Zu.atr2 {D:Nat→Prop} {W:World} {a:Option Addr} {n c:Nat} {l:List Atr} (h:Zu D Atr.cells 2 W (.slice a n c) l) {k:Nat} {y:Atr} (hk:l[k]?=some y):∃ b o,a=some ⟨b,o,none⟩ ∧
  W.cell? ⟨b,o+k*2,none⟩=some (.string y.name)∧W.cell? ⟨b,o+k*2+1,none⟩=some (.string y.value):=by
 obtain ⟨⟨a',c',e,_,_,hh⟩,_⟩:=h
 injection e with e1 _ _
 subst e1
 obtain ⟨b,o,rfl,h1⟩:=hh (by intro e;rw[e] at hk;simp at hk)
 have:=h1 k y hk
 exact ⟨b,o,rfl,this 0 _ rfl,this 1 _ rfl⟩
theorem Z2z (xn xr:Int) (xk:ByteArray) (aa ta sa:Option Addr) (an ac tn tc sn sc:Nat) (az:List Atr) (t:Pcs) (D:Nat→Prop) (w:World) (ha:Zu D Atr.cells 2 w (.slice aa an ac) az) (hp:Y4 D w (.slice ta tn tc) t) (ht:Xd w)
  (hbig:(WS ⟨xn,xr⟩ xk az t).length≤35184372088832) :
  Calls Tryz.prog 51 #[.agg #[.int .i64 xn,.int .i64 xr,.string xk,.slice aa an ac,.slice ta tn tc,.slice sa sn sc]] w fun e w'=>e=.returned (.string ⟨(WS ⟨xn,xr⟩ xk az t).toArray⟩)∧Below w.heap.size w w':=by
 have hxn:an=az.length∧az.length≤maxLen:=by
  obtain ⟨⟨a,c,e,h1,h2,_⟩,_⟩:=ha
  injection e with _ e2 _
  exact ⟨e2,Nat.le_trans h1 h2⟩
 obtain ⟨at9,ct9,et9,hct,hmt⟩:=hp.shape
 have hxt:tn=t.length:=by injection et9
 have htm:t.length≤maxLen:=Nat.le_trans hct hmt
 unfold maxLen at hxn htm
 have HNN:=Jh (And.intro hxn (And.intro hxt htm))
 have hann:an≤9223372036854775807:=by omega
 have htnn:tn≤9223372036854775807:=by omega
 clear et9 hct hmt hxn hxt htm
 have hB0:Below w.heap.size w ((w.alloc (.cells #[.int .i64 xn,.int .i64 xr,.string xk,.slice aa an ac,.slice ta tn tc,.slice sa sn sc] 28)).alloc (.cells #[.pointer none,.slice none 0 0] 66)):=((Below.refl _ _).alloc (Nat.le_refl _) _).alloc (by simp) _
 have hz1:((w.alloc (.cells #[.int .i64 xn,.int .i64 xr,.string xk,.slice aa an ac,.slice ta tn tc,.slice sa sn sc] 28)).alloc (.cells #[.pointer none,.slice none 0 0] 66)).heap.size=w.heap.size+2:=by simp
 have hbd:BdF (w.heap.size+1) (w.heap.size+1) [] ((w.alloc (.cells #[.int .i64 xn,.int .i64 xr,.string xk,.slice aa an ac,.slice ta tn tc,.slice sa sn sc] 28)).alloc (.cells #[.pointer none,.slice none 0 0] 66)):=BdF.fresh (Nat.le_refl _) (by have:=World.alloc_heap_new (w.alloc (.cells #[.int .i64 xn,.int .i64 xr,.string xk,.slice aa an ac,.slice ta tn tc,.slice sa sn sc] 28)) (.cells #[.pointer none,.slice none 0 0] 66);rwa [World.size_alloc] at this)
 have x0:((w.alloc (.cells #[.int .i64 xn,.int .i64 xr,.string xk,.slice aa an ac,.slice ta tn tc,.slice sa sn sc] 28)).alloc (.cells #[.pointer none,.slice none 0 0] 66)).cell? ⟨w.heap.size,0,none⟩=some (.int .i64 xn):=by go_simp
 have x1:((w.alloc (.cells #[.int .i64 xn,.int .i64 xr,.string xk,.slice aa an ac,.slice ta tn tc,.slice sa sn sc] 28)).alloc (.cells #[.pointer none,.slice none 0 0] 66)).cell? ⟨w.heap.size,1,none⟩=some (.int .i64 xr):=by go_simp
 have x2:((w.alloc (.cells #[.int .i64 xn,.int .i64 xr,.string xk,.slice aa an ac,.slice ta tn tc,.slice sa sn sc] 28)).alloc (.cells #[.pointer none,.slice none 0 0] 66)).cell? ⟨w.heap.size,2,none⟩=some (.string xk):=by go_simp
 have x3:((w.alloc (.cells #[.int .i64 xn,.int .i64 xr,.string xk,.slice aa an ac,.slice ta tn tc,.slice sa sn sc] 28)).alloc (.cells #[.pointer none,.slice none 0 0] 66)).cell? ⟨w.heap.size,3,none⟩=some (.slice aa an ac):=by go_simp
 have x4:((w.alloc (.cells #[.int .i64 xn,.int .i64 xr,.string xk,.slice aa an ac,.slice ta tn tc,.slice sa sn sc] 28)).alloc (.cells #[.pointer none,.slice none 0 0] 66)).cell? ⟨w.heap.size,4,none⟩=some (.slice ta tn tc):=by go_simp
 have HA:=Lib.hid ha
 have HP:=Lib.hid hp
 have HTB:Hid (∀ W,Below (w.heap.size+1) ((w.alloc (.cells #[.int .i64 xn,.int .i64 xr,.string xk,.slice aa an ac,.slice ta tn tc,.slice sa sn sc] 28)).alloc (.cells #[.pointer none,.slice none 0 0] 66)) W→Xd W):=Jh (fun W hW=>ht.below (hB0.trans (hW.mono (by omega))))
 have HZ1:=Lib.hid hz1
 have HB0:=Lib.hid hB0
 have HBD:=Lib.hid hbd
 have HBIG:=Lib.hid hbig
 clear ha hp ht hB0 hbd hbig hz1
 go_enter Tryz.func51,Tryz.ntmps51
 go_upto_region 3 with fail
 generalize ((w.alloc (.cells #[.int .i64 xn,.int .i64 xr,.string xk,.slice aa an ac,.slice ta tn tc,.slice sa sn sc] 28)).alloc (.cells #[.pointer none,.slice none 0 0] 66))=w1 at *
 have HLN:Hid (WS ⟨xn,xr⟩ xk az t=xk.toList++(idL ⟨xn,xr⟩++(az.flatMap XP++t.flatMap pcL))):=Lib.hid rfl
 have hk3:xk.toList.length≤35184372088832:=by have:=HBIG.out;rw[HLN.out] at this;simp only[List.length_append] at this;omega
 have HP3:=Jh (Vl (w.heap.size+1) (w.heap.size+1) w1.heap.size [] [xk] (0,0) (w1.alloc (.cells #[.string xk] 9)) (HBD.out.alloc _) (World.alloc_heap_new w1 _) (by rw[Sf,RP];simp only[List.length_append,List.length_nil];omega) (by have:=HZ1.out;simp;omega) (by simp))
 clear hk3
 go_wp2_with fail
 refine HP3.out.mono ?_
 rintro e w3 ⟨rfl,g1,g2,-⟩
 have HB3:Hid (Below (w.heap.size+1) w1 w3):=Jh (((Below.refl _ _).alloc (by have:=HZ1.out;omega) _).trans g2)
 have HD3:Hid (BdF (w.heap.size+1) (w.heap.size+1) xk.toList w3):=Jh (by rw[Sf,RP,List.append_nil,List.nil_append] at g1;exact g1)
 clear g1 g2 HP3
 have y0:=Tw HB3.out (by omega) x0
 have y1:=Tw HB3.out (by omega) x1
 go_upto_region 4 with fail
 go_cut [20] from 17 to 20 (fun v wx=>v=.bool (!decide ((⟨xn,xr⟩:St)=⟨0,0⟩))∧wx=w3)
 case first =>
  by_cases e1:xn=0
  ·by_cases e2:xr=0
   ·subst e1
    subst e2
    go_wp2_with fail
    go_meet
    exact ⟨rfl,rfl⟩
   ·subst e1
    go_wp2_with fail
    go_meet
    exact ⟨by simp[e2],rfl⟩
  ·go_wp2_with fail
   go_meet
   exact ⟨by simp[e1],rfl⟩
 case rest =>
  obtain ⟨rfl,hw⟩:=hcut
  subst wc
  obtain ⟨sb,hsb⟩:=Je ((!decide ((⟨xn,xr⟩:St)=⟨0,0⟩)))
  rw[hsb]
  have HSB:=Lib.hid hsb
  clear hsb
  go_upto_if 20 with fail
  go_cut [] from 21 to 26 (fun wx=>Hid (BdF (w.heap.size+1) (w.heap.size+1) (xk.toList++idL ⟨xn,xr⟩) wx)∧Hid (Below (w.heap.size+1) w1 wx))
  case first=>as_aux_lemma =>
   cases sb with
   | false =>
    have hid0:idL ⟨xn,xr⟩=[]:=by
     have:=HSB.out
     simp only[Bool.not_eq_false',decide_eq_true_eq] at this
     unfold idL
     rw[if_pos this]
    go_wp2_with fail
    go_meet
    exact ⟨by rw[hid0,List.append_nil];exact HD3,HB3⟩
   | true =>
    have hid1:idL ⟨xn,xr⟩=32 :: 35 :: stL ⟨xn,xr⟩:=by
     have:=HSB.out
     simp only[Bool.not_eq_true',decide_eq_false_iff_not] at this
     unfold idL
     rw[if_neg this]
    have HI1:=Lib.hid hid1
    have hk5:xk.toList.length+(2+(stL ⟨xn,xr⟩).length)≤35184372088832:=by have:=HBIG.out;rw[HLN.out,hid1] at this;simp only[List.length_append,List.length_cons] at this;omega
    have HK5:=Lib.hid hk5
    clear hid1 hk5
    go_wp2_with fail
    refine (Z1R xn xr w3 (HTB.out w3 HB3.out)).mono ?_
    rintro e w4 ⟨rfl,b4⟩
    have hz4:=b4.size
    have hz3:=HB3.out.size
    have hcat:YV [⟨#[32,35]⟩,⟨(stL ⟨xn,xr⟩).toArray⟩]=32 :: 35 :: stL ⟨xn,xr⟩:=by simp[YV]
    have HP5:=Jh (Vl (w.heap.size+1) (w.heap.size+1) w4.heap.size xk.toList [⟨#[32,35]⟩,⟨(stL ⟨xn,xr⟩).toArray⟩] (0,0) (w4.alloc (.cells #[.string ⟨#[32,35]⟩,.string ⟨(stL ⟨xn,xr⟩).toArray⟩] 9)) ((HD3.out.below b4).alloc _) (World.alloc_heap_new w4 _) (by have:=HK5.out;rw[hcat];simp only[List.length_cons];omega) (by have:=HZ1.out;simp;omega) (by simp))
    have HB4:Hid (Below (w.heap.size+1) w1 w4):=Jh (HB3.out.trans (b4.mono (by have:=HZ1.out;omega)))
    clear b4
    go_wp2_with fail
    refine HP5.out.mono ?_
    rintro e w5 ⟨rfl,g1,g2,-⟩
    have HB5:Hid (Below (w.heap.size+1) w1 w5):=Jh ((HB4.out.alloc (by have:=HZ1.out;omega) _).trans g2)
    have HD5:Hid (BdF (w.heap.size+1) (w.heap.size+1) (xk.toList++idL ⟨xn,xr⟩) w5):=Jh (by rw[HI1.out];rw[hcat] at g1;exact g1)
    clear g1 g2 HP5
    go_wp2_with fail
    go_meet
    exact ⟨HD5,HB5⟩
  case rest =>
   obtain ⟨HD6,HB6⟩:=hcut
   clear HD3 HB3 HSB
   have y3:=Tw HB6.out (by omega) x3
   have y4:=Tw HB6.out (by omega) x4
   have y4a:=x4
   clear x0 x1 x2 x3 x4 y0 y1
   have HLN2:Hid (WS ⟨xn,xr⟩ xk az t=(xk.toList++idL ⟨xn,xr⟩)++(az.flatMap XP++t.flatMap pcL)):=Jh (by rw[HLN.out];simp only[List.append_assoc])
   generalize hLL:WS ⟨xn,xr⟩ xk az t=LL at *
   have HLL:=Lib.hid hLL
   clear hLL
   generalize xk.toList++idL ⟨xn,xr⟩=A0 at *
   clear HLN HBD
   go_wp2_with fail
   go_loopg [30] an (fun g iv wr=>∃ k:Nat,g=an - k∧k≤an∧iv=.int .i64 k∧Hid (BdF (w.heap.size+1) (w.heap.size+1) (A0++(az.take k).flatMap XP) wr)∧Hid (Below (w.heap.size+1) w1 wr))
   case atStart=>exact ⟨0,by omega,by omega,rfl,Jh (by simpa using HD6.out),HB6⟩
   case round =>
    obtain ⟨k,hg,hk,rfl,HD,HB⟩:=hrel
    have HG:=Lib.hid hg
    clear hg
    have HBW:Hid (Below w.heap.size w wr):=Jh (HB0.out.trans (HB.out.mono (by have:=HZ1.out;omega)))
    by_cases hkl:k<an
    ·obtain ⟨⟨nm,vl⟩,hx⟩:∃ x,az[k]?=some x:=⟨_,List.getElem?_eq_getElem (by have:=HNN.out.1;omega)⟩
     obtain ⟨b,o,rfl,u0,u1⟩:=(HA.out.ext (Ext.of_below (S:=fun _=>False) HBW.out) (fun _ _ _ f=>f) (fun _=>Nat.zero_lt_succ 1)).atr2 hx
     have hkk:(k:Int)<(an:Int):=by omega
     have hft:=Vp az XP (k+1)
     rw[Wu XP hx,List.length_append] at hft
     have hq2:=UG vl.data.toList
     have hcat:YV [⟨#[32]⟩,nm,⟨#[61]⟩,⟨(Yj vl.data.toList).toArray⟩]=XP ⟨nm,vl⟩:=by simp[YV,XP,ByteArray.toList_eq]
     have hla:(Yj vl.data.toList).length≤(XP ⟨nm,vl⟩).length:=by rw[←hcat];simp[YV];omega
     have hvs:vl.size≤35184372088832∧A0.length+((az.take k).flatMap XP).length+(XP ⟨nm,vl⟩).length≤35184372088832:=by
      have h1:=HBIG.out
      rw[HLN2.out] at h1
      simp only[List.length_append] at h1
      have h2:vl.data.toList.length=vl.size:=by rw[Array.length_toList];rfl
      omega
     have HX:=Lib.hid hx
     have HVS:=Lib.hid hvs
     have HCAT:=Lib.hid hcat
     clear hx hvs hft hq2 hla hcat
     have z0:(wr.alloc (.cells #[.string nm,.string vl] 73)).cell? ⟨wr.heap.size,0,none⟩=some (.string nm):=by go_simp
     have z1:(wr.alloc (.cells #[.string nm,.string vl] 73)).cell? ⟨wr.heap.size,1,none⟩=some (.string vl):=by go_simp
     have HD9:=Jh (HD.out.alloc (.cells #[.string nm,.string vl] 73))
     have HB9:Hid (Below (w.heap.size+1) w1 (wr.alloc (.cells #[.string nm,.string vl] 73))):=Jh (HB.out.alloc (by have:=HB.out.size;have:=HZ1.out;omega) _)
     go_upto_region 9 with fail
     have hza:=World.size_alloc wr (.cells #[.string nm,.string vl] 73)
     have HZA:=Lib.hid hza
     clear hza
     generalize (wr.alloc (.cells #[.string nm,.string vl] 73))=w9 at *
     have hS0:(fun W:World=>W.cell? ⟨wr.heap.size,0,none⟩=some (.string nm)∧W.cell? ⟨wr.heap.size,1,none⟩=some (.string vl)) w9.drew:=⟨z0,z1⟩
     refine Zf (fun W:World=>W.cell? ⟨wr.heap.size,0,none⟩=some (.string nm)∧W.cell? ⟨wr.heap.size,1,none⟩=some (.string vl)) (fun i=>i == 7) (by kernel_rfl) ?_
     refine Ya (i:=0) (d:=some 34) [7] rfl rfl rfl (by kernel_rfl) (by kernel_rfl) (by kernel_rfl) (by kernel_rfl) (fun _ _ _ h=>h) (.inl ⟨by rfl,fun W hW=>by obtain ⟨q0,q1⟩:=hW;go_simp;try rfl⟩) hS0 ?_
     try simp only[Ja]
     refine Ya (i:=1) (d:=some 35) [2,6,7] rfl rfl rfl (by kernel_rfl) (by kernel_rfl) (by kernel_rfl) (by kernel_rfl) (fun _ _ _ h=>h) (.inl ⟨by rfl,fun W hW=>by obtain ⟨q0,q1⟩:=hW;go_simp;try rfl⟩) hS0 ?_
     try simp only[Ja]
     refine Ya (i:=2) (d:=some 36) [6,7] rfl rfl rfl (by kernel_rfl) (by kernel_rfl) (by kernel_rfl) (by kernel_rfl) (fun _ _ _ h=>h) (.inl ⟨by rfl,fun W hW=>by obtain ⟨q0,q1⟩:=hW;go_simp;try rfl⟩) hS0 ?_
     try simp only[Ja]
     refine Ya (i:=3) (d:=some 37) [4,5,6,7] rfl rfl rfl (by kernel_rfl) (by kernel_rfl) (by kernel_rfl) (by kernel_rfl) (fun _ _ _ h=>h) (.inl ⟨by rfl,fun W hW=>by obtain ⟨q0,q1⟩:=hW;go_simp;try rfl⟩) hS0 ?_
     try simp only[Ja]
     refine Ya (i:=4) (d:=some 38) [5,6,7] rfl rfl rfl (by kernel_rfl) (by kernel_rfl) (by kernel_rfl) (by kernel_rfl) (fun _ _ _ h=>h) (.inl ⟨by rfl,fun W hW=>by obtain ⟨q0,q1⟩:=hW;go_simp;try rfl⟩) hS0 ?_
     try simp only[Ja]
     refine ZB (i:=5) (d:=some 39) (f:=79) (args:=#[.string vl]) (w':=w9.drew) (by kernel_rfl) rfl rfl (by rfl) (by go_simp;try rfl) ?_
     refine (Uf vl w9.drew HVS.out.1).mono ?_
     rintro e w5 ⟨rfl,b5⟩
     simp only[ZR,ZJ] at b5
     have hz5:=b5.size
     have HB5:Hid (Below (w.heap.size+1) w1 w5):=Jh (HB9.out.trans (b5.mono (by have:=HB.out.size;have:=HZA.out;have:=HZ1.out;omega)))
     have HD5:=Jh (HD9.out.below b5)
     refine ⟨_,rfl,fun _=>⟨Z0 b5 z0,Z0 b5 z1⟩,?_⟩
     try simp only[Ja]
     refine Zk (i:=6) (d:=some 40) (v:=.slice (some ⟨w5.heap.size,0,none⟩) 4 4) (w':=w5.alloc (.cells #[.string ⟨#[32]⟩,.string nm,.string ⟨#[61]⟩,.string ⟨(Yj vl.data.toList).toArray⟩] 9)) (by kernel_rfl) rfl rfl (by rfl) (by go_simp;try rfl) (fun _=>⟨Z1 (Z0 b5 z0) _,Z1 (Z0 b5 z1) _⟩) ?_
     try simp only[Ja]
     refine ZB (i:=7) (d:=some 41) (f:=77) (args:=#[.slice (some ⟨w5.heap.size,0,none⟩) 4 4,.pointer (some ⟨w.heap.size+1,0,none⟩)]) (w':=w5.alloc (.cells #[.string ⟨#[32]⟩,.string nm,.string ⟨#[61]⟩,.string ⟨(Yj vl.data.toList).toArray⟩] 9)) (by kernel_rfl) rfl rfl (by rfl) (by go_simp;try rfl) ?_
     refine (Vl (w.heap.size+1) (w.heap.size+1) w5.heap.size (A0++(az.take k).flatMap XP) [⟨#[32]⟩,nm,⟨#[61]⟩,⟨(Yj vl.data.toList).toArray⟩] (0,0) _ (HD5.out.alloc _) (World.alloc_heap_new w5 _) (by rw[HCAT.out,List.length_append];have:=HVS.out.2;omega) (by rw[World.size_alloc];have:=HB5.out.size;have:=HZ1.out;omega) (by simp)).mono ?_
     rintro e w6 ⟨rfl,g1,g2,-⟩
     have HD6b:Hid (BdF (w.heap.size+1) (w.heap.size+1) (A0++(az.take (k+1)).flatMap XP) w6):=Jh (by rw[Wu XP HX.out,←HCAT.out,←List.append_assoc];exact g1)
     have HB6b:Hid (Below (w.heap.size+1) w1 w6):=Jh ((HB5.out.alloc (by have:=HB5.out.size;have:=HZ1.out;omega) _).trans g2)
     refine ⟨_,rfl,fun _=>(by rename_i hh;exact absurd hh (by decide)),?_⟩
     try simp only[Ja]
     refine Zd (by kernel_rfl) ?_ _
     clear g1 g2 b5 z0 z1 HD9 HB9 HD5 HB5 hS0 hz5
     go_wp2_with fail
     go_roundg (an - (k+1))
     case measure=>rw[HG.out];omega
     case rel=>exact ⟨k+1,rfl,hkl,by go_num,HD6b,HB6b⟩
    ·have hkk:¬ ((k:Int)<(an:Int)):=by omega
     have HD7:Hid (BdF (w.heap.size+1) (w.heap.size+1) (A0++az.flatMap XP) wr):=Jh (by have:=HD.out;rwa [List.take_of_length_le (by have:=HNN.out.1;omega)] at this)
     have z4:=Tw HB.out (by omega) y4a
     have HLN3:Hid (LL=(A0++az.flatMap XP)++t.flatMap pcL):=Jh (by rw[HLN2.out];simp only[List.append_assoc])
     generalize A0++az.flatMap XP=A1 at *
     have HB7:=Lib.hid HB.out
     clear HD HB HG HLN2 HD6 HB6 y3 y4
     obtain ⟨w7,hw7⟩:∃ w7,w7=wr:=⟨_,rfl⟩
     subst hw7
     go_wp2_with fail
     go_loopg [46] tn (fun g iv wr=>∃ k:Nat,g=tn - k∧k≤tn∧iv=.int .i64 k∧Hid (BdF (w.heap.size+1) (w.heap.size+1) (A1++(t.take k).flatMap pcL) wr)∧Hid (Below (w.heap.size+1) w1 wr))
     case atStart=>exact ⟨0,by omega,by omega,rfl,Jh (by simpa using HD7.out),HB7⟩
     case round =>
      obtain ⟨k,hg,hk,rfl,HD,HB⟩:=hrel
      have HG:=Lib.hid hg
      clear hg
      have HBW:Hid (Below w.heap.size w wr):=Jh (HB0.out.trans (HB.out.mono (by have:=HZ1.out;omega)))
      by_cases hkl:k<tn
      ·obtain ⟨⟨tx,al⟩,hx⟩:∃ x,t[k]?=some x:=⟨_,List.getElem?_eq_getElem (by have:=HNN.out.2.1;omega)⟩
       obtain ⟨b,o,c5,ms,e5,-,-,u0,u1,hsl⟩:=HP.out.at hx
       injection e5 with e5 e6 e7
       clear e6 e7
       subst e5
       obtain ⟨ma,mn,mc⟩:=ms
       replace u0:=Z0 HBW.out u0
       replace u1:=Z0 HBW.out u1
       have hmn:mn=al.length∧al.length≤9223372036854775807:=by obtain ⟨a,c,e,h1,h2,_⟩:=hsl;injection e with _ e2 _;unfold maxLen at h2;exact ⟨e2,Nat.le_trans h1 h2⟩
       have HSL:=Lib.hid hsl
       have hmnn:mn≤9223372036854775807:=by omega
       have HMN:=Lib.hid hmn
       have hkk2:(k:Int)<(tn:Int):=by omega
       have hft:=Vp t pcL (k+1)
       rw[Wu pcL hx,List.length_append] at hft
       have hpc:pcL (tx,al)=32 :: (al.flatMap XZ++Yj tx.data.toList):=by unfold pcL;simp only[ByteArray.toList_eq]
       have hvs:A1.length+((t.take k).flatMap pcL).length+(1+(al.flatMap XZ).length+(Yj tx.data.toList).length)≤35184372088832:=by
        have h1:=HBIG.out
        rw[HLN3.out] at h1
        rw[hpc] at hft
        simp only[List.length_append,List.length_cons] at h1 hft
        omega
       have HX:=Lib.hid hx
       have HVS:=Lib.hid hvs
       have HPC:=Lib.hid hpc
       clear hx hvs hft hpc hsl hmn
       have HPB9:Hid ((wr.alloc (.cells #[.string tx,.slice ma mn mc] 75)).heap[wr.heap.size]?=some (.cells #[.string tx,.slice ma mn mc] 75)):=Jh (World.alloc_heap_new wr _)
       have HD9:=Jh (HD.out.alloc (.cells #[.string tx,.slice ma mn mc] 75))
       have HB9:Hid (Below (w.heap.size+1) w1 (wr.alloc (.cells #[.string tx,.slice ma mn mc] 75))):=Jh (HB.out.alloc (by have:=HB.out.size;have:=HZ1.out;omega) _)
       obtain ⟨wo,hwo⟩:∃ wo,wo=wr:=⟨_,rfl⟩
       subst hwo
       have HWO:=Lib.hid HB.out.size
       go_upto_region 14 with fail
       generalize wo.alloc (.cells #[.string tx,.slice ma mn mc] 75)=w9 at *
       have HP14:=Jh (Vl (w.heap.size+1) (w.heap.size+1) w9.heap.size _ [⟨#[32]⟩] (0,0) (w9.alloc (.cells #[.string ⟨#[32]⟩] 9)) (HD9.out.alloc _) (World.alloc_heap_new w9 _) (by have:=HVS.out;show _+1≤_;rw[List.length_append];omega) (by rw[World.size_alloc];have:=HB9.out.size;have:=HZ1.out;omega) (by simp))
       go_wp2_with fail
       refine HP14.out.mono ?_
       rintro e w10 ⟨rfl,g1,g2,g3⟩
       have HD10:Hid (BdF (w.heap.size+1) (w.heap.size+1) (A1++(t.take k).flatMap pcL++[32]) w10):=Lib.hid g1
       have HB10:Hid (Below (w.heap.size+1) w1 w10):=Jh ((HB9.out.alloc (by have:=HB9.out.size;have:=HZ1.out;omega) _).trans g2)
       have HPB10:Hid (w10.heap[wo.heap.size]?=some (.cells #[.string tx,.slice ma mn mc] 75)):=Jh ((((KpO.refl (w.heap.size+1) w9).alloc _).trans g3).block HPB9.out (by have:=HWO.out;have:=HZ1.out;omega) (by decide))
       have zp1:w10.cell? ⟨wo.heap.size,1,none⟩=some (.slice ma mn mc):=by rw[Lib.cell_of_heap HPB10.out];rfl
       clear g1 g2 g3 HP14 HD9 HB9 HPB9 u0 u1 HD HB
       generalize hA2:A1++(t.take k).flatMap pcL++[32]=A2 at *
       have HA2:=Lib.hid hA2
       clear hA2
       have HVA:Hid (A2.length+(al.flatMap XZ).length+(Yj tx.data.toList).length≤35184372088832):=Jh (by have:=HVS.out;rw[←HA2.out];simp only[List.length_append,List.length_singleton];omega)
       go_wp2_with fail
       go_loopg [56] mn (fun g iv wr=>∃ j:Nat,g=mn - j∧j≤mn∧iv=.int .i64 j∧Hid (BdF (w.heap.size+1) (w.heap.size+1) (A2++(al.take j).flatMap XZ) wr)∧Hid (Below (w.heap.size+1) w1 wr)∧Hid (wr.heap[wo.heap.size]?=some (.cells #[.string tx,.slice ma mn mc] 75)))
       case atStart=>exact ⟨0,by omega,by omega,rfl,Jh (by simpa using HD10.out),HB10,HPB10⟩
       case round =>
        obtain ⟨j,hg2,hj,rfl,HD,HB,HPB⟩:=hrel
        have HG2:=Lib.hid hg2
        clear hg2
        have HBW2:Hid (Below w.heap.size w wr):=Jh (HB0.out.trans (HB.out.mono (by have:=HZ1.out;omega)))
        by_cases hjl:j<mn
        ·obtain ⟨⟨nm,vl⟩,hx⟩:∃ x,al[j]?=some x:=⟨_,List.getElem?_eq_getElem (by have:=HMN.out.1;omega)⟩
         obtain ⟨b2,o2,rfl,u0,u1⟩:=(show Zu (fun _=>True) Atr.cells 2 wr (.slice ma mn mc) al from ⟨HSL.out.below HBW2.out,fun _ _ _ _ _ _=>trivial⟩).atr2 hx
         have hjj:(j:Int)<(mn:Int):=by omega
         have hft:=Vp al XZ (j+1)
         rw[Wu XZ hx,List.length_append] at hft
         have hq2:=UG vl.data.toList
         have hcat:YV [nm,⟨#[61]⟩,⟨(Yj vl.data.toList).toArray⟩,⟨#[58]⟩]=XZ ⟨nm,vl⟩:=by simp[YV,XZ,ByteArray.toList_eq]
         have hla:(Yj vl.data.toList).length≤(XZ ⟨nm,vl⟩).length:=by rw[←hcat];simp[YV];omega
         have hvs:vl.size≤35184372088832∧A2.length+((al.take j).flatMap XZ).length+(XZ ⟨nm,vl⟩).length≤35184372088832:=by
          have h1:=HVA.out
          have h2:vl.data.toList.length=vl.size:=by rw[Array.length_toList];rfl
          omega
         have HX2:=Lib.hid hx
         have HVS2:=Lib.hid hvs
         have HCAT:=Lib.hid hcat
         clear hx hvs hft hq2 hla hcat
         have z0:(wr.alloc (.cells #[.string nm,.string vl] 73)).cell? ⟨wr.heap.size,0,none⟩=some (.string nm):=by go_simp
         have z1:(wr.alloc (.cells #[.string nm,.string vl] 73)).cell? ⟨wr.heap.size,1,none⟩=some (.string vl):=by go_simp
         have HD9:=Jh (HD.out.alloc (.cells #[.string nm,.string vl] 73))
         have HB9:Hid (Below (w.heap.size+1) w1 (wr.alloc (.cells #[.string nm,.string vl] 73))):=Jh (HB.out.alloc (by have:=HB.out.size;have:=HZ1.out;omega) _)
         have HPB9:Hid ((wr.alloc (.cells #[.string nm,.string vl] 73)).heap[wo.heap.size]?=some (.cells #[.string tx,.slice (some ⟨b2,o2,none⟩) mn mc] 75)):=Jh (((KpO.refl (w.heap.size+1) wr).alloc _).block HPB.out (by have:=HWO.out;have:=HZ1.out;omega) (by decide))
         go_upto_region 18 with fail
         have hza:=World.size_alloc wr (.cells #[.string nm,.string vl] 73)
         have HZA:=Lib.hid hza
         clear hza
         generalize (wr.alloc (.cells #[.string nm,.string vl] 73))=w9 at *
         have hS0:(fun W:World=>W.cell? ⟨wr.heap.size,0,none⟩=some (.string nm)∧W.cell? ⟨wr.heap.size,1,none⟩=some (.string vl)) w9.drew:=⟨z0,z1⟩
         refine Zf (fun W:World=>W.cell? ⟨wr.heap.size,0,none⟩=some (.string nm)∧W.cell? ⟨wr.heap.size,1,none⟩=some (.string vl)) (fun i=>i == 7) (by kernel_rfl) ?_
         refine Ya (i:=0) (d:=some 60) [7] rfl rfl rfl (by kernel_rfl) (by kernel_rfl) (by kernel_rfl) (by kernel_rfl) (fun _ _ _ h=>h) (.inl ⟨by rfl,fun W hW=>by obtain ⟨q0,q1⟩:=hW;go_simp;try rfl⟩) hS0 ?_
         try simp only[Ja]
         refine Ya (i:=1) (d:=some 61) [2,6,7] rfl rfl rfl (by kernel_rfl) (by kernel_rfl) (by kernel_rfl) (by kernel_rfl) (fun _ _ _ h=>h) (.inl ⟨by rfl,fun W hW=>by obtain ⟨q0,q1⟩:=hW;go_simp;try rfl⟩) hS0 ?_
         try simp only[Ja]
         refine Ya (i:=2) (d:=some 62) [6,7] rfl rfl rfl (by kernel_rfl) (by kernel_rfl) (by kernel_rfl) (by kernel_rfl) (fun _ _ _ h=>h) (.inl ⟨by rfl,fun W hW=>by obtain ⟨q0,q1⟩:=hW;go_simp;try rfl⟩) hS0 ?_
         try simp only[Ja]
         refine Ya (i:=3) (d:=some 63) [4,5,6,7] rfl rfl rfl (by kernel_rfl) (by kernel_rfl) (by kernel_rfl) (by kernel_rfl) (fun _ _ _ h=>h) (.inl ⟨by rfl,fun W hW=>by obtain ⟨q0,q1⟩:=hW;go_simp;try rfl⟩) hS0 ?_
         try simp only[Ja]
         refine Ya (i:=4) (d:=some 64) [5,6,7] rfl rfl rfl (by kernel_rfl) (by kernel_rfl) (by kernel_rfl) (by kernel_rfl) (fun _ _ _ h=>h) (.inl ⟨by rfl,fun W hW=>by obtain ⟨q0,q1⟩:=hW;go_simp;try rfl⟩) hS0 ?_
         try simp only[Ja]
         refine ZB (i:=5) (d:=some 65) (f:=79) (args:=#[.string vl]) (w':=w9.drew) (by kernel_rfl) rfl rfl (by rfl) (by go_simp;try rfl) ?_
         refine (Uf vl w9.drew HVS2.out.1).mono ?_
         rintro e w5 ⟨rfl,b5⟩
         simp only[ZR,ZJ] at b5
         have hz5:=b5.size
         have HB5:Hid (Below (w.heap.size+1) w1 w5):=Jh (HB9.out.trans (b5.mono (by have:=HB.out.size;have:=HZA.out;have:=HZ1.out;omega)))
         have HD5:=Jh (HD9.out.below b5)
         have HPB5:=Jh ((KpO.of_below (b:=w.heap.size+1) b5).block HPB9.out (by have:=HWO.out;have:=HZ1.out;omega) (by decide))
         refine ⟨_,rfl,fun _=>⟨Z0 b5 z0,Z0 b5 z1⟩,?_⟩
         try simp only[Ja]
         refine Zk (i:=6) (d:=some 66) (v:=.slice (some ⟨w5.heap.size,0,none⟩) 4 4) (w':=w5.alloc (.cells #[.string nm,.string ⟨#[61]⟩,.string ⟨(Yj vl.data.toList).toArray⟩,.string ⟨#[58]⟩] 9)) (by kernel_rfl) rfl rfl (by rfl) (by go_simp;try rfl) (fun _=>⟨Z1 (Z0 b5 z0) _,Z1 (Z0 b5 z1) _⟩) ?_
         try simp only[Ja]
         refine ZB (i:=7) (d:=some 67) (f:=77) (args:=#[.slice (some ⟨w5.heap.size,0,none⟩) 4 4,.pointer (some ⟨w.heap.size+1,0,none⟩)]) (w':=w5.alloc (.cells #[.string nm,.string ⟨#[61]⟩,.string ⟨(Yj vl.data.toList).toArray⟩,.string ⟨#[58]⟩] 9)) (by kernel_rfl) rfl rfl (by rfl) (by go_simp;try rfl) ?_
         refine (Vl (w.heap.size+1) (w.heap.size+1) w5.heap.size (A2++(al.take j).flatMap XZ) [nm,⟨#[61]⟩,⟨(Yj vl.data.toList).toArray⟩,⟨#[58]⟩] (0,0) _ (HD5.out.alloc _) (World.alloc_heap_new w5 _) (by rw[HCAT.out,List.length_append];have:=HVS2.out.2;omega) (by rw[World.size_alloc];have:=HB5.out.size;have:=HZ1.out;omega) (by simp)).mono ?_
         rintro e w6 ⟨rfl,g1,g2,g3⟩
         have HD6b:Hid (BdF (w.heap.size+1) (w.heap.size+1) (A2++(al.take (j+1)).flatMap XZ) w6):=Jh (by rw[Wu XZ HX2.out,←HCAT.out,←List.append_assoc];exact g1)
         have HB6b:Hid (Below (w.heap.size+1) w1 w6):=Jh ((HB5.out.alloc (by have:=HB5.out.size;have:=HZ1.out;omega) _).trans g2)
         have HPB6:Hid (w6.heap[wo.heap.size]?=some (.cells #[.string tx,.slice (some ⟨b2,o2,none⟩) mn mc] 75)):=Jh ((((KpO.refl (w.heap.size+1) w5).alloc _).trans g3).block HPB5.out (by have:=HWO.out;have:=HZ1.out;omega) (by decide))
         refine ⟨_,rfl,fun _=>(by rename_i hh;exact absurd hh (by decide)),?_⟩
         try simp only[Ja]
         refine Zd (by kernel_rfl) ?_ _
         clear g1 g2 g3 b5 z0 z1 HD9 HB9 HD5 HB5 hS0 hz5 HPB9 HPB5
         go_wp2_with fail
         go_roundg (mn - (j+1))
         case measure=>rw[HG2.out];omega
         case rel=>exact ⟨j+1,rfl,hjl,by go_num,HD6b,HB6b,HPB6⟩
        ·have hjj:¬ ((j:Int)<(mn:Int)):=by omega
         have HD7:Hid (BdF (w.heap.size+1) (w.heap.size+1) (A2++al.flatMap XZ) wr):=Jh (by have:=HD.out;rwa [List.take_of_length_le (by have:=HMN.out.1;omega)] at this)
         have zt:wr.cell? ⟨wo.heap.size,0,none⟩=some (.string tx):=by rw[Lib.cell_of_heap HPB.out];rfl
         have hqt:=UG tx.data.toList
         have htx:tx.data.toList.length=tx.size:=by rw[Array.length_toList];rfl
         have hts:tx.size≤35184372088832:=by have:=HVA.out;omega
         have HTS:=Lib.hid hts
         clear hqt htx hts
         go_wp2_with fail
         refine (Uf tx wr HTS.out).mono ?_
         rintro e w12 ⟨rfl,b12⟩
         have hcat:YV [⟨(Yj tx.data.toList).toArray⟩]=Yj tx.data.toList:=by simp[YV]
         have hz12:=b12.size
         have HB12:Hid (Below (w.heap.size+1) w1 w12):=Jh (HB.out.trans (b12.mono (by have:=HB.out.size;have:=HZ1.out;omega)))
         have HP20:=Jh (Vl (w.heap.size+1) (w.heap.size+1) w12.heap.size _ [⟨(Yj tx.data.toList).toArray⟩] (0,0) (w12.alloc (.cells #[.string ⟨(Yj tx.data.toList).toArray⟩] 9)) ((HD7.out.below b12).alloc _) (World.alloc_heap_new w12 _) (by have:=HVA.out;rw[hcat,List.length_append];omega) (by rw[World.size_alloc];have:=HB12.out.size;have:=HZ1.out;omega) (by simp))
         rw[hcat] at HP20
         clear hcat b12
         go_wp2_with fail
         refine HP20.out.mono ?_
         rintro e w13 ⟨rfl,g1,g2,-⟩
         have HD13:Hid (BdF (w.heap.size+1) (w.heap.size+1) (A1++(t.take (k+1)).flatMap pcL) w13):=Jh (by rw[Wu pcL HX.out,HPC.out];rw[←HA2.out] at g1;simp only[List.append_assoc,List.cons_append,List.nil_append,List.singleton_append] at g1 ⊢;exact g1)
         have HB13:Hid (Below (w.heap.size+1) w1 w13):=Jh ((HB12.out.alloc (by have:=HB12.out.size;have:=HZ1.out;omega) _).trans g2)
         clear g1 g2 HP20
         go_wp2_with fail
         go_roundg (tn - (k+1))
         case measure=>rw[HG.out];omega
         case rel=>exact ⟨k+1,rfl,hkl,by go_num,HD13,HB13⟩
      ·have hkk2:¬ ((k:Int)<(tn:Int)):=by omega
       have HD8:Hid (BdF (w.heap.size+1) (w.heap.size+1) LL wr):=Jh (by have:=HD.out;rwa [List.take_of_length_le (by have:=HNN.out.2.1;omega),←HLN3.out] at this)
       go_wp2_with fail
       refine (RL (w.heap.size+1) (w.heap.size+1) LL wr HD8.out (by have:=HB.out.size;have:=HZ1.out;omega)).mono ?_
       rintro e w20 ⟨rfl,-,b20,-⟩
       have HB20:=Jh ((HB0.out.trans (HB.out.mono (by have:=HZ1.out;omega))).trans (b20.mono (by omega)))
       clear b20
       go_wp2_with fail
       go_ret
       exact ⟨by rw[HLL.out];rfl,HB20.out⟩
end Go.Proofs.YtlgipkemoldckaaGreatDoor
