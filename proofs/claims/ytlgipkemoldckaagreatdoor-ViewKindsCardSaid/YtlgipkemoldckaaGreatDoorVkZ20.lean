/- ViewKinds, part 20 of what the proof leans on (made short by a program). -/
import Derived.Test.YtlgipkemoldckaaGreatDoorVkZ19
import Derived.Lib.ItoaNum
set_option linter.unusedSimpArgs false
set_option linter.unusedVariables false
set_option linter.unusedSectionVars false
set_option maxRecDepth 20000
set_option maxHeartbeats 30000000
namespace Go.Proofs.YtlgipkemoldckaaGreatDoor
open Go.RowKit
theorem Z17 (va vk vb:Option Addr) (ca ck cb gp:Nat) (l:List El) (A:List Ch) (ms:List OpD) (rg:St→List Atr) (h:Zk) (w:World)
  (hl:Z5 El.cells 4 w (.slice va l.length ca) l) (hln:l.length≤300) (hul:XO l) (hv:Z5 Ch.cells 5 w (.slice vk A.length ck) A) (hAl:A.length≤300) (hA:Zo h A) (hk:ZZ h) (ha:XI h) (h0:h ⟨0,0⟩=none)
  (hm:Z5 OpD.cells 26 w (.slice vb ms.length cb) ms) (hml:ms.length≤1000)
  (hrg:∀ W',Below w.heap.size w W'→∀ u:St,Calls Tryz.prog 108 #[.pointer (some ⟨gp,0,none⟩),.agg #[.int .i64 u.n,.int .i64 u.r]] W' fun e w'=>XQ W' (rg u) e w') :
  Calls Tryz.prog 37 #[.slice va l.length ca,.slice vk A.length ck,.pointer (some ⟨gp,0,none⟩),.slice vb ms.length cb] w fun e w'=>∃ (x:NdV) (n:Nat),e=.returned (.agg #[.int .i64 x.id.n,.int .i64 x.id.r,.string x.kind,.slice x.attrs.a x.attrs.n x.attrs.cap,.slice x.text.a x.text.n x.text.cap,.slice x.kids.a x.kids.n x.kids.cap]) ∧
   (∀ A':List Ch,Zo (Y6 l h A) A'→A'.length+1≤n)∧Zv (fun k=>w.heap.size≤k) w' x ((Ye l ms rg h A).tree (XA l ms) n)∧Below w.heap.size w w':=by
 have hb1:Below w.heap.size w (w.alloc (.cells #[.int .i64 0,.int .i64 0,.string ⟨#[]⟩,.slice none 0 0,.slice none 0 0,.slice none 0 0] 28)):=(Below.refl _ _).alloc (Nat.le_refl _) _
 have hrb:NdB (w.alloc (.cells #[.int .i64 0,.int .i64 0,.string ⟨#[]⟩,.slice none 0 0,.slice none 0 0,.slice none 0 0] 28)) w.heap.size ⟨0,0⟩ ⟨#[]⟩ Z2 Z2 Z2:=X8 w
 have hz1:(w.alloc (.cells #[.int .i64 0,.int .i64 0,.string ⟨#[]⟩,.slice none 0 0,.slice none 0 0,.slice none 0 0] 28)).heap.size=w.heap.size+1:=by simp
 have HI0:=Jh (And.intro hl (And.intro hv hm))
 have HHK:=Jh (And.intro hA (And.intro hk (And.intro ha (And.intro h0 hul))))
 have HRG:=Jh (fun W (hW:Below w.heap.size w W)=>hrg W hW)
 have HB1:=Lib.hid hb1
 have HRB:=Lib.hid hrb
 clear hl hv hm hA hk ha h0 hul hrg hb1 hrb
 go_enter Tryz.func37,Tryz.ntmps37
 go_upto_region 1 with fail
 generalize w.alloc (.cells #[.int .i64 0,.int .i64 0,.string ⟨#[]⟩,.slice none 0 0,.slice none 0 0,.slice none 0 0] 28)=w1 at *
 go_wp2_with fail
 refine (Z0q va vk ca ck l A h w1 (HI0.out.1.below HB1.out) (by omega) (HI0.out.2.1.below HB1.out) (by omega) HHK.out.1 HHK.out.2.1).mono ?_
 rintro e w2 ⟨v2,D,rfl,hown2,hao,hDl,b2⟩
 obtain ⟨a2,c2,rfl,hc2,hm2,-⟩:=hown2.slice (fun _=>rfl)
 go_upto_region 3 with fail
 unfold maxLen at hm2
 have hz2:=b2.size
 have hb5:Below w.heap.size w (w2.alloc (.cells #[.slice va l.length ca,.slice a2 D.length c2,.pointer (some ⟨gp,0,none⟩),.slice vb ms.length cb] 121)):=(HB1.out.trans (b2.mono HB1.out.size)).alloc (by omega) _
 have hrb5:=(HRB.out.ext (Ext.of_below (S:=fun _=>False) b2) (fun f=>f)).ext ((Ext.refl (fun _=>False) w2).alloc (.cells #[.slice va l.length ca,.slice a2 D.length c2,.pointer (some ⟨gp,0,none⟩),.slice vb ms.length cb] 121)) (fun f=>f)
 have hwb5:RwB (w2.alloc (.cells #[.slice va l.length ca,.slice a2 D.length c2,.pointer (some ⟨gp,0,none⟩),.slice vb ms.length cb] 121)) w2.heap.size ⟨va,ca,a2,c2,gp,vb,cb,l,D,ms⟩:=World.alloc_heap_new w2 _
 have hza5:w2.heap.size+1=(w2.alloc (.cells #[.slice va l.length ca,.slice a2 D.length c2,.pointer (some ⟨gp,0,none⟩),.slice vb ms.length cb] 121)).heap.size:=by simp
 have hwis:WIs (w2.alloc (.cells #[.slice va l.length ca,.slice a2 D.length c2,.pointer (some ⟨gp,0,none⟩),.slice vb ms.length cb] 121)) ⟨va,ca,a2,c2,gp,vb,cb,l,D,ms⟩ (Ye l ms rg h A):=⟨HI0.out.1.below hb5,(hown2.alloc _).slice (fun _=>rfl),HI0.out.2.2.below hb5,⟨by show l.length≤990;omega,hml,by show D.length≤1000;omega⟩,hao,Wy HHK.out.2.2.1 HHK.out.2.2.2.1,HHK.out.2.2.2.2,fun W hW u=>HRG.out W (hb5.trans (hW.mono hb5.size)) u,fun u=>rfl,fun u s hs=>by simp only[Ye,hs,Option.elim]⟩
 have HWIS:=Lib.hid hwis
 have HB5:=Lib.hid hb5
 have HRB5:=Lib.hid hrb5
 have HWB5:=Lib.hid hwb5
 have HDD:=Lib.hid hao
 clear hwis hb5 hrb5 hwb5 hown2 hao b2 HRB HRG HB1
 rw[hza5]
 have hwl5:w2.heap.size<(w2.alloc (.cells #[.slice va l.length ca,.slice a2 D.length c2,.pointer (some ⟨gp,0,none⟩),.slice vb ms.length cb] 121)).heap.size:=by omega
 clear hza5
 generalize hw5g:w2.alloc (.cells #[.slice va l.length ca,.slice a2 D.length c2,.pointer (some ⟨gp,0,none⟩),.slice vb ms.length cb] 121)=w5 at *
 clear hw5g
 obtain ⟨wb,hwbe⟩:=Je (w2.heap.size)
 rw[hwbe] at HWB5 hwl5 ⊢
 have hwbl:w.heap.size<wb:=by omega
 clear hwbe hz2
 have hdn:NdB (w5.alloc (.cells #[.int .i64 0,.int .i64 0,.string ⟨#[100,111,99]⟩,.slice none 0 0,.slice none 0 0,.slice none 0 0] 28)) w5.heap.size ⟨0,0⟩ ⟨#[100,111,99]⟩ Z2 Z2 Z2:=World.alloc_heap_new w5 _
 have hb6:Below w5.heap.size w5 (w5.alloc (.cells #[.int .i64 0,.int .i64 0,.string ⟨#[100,111,99]⟩,.slice none 0 0,.slice none 0 0,.slice none 0 0] 28)):=(Below.refl _ _).alloc (Nat.le_refl _) _
 have hz6:(w5.alloc (.cells #[.int .i64 0,.int .i64 0,.string ⟨#[100,111,99]⟩,.slice none 0 0,.slice none 0 0,.slice none 0 0] 28)).heap.size=w5.heap.size+1:=by simp
 generalize w5.alloc (.cells #[.int .i64 0,.int .i64 0,.string ⟨#[100,111,99]⟩,.slice none 0 0,.slice none 0 0,.slice none 0 0] 28)=w6 at *
 have hz6l:w5.heap.size<w6.heap.size:=by omega
 have HDN:=Lib.hid hdn
 have HB6:=Lib.hid hb6
 clear hz6 hdn hb6
 go_wp2_with fail
 refine (TG _ l w6 (HWIS.out.below HB6.out).el (by omega)).mono ?_
 rintro e wp ⟨up,rfl,hownp,bp⟩
 obtain ⟨n0,R,hP⟩:=Xq l
 rw[hP] at hownp
 rcases hownp.eq_slice with ⟨_,e⟩|⟨gb,cs,rfl,hg1,hg2⟩
 ·cases e
 obtain ⟨_,_,e,hcs1,hcs2,-⟩:=hownp.slice (fun _=>rfl)
 cases e
 unfold maxLen at hcs2
 obtain ⟨ba,oa,ca1,e1,hcs⟩:=(hownp.slice (fun _=>rfl)).spcells (by simp)
 cases e1
 obtain ⟨y0,y1,y2,y3⟩:=hcs 0 _ rfl
 simp only[Nat.zero_mul,Nat.add_zero,Nat.zero_add] at y0 y1 y2 y3
 have y2b:wp.cell? ⟨gb,2,none⟩=some (.int .i64 0):=y2
 have HPR:=Jh (And.intro hP hP)
 have hzp:=bp.size
 have HWP:=Jh ((HWIS.out.below HB6.out).below bp)
 have HBP:=Jh (HB6.out.trans (bp.mono (Nat.le_of_lt hz6l)))
 have HDNP:=Jh (HDN.out.ext (Ext.of_below (S:=fun _=>False) bp) (fun f=>f))
 have hRn:(0:Int)<((R.length+1:Nat):Int):=by omega
 have hlen0:∀ (s:Spn) (r:List Spn),(s :: r).length=r.length+1:=fun _ _=>rfl
 simp only[hlen0] at hcs1 ⊢
 clear hlen0
 clear hownp hP bp hcs y2 HDN HB6
 go_wp2_with fail
 refine (Tl va vb ca cb l ms 0 0 0 n0 wp HWP.out.el HWP.out.op (by omega) hml).mono ?_
 rintro e w7 ⟨q,rfl,hq,b7⟩
 have hfp:XA l ms=Yb l ms 0 n0:=by unfold XA;rw[HPR.out.1];rfl
 rw[←hfp] at hq
 obtain ⟨F0,hF0⟩:=Je (XA l ms)
 rw[hF0] at hq
 have HF0:=Lib.hid hF0
 obtain ⟨qa,qc,rfl,hq1,hq2⟩:=hq.out.shape
 have HQ:=Lib.hid hq.out.toD
 have hz7:=b7.size
 have HD7:=Jh (HDNP.out.ext (Ext.of_below (S:=fun _=>False) b7) (fun f=>f))
 have HB7:=Jh (HBP.out.trans (b7.mono (by omega)))
 clear hfp hF0 hq b7 y0 y1 y2b y3 hRn HWP HDNP HBP
 obtain ⟨B,hBe⟩:∃ B,B=w7.heap.size:=⟨_,rfl⟩
 have hB1:w5.heap.size<B:=by omega
 have hB2:B≤w7.heap.size:=by omega
 clear hBe
 by_cases hF:F0=[]
 ·subst hF
  simp only[List.length_nil]
  go_upto_region 6 with fail
  have HB8:=Lib.hid HB7.out
  have HND8:=Lib.hid HD7.out
  have HOK8:=Jh (Own.nil:Own NdV.cells 6 28 B w7 Z2.val [])
  have HNS8:=Jh (Zc.nil:Zc (fun j=>w.heap.size<j∧j≠w5.heap.size∧¬ Z2.val.ownBlock=some j) w7 [] [])
  have hlv:([]:List NdV).length≤1:=by first|exact Nat.zero_le _|exact Nat.le_refl _
  generalize w7=w8 at *
  have hz8:=HB8.out.size
  have hrl:=Vw.row_le (V:=Ye l ms rg h A) (n:=D.length+1) (b:=⟨0,0⟩) (m:=0) HDD.out (YO HHK.out.2.2.2.1)
  obtain ⟨-,-,-,-,-,d5,-⟩:=HND8.out.cells
  simp only[Z2] at d5
  have hwb8:=HWB5.out.ext (Ext.of_below (S:=fun _=>False) HB8.out) (fun f=>f)
  obtain ⟨k0,k1,k2,k3⟩:=hwb8.cells
  have HS:Hid (∀ W,Below w8.heap.size w8 W→W.cell? ⟨w5.heap.size,5,none⟩=some (.slice none 0 0)∧W.cell? ⟨wb,0,none⟩=some (.slice va l.length ca)∧W.cell? ⟨wb,1,none⟩=some (.slice a2 D.length c2)∧W.cell? ⟨wb,2,none⟩=some (.pointer (some ⟨gp,0,none⟩))∧W.cell? ⟨wb,3,none⟩=some (.slice vb ms.length cb)):=Jh (fun W hW=>⟨Z0 hW d5,Z0 hW k0,Z0 hW k1,Z0 hW k2,Z0 hW k3⟩)
  have hb8d:Below w8.heap.size w8 w8.drew:=(Below.refl _ _).drew
  have hS0:(fun W:World=>W.cell? ⟨w5.heap.size,5,none⟩=some (.slice none 0 0)∧W.cell? ⟨wb,0,none⟩=some (.slice va l.length ca)∧W.cell? ⟨wb,1,none⟩=some (.slice a2 D.length c2)∧W.cell? ⟨wb,2,none⟩=some (.pointer (some ⟨gp,0,none⟩))∧W.cell? ⟨wb,3,none⟩=some (.slice vb ms.length cb)) w8.drew:=HS.out _ hb8d
  have hdw:IntKind.i64.wrap ((D.length:Int)+1)=((D.length+1:Nat):Int):=by rw[show (D.length:Int)+1=((D.length+1:Nat):Int) by omega];exact IntWalk.i64_in _ (by omega)
  refine Zf (fun W:World=>W.cell? ⟨w5.heap.size,5,none⟩=some (.slice none 0 0)∧W.cell? ⟨wb,0,none⟩=some (.slice va l.length ca)∧W.cell? ⟨wb,1,none⟩=some (.slice a2 D.length c2)∧W.cell? ⟨wb,2,none⟩=some (.pointer (some ⟨gp,0,none⟩))∧W.cell? ⟨wb,3,none⟩=some (.slice vb ms.length cb)) (fun i=>i == 11) (by kernel_rfl) ?_
  refine JR 0 37 _ rfl rfl hS0 (fun W hW=>by obtain ⟨q0,q1,q2,q3,q4⟩:=hW;have hdw:=hdw;go_simp;try rfl) ?_
  try simp only[Ja]
  refine JR 1 38 (.slice none 0 0) rfl rfl hS0 (fun W hW=>by obtain ⟨q0,q1,q2,q3,q4⟩:=hW;have hdw:=hdw;go_simp;try rfl) ?_
  try simp only[Ja]
  refine JR 2 39 (.agg #[.slice va l.length ca,.slice a2 D.length c2,.pointer (some ⟨gp,0,none⟩),.slice vb ms.length cb]) rfl rfl hS0 (fun W hW=>by obtain ⟨q0,q1,q2,q3,q4⟩:=hW;have hdw:=hdw;go_simp;try rfl) ?_
  try simp only[Ja]
  refine JR 3 40 (.agg #[.int .i64 0,.int .i64 0]) rfl rfl hS0 (fun W hW=>by obtain ⟨q0,q1,q2,q3,q4⟩:=hW;have hdw:=hdw;go_simp;try rfl) ?_
  try simp only[Ja]
  refine JR 4 41 _ rfl rfl hS0 (fun W hW=>by obtain ⟨q0,q1,q2,q3,q4⟩:=hW;have hdw:=hdw;go_simp;try rfl) ?_
  try simp only[Ja]
  refine JR 5 42 (.slice a2 D.length c2) rfl rfl hS0 (fun W hW=>by obtain ⟨q0,q1,q2,q3,q4⟩:=hW;have hdw:=hdw;go_simp;try rfl) ?_
  try simp only[Ja]
  refine JR 6 43 (.int .i64 D.length) rfl rfl hS0 (fun W hW=>by obtain ⟨q0,q1,q2,q3,q4⟩:=hW;have hdw:=hdw;go_simp;try rfl) ?_
  try simp only[Ja]
  refine JR 7 44 (.int .i64 ((D.length+1:Nat):Int)) rfl rfl hS0 (fun W hW=>by obtain ⟨q0,q1,q2,q3,q4⟩:=hW;have hdw:=hdw;go_simp;try rfl) ?_
  try simp only[Ja]
  refine ZB (i:=8) (d:=some 45) (w':=w8.drew) (by kernel_rfl) rfl rfl (by rfl) (by go_simp;try rfl) ((U8 (Ye l ms rg h A) ⟨va,ca,a2,c2,gp,vb,cb,l,D,ms⟩ (D.length+1) (by omega) ⟨0,0⟩ w8.drew ((HWIS.out.below HB8.out).below hb8d)).mono ?_)
  rintro e w9 ⟨v9,us,rfl,hown9,hn9,b9⟩
  have hb9:Below w8.heap.size w8 w9:=hb8d.trans b9
  have hul:us.length≤D.length:=by rw[hn9.1];exact hrl
  have hz9:=hb9.size
  have hok9:=HOK8.out.ext (Ext.of_below (S:=fun _=>False) hb9) (fun _ _ f=>f)
  have hS9:=HS.out _ hb9
  obtain ⟨⟨ga,gn,gc⟩,rfl⟩:=hown9.sl20
  obtain ⟨i0,hi,hz0,hz1,hz2'⟩:=info_parts Xc
  obtain ⟨v10,w10,hr10,hown10,hx10,hfr10⟩:=XF (P:=Tryz.prog) 26 26 i0 (.agg #[.int .i64 0,.int .i64 0,.string ⟨#[]⟩,.slice none 0 0,.slice none 0 0,.slice none 0 0]) 104 YN hi hz0 hz1 hz2' rfl (by omega) NdV.len NdV.one hok9 hown9 (by unfold maxLen;omega) (by omega) (by omega)
  obtain ⟨⟨g8,n8,c8⟩,rfl⟩:=hown10.sl20
  have hblk:∀ j,(Sl.val Z2).ownBlock=some j→B≤j∧j<w8.heap.size:=fun j hj=>HOK8.out.blk j hj
  have hxz:=hx10.size
  have hnd10:=(HND8.out.ext (Ext.of_below (S:=fun _=>False) hb9) (fun f=>f)).ext hx10 (fun e=>by have:=hblk _ e;omega)
  have hrb10:=(((HRB5.out.ext (Ext.of_below (S:=fun _=>False) HB8.out) (fun f=>f)).ext (Ext.of_below (S:=fun _=>False) hb9) (fun f=>f)).ext hx10 (fun e=>by have:=hblk _ e;omega))
  obtain ⟨e0,e1,e2,e3,e4,e5,ef⟩:=hnd10.cells
  simp only[Z2] at e3 e4 e5
  have ef5:=ef 5
  have hS10:(fun W:World=>W.cell? ⟨w5.heap.size,5,none⟩=some (.slice none 0 0)∧W.cell? ⟨wb,0,none⟩=some (.slice va l.length ca)∧W.cell? ⟨wb,1,none⟩=some (.slice a2 D.length c2)∧W.cell? ⟨wb,2,none⟩=some (.pointer (some ⟨gp,0,none⟩))∧W.cell? ⟨wb,3,none⟩=some (.slice vb ms.length cb)) w10:=by
   obtain ⟨_,t0,t1,t2,t3⟩:=hS9
   exact ⟨e5,hx10.keep t0 (fun e=>by have:=hblk _ e;omega),hx10.keep t1 (fun e=>by have:=hblk _ e;omega),hx10.keep t2 (fun e=>by have:=hblk _ e;omega),hx10.keep t3 (fun e=>by have:=hblk _ e;omega)⟩
  (try simp only[Sl.val,Z2] at hr10)
  refine ⟨_,rfl,fun _=>hS9,?_⟩
  try simp only[Ja]
  refine Zl (i:=9) (d:=some 46) (v:=.slice g8 n8 c8) (w':=w10) (by kernel_rfl) rfl rfl (by rfl) (Yp rfl rfl rfl hr10) (fun _=>hS10) ?_
  try simp only[Ja]
  refine JR 10 47 _ rfl rfl hS10 (fun W hW=>by obtain ⟨q0,q1,q2,q3,q4⟩:=hW;have hdw:=hdw;go_simp;try rfl) ?_
  try simp only[Ja]
  refine Zh (i:=11) (d:=none) (w':=w10.setCell ⟨w5.heap.size,5,none⟩ (.slice g8 n8 c8)) (by kernel_rfl) rfl rfl (by rfl) (by go_simp;try rfl) (fun h=>by cases h) ?_
  try simp only[Ja]
  refine Zd (by kernel_rfl) ?_ _
  have hnd11:=hnd10.setKids ⟨g8,n8,c8⟩
  have hxd:Ext (·=w5.heap.size) w10 (w10.setCell ⟨w5.heap.size,5,none⟩ (.slice g8 n8 c8)):=(Ext.refl (·=w5.heap.size) w10).setCell (p:=⟨w5.heap.size,5,none⟩) (.inr rfl) _
  have hob10:∀ j,(Value.slice g8 n8 c8).ownBlock=some j→B≤j:=fun j hj=>by rcases hfr10 j hj with k|k;exact (hblk j k).1;omega
  have hrb11:=hrb10.ext hxd (fun e=>by have:=HB5.out.size;(try simp only at e);omega)
  have hown11:=hown10.ext hxd (fun j hj e=>by have:=hob10 j hj;(try simp only at e);omega)
  have hns11:Zc (fun j=>w.heap.size<j) (w10.setCell ⟨w5.heap.size,5,none⟩ (.slice g8 n8 c8)) (([]:List NdV)++us) (([]:List Nd)++(Ye l ms rg h A).row (D.length+1) ⟨0,0⟩):=by
   refine Zc.append ?_ ?_
   ·refine (((HNS8.out.ext (Ext.of_below (S:=fun _=>False) hb9) (fun _ _ _ f=>f)).ext hx10 (fun j hj _ e=>hj.2.2 e)).ext hxd (fun j hj _ e=>hj.2.1 e)).mono (fun j hj=>hj.1)
   ·refine ((hn9.monoL (D':=fun j=>w8.heap.size≤j) (fun j hj hl=>hj.1)).ext hx10 (fun j hj _ e=>by have:=hblk _ e;omega)).ext hxd (fun j hj _ e=>by (try simp only at e);omega) |>.mono (fun j hj=>by have:=HB5.out.size;omega)
  have hb11:Below w.heap.size w (w10.setCell ⟨w5.heap.size,5,none⟩ (.slice g8 n8 c8)):=by
   have q1:=HB5.out.trans ((HB8.out.trans (hb9.mono hz8)).mono HB5.out.size)
   have q2:=Ext.new q1 hx10 (fun i hi _ e=>by have:=hblk _ e;have:=HB5.out.size;omega) q1.size
   exact Ext.new q2 hxd (fun i hi _ e=>by have:=HB5.out.size;(try simp only at e);omega) q2.size
  have HND:=Lib.hid hnd11
  have HRB:=Lib.hid hrb11
  have HOWN:=Lib.hid hown11
  have HNS:=Lib.hid hns11
  have HB11:=Lib.hid hb11
  clear hnd11 hrb11 hown11 hns11 hb11 hnd10 hrb10 hxd hx10 hr10 hown10 e0 e1 e2 e3 e4 e5 ef ef5 hS0 hS9 hS10 d5 HS k0 k1 k2 k3 hwb8
  generalize w10.setCell ⟨w5.heap.size,5,none⟩ (.slice g8 n8 c8)=w11 at *
  obtain ⟨g0,g1,g2,g3,g4,g5,-⟩:=HND.out.cells
  obtain ⟨r0,r1,r2,r3,r4,r5,rf⟩:=HRB.out.cells
  have rf0:=rf 0
  have rf1:=rf 1
  have rf2:=rf 2
  have rf3:=rf 3
  have rf4:=rf 4
  have rf5:=rf 5
  simp only[Z2] at g3 g4 g5 r3 r4 r5
  simp only at g0 g1 g2 r0 r1 r2
  clear rf
  go_wp2_with fail
  (try simp only[Exit.inBlock,Exit.then])
  refine bodyPost_ret (v:=.agg #[.int .i64 0,.int .i64 0,.string ⟨#[100,111,99]⟩,.slice none 0 0,.slice none 0 0,.slice g8 n8 c8]) (by rw[X7 rfl];go_simp) rfl ?_
  have hfx:Ext (·=w.heap.size) w11 ((((((w11.setCell ⟨w.heap.size,0,none⟩ (.int .i64 0)).setCell ⟨w.heap.size,1,none⟩ (.int .i64 0)).setCell ⟨w.heap.size,2,none⟩ (.string ⟨#[100,111,99]⟩)).setCell ⟨w.heap.size,3,none⟩ (.slice none 0 0)).setCell ⟨w.heap.size,4,none⟩ (.slice none 0 0)).setCell ⟨w.heap.size,5,none⟩ (.slice g8 n8 c8)) :=
   ((((((Ext.refl (·=w.heap.size) w11).setCell (p:=⟨w.heap.size,0,none⟩) (.inr rfl) _).setCell (p:=⟨w.heap.size,1,none⟩) (.inr rfl) _).setCell (p:=⟨w.heap.size,2,none⟩) (.inr rfl) _).setCell (p:=⟨w.heap.size,3,none⟩) (.inr rfl) _).setCell (p:=⟨w.heap.size,4,none⟩) (.inr rfl) _).setCell (p:=⟨w.heap.size,5,none⟩) (.inr rfl) _
  have hbs5:=HB5.out.size
  have ho2:=HOWN.out.ext hfx (fun j hj e=>by have:=(HOWN.out.blk j hj).1;(try simp only at e);omega)
  refine ⟨⟨⟨0,0⟩,⟨#[100,111,99]⟩,Z2,Z2,⟨g8,n8,c8⟩⟩,rfl,D.length+1,fun A' hA'=>by rw[hA'.unique HDD.out];exact Nat.le_refl _,?_,Ext.new HB11.out hfx (fun i hi _ e=>by (try simp only at e);omega) HB11.out.size⟩
  unfold Vw.tree
  rw[HF0.out,if_pos rfl]
  refine Zv.make rfl rfl Yq Vs ((ho2.sliceD NdV.len).mono (fun j hj=>by have:=(ho2.blk j hj).1;omega)) ((HNS.out.ext hfx (fun j hj _ e=>by (try simp only at e);omega)).mono (fun j hj=>Nat.le_of_lt hj))
 ·have hF1:(0:Int)<(F0.length:Int):=by have:=List.length_pos_iff.2 hF;omega
  have HNF:=Lib.hid hF
  clear hF
  obtain ⟨d0,d1,d2,d3,d4,d5,df⟩:=HD7.out.cells
  simp only[Z2] at d5
  have df5:=df 5
  clear d0 d1 d2 d3 d4 df
  have hdl:=HD7.out.lt
  obtain ⟨i1,hi1,hz01,hz11,hz21⟩:=info_parts Xc
  obtain ⟨x1,hx1⟩:∃ x1:NdV,x1=⟨⟨0,0⟩,Zs,Z2,⟨qa,F0.length,qc⟩,Z2⟩:=⟨_,rfl⟩
  go_wp2_with (at_builtin;refine Zn (l:=[]) rfl _ _ _ rfl i1 (.agg #[.int .i64 0,.int .i64 0,.string ⟨#[]⟩,.slice none 0 0,.slice none 0 0,.slice none 0 0]) 104 YN hi1 hz01 hz11 hz21 rfl (by omega) NdV.len NdV.one rfl (Own.nil:Own NdV.cells 6 28 B _ (.slice none 0 0) []) (⟨⟨0,0⟩,Zs,Z2,⟨qa,F0.length,qc⟩,Z2⟩:NdV) w7.heap.size 1 rfl ?_ (by unfold maxLen;simp) (by simp) (by simp;omega) ?_)
  ·intro j u hj
   match j,hj with
   | 0,hj=>simp[NdV.cells] at hj;subst hj;(try simp only[Zs,Z2]);go_simp
   | 1,hj=>simp[NdV.cells] at hj;subst hj;(try simp only[Zs,Z2]);go_simp
   | 2,hj=>simp[NdV.cells] at hj;subst hj;(try simp only[Zs,Z2]);go_simp
   | 3,hj=>simp[NdV.cells] at hj;subst hj;(try simp only[Zs,Z2]);go_simp
   | 4,hj=>simp[NdV.cells] at hj;subst hj;(try simp only[Zs,Z2]);go_simp
   | 5,hj=>simp[NdV.cells] at hj;subst hj;(try simp only[Zs,Z2]);go_simp
   | n+6,hj=>simp[NdV.cells] at hj
  ·intro v8 wy hown8 hx8 hfr8
   (try simp only[List.nil_append] at hown8)
   obtain ⟨⟨kg,kn,kc⟩,rfl⟩:=hown8.sl20
   have hxy:Ext (fun _=>False) w7 wy:=Ext.new2 ((Ext.refl (fun _=>False) w7).alloc _) hx8 (fun j _ e=>by simp[Value.ownBlock] at e)
   have hfy:∀ j,(Value.slice kg kn kc).ownBlock=some j→w7.heap.size<j:=fun j hj=>by
    rcases hfr8 j hj with k|k
    ·cases k
    ·first|exact k|(have k2:=k;rw[World.size_alloc] at k2;omega)|(have k2:=k;simp at k2;omega)
   have hndy:=HD7.out.ext hxy (fun f=>f)
   have hzy:=hxy.size
   obtain ⟨-,-,-,-,-,e5,ef⟩:=hndy.cells
   simp only[Z2] at e5
   have ef5:=ef 5
   clear ef hx8 hfr8 d5 df5
   have HY:=Jh (And.intro hxy (And.intro hown8 (And.intro hfy hndy)))
   clear hxy hown8 hfy hndy
   go_upto_region 6 with fail
   obtain ⟨hxy,hown8,hfy,hndy⟩:=HY.out
   have hxd:Ext (·=w5.heap.size) wy (wy.setCell ⟨w5.heap.size,5,none⟩ (.slice kg kn kc)):=(Ext.refl (·=w5.heap.size) wy).setCell (p:=⟨w5.heap.size,5,none⟩) (.inr rfl) _
   have hownz:=hown8.ext hxd (fun j hj e=>by have:=(hown8.blk j hj).1;(try simp only at e);omega)
   have hb5w:=HB5.out.size
   have hnsz:Zc (fun j=>w.heap.size<j∧j≠w5.heap.size∧¬ (Sl.mk kg kn kc).val.ownBlock=some j) (wy.setCell ⟨w5.heap.size,5,none⟩ (.slice kg kn kc)) [(⟨⟨0,0⟩,Zs,Z2,⟨qa,F0.length,qc⟩,Z2⟩:NdV)] [Nd.mk ⟨0,0⟩ Zs [] F0 []]:=by
    refine Zc.one (Zv.make rfl rfl Yq ?_ (vs:=[]) Yq Zc.nil)
    refine ((HQ.out.ext hxy (fun _ _ _ f=>f)).ext hxd (fun j hj _ e=>by (try simp only at e);omega)).mono (fun j hj=>⟨by omega,by omega,fun e=>by have:=hfy j e;omega⟩)
   have hndz:=hndy.setKids ⟨kg,kn,kc⟩
   have hbz:Below w5.heap.size w5 (wy.setCell ⟨w5.heap.size,5,none⟩ (.slice kg kn kc)):=Ext.new (Ext.new HB7.out hxy (fun i _ _ f=>f) HB7.out.size) hxd (fun i hi _ e=>by (try simp only at e);omega) (by have:=HB7.out.size;omega)
   have hB3:B≤(wy.setCell ⟨w5.heap.size,5,none⟩ (.slice kg kn kc)).heap.size:=by have:=hxd.size;omega
   clear hxy hown8 hfy hndy hxd HY e5 ef5
   have HB8:=Lib.hid hbz
   have HND8:=Lib.hid hndz
   have HOK8:=Lib.hid hownz
   have HNS8:=Lib.hid hnsz
   have hlv:[(⟨⟨0,0⟩,Zs,Z2,⟨qa,F0.length,qc⟩,Z2⟩:NdV)].length≤1:=by first|exact Nat.zero_le _|exact Nat.le_refl _
   generalize wy.setCell ⟨w5.heap.size,5,none⟩ (.slice kg kn kc)=w8 at *
   have hz8:=HB8.out.size
   have hrl:=Vw.row_le (V:=Ye l ms rg h A) (n:=D.length+1) (b:=⟨0,0⟩) (m:=0) HDD.out (YO HHK.out.2.2.2.1)
   obtain ⟨-,-,-,-,-,d5,-⟩:=HND8.out.cells
   simp only[Z2] at d5
   have hwb8:=HWB5.out.ext (Ext.of_below (S:=fun _=>False) HB8.out) (fun f=>f)
   obtain ⟨k0,k1,k2,k3⟩:=hwb8.cells
   have HS:Hid (∀ W,Below w8.heap.size w8 W→W.cell? ⟨w5.heap.size,5,none⟩=some (.slice kg kn kc)∧W.cell? ⟨wb,0,none⟩=some (.slice va l.length ca)∧W.cell? ⟨wb,1,none⟩=some (.slice a2 D.length c2)∧W.cell? ⟨wb,2,none⟩=some (.pointer (some ⟨gp,0,none⟩))∧W.cell? ⟨wb,3,none⟩=some (.slice vb ms.length cb)):=Jh (fun W hW=>⟨Z0 hW d5,Z0 hW k0,Z0 hW k1,Z0 hW k2,Z0 hW k3⟩)
   have hb8d:Below w8.heap.size w8 w8.drew:=(Below.refl _ _).drew
   have hS0:(fun W:World=>W.cell? ⟨w5.heap.size,5,none⟩=some (.slice kg kn kc)∧W.cell? ⟨wb,0,none⟩=some (.slice va l.length ca)∧W.cell? ⟨wb,1,none⟩=some (.slice a2 D.length c2)∧W.cell? ⟨wb,2,none⟩=some (.pointer (some ⟨gp,0,none⟩))∧W.cell? ⟨wb,3,none⟩=some (.slice vb ms.length cb)) w8.drew:=HS.out _ hb8d
   have hdw:IntKind.i64.wrap ((D.length:Int)+1)=((D.length+1:Nat):Int):=by rw[show (D.length:Int)+1=((D.length+1:Nat):Int) by omega];exact IntWalk.i64_in _ (by omega)
   refine Zf (fun W:World=>W.cell? ⟨w5.heap.size,5,none⟩=some (.slice kg kn kc)∧W.cell? ⟨wb,0,none⟩=some (.slice va l.length ca)∧W.cell? ⟨wb,1,none⟩=some (.slice a2 D.length c2)∧W.cell? ⟨wb,2,none⟩=some (.pointer (some ⟨gp,0,none⟩))∧W.cell? ⟨wb,3,none⟩=some (.slice vb ms.length cb)) (fun i=>i == 11) (by kernel_rfl) ?_
   refine JR 0 37 _ rfl rfl hS0 (fun W hW=>by obtain ⟨q0,q1,q2,q3,q4⟩:=hW;have hdw:=hdw;go_simp;try rfl) ?_
   try simp only[Ja]
   refine JR 1 38 (.slice kg kn kc) rfl rfl hS0 (fun W hW=>by obtain ⟨q0,q1,q2,q3,q4⟩:=hW;have hdw:=hdw;go_simp;try rfl) ?_
   try simp only[Ja]
   refine JR 2 39 (.agg #[.slice va l.length ca,.slice a2 D.length c2,.pointer (some ⟨gp,0,none⟩),.slice vb ms.length cb]) rfl rfl hS0 (fun W hW=>by obtain ⟨q0,q1,q2,q3,q4⟩:=hW;have hdw:=hdw;go_simp;try rfl) ?_
   try simp only[Ja]
   refine JR 3 40 (.agg #[.int .i64 0,.int .i64 0]) rfl rfl hS0 (fun W hW=>by obtain ⟨q0,q1,q2,q3,q4⟩:=hW;have hdw:=hdw;go_simp;try rfl) ?_
   try simp only[Ja]
   refine JR 4 41 _ rfl rfl hS0 (fun W hW=>by obtain ⟨q0,q1,q2,q3,q4⟩:=hW;have hdw:=hdw;go_simp;try rfl) ?_
   try simp only[Ja]
   refine JR 5 42 (.slice a2 D.length c2) rfl rfl hS0 (fun W hW=>by obtain ⟨q0,q1,q2,q3,q4⟩:=hW;have hdw:=hdw;go_simp;try rfl) ?_
   try simp only[Ja]
   refine JR 6 43 (.int .i64 D.length) rfl rfl hS0 (fun W hW=>by obtain ⟨q0,q1,q2,q3,q4⟩:=hW;have hdw:=hdw;go_simp;try rfl) ?_
   try simp only[Ja]
   refine JR 7 44 (.int .i64 ((D.length+1:Nat):Int)) rfl rfl hS0 (fun W hW=>by obtain ⟨q0,q1,q2,q3,q4⟩:=hW;have hdw:=hdw;go_simp;try rfl) ?_
   try simp only[Ja]
   refine ZB (i:=8) (d:=some 45) (w':=w8.drew) (by kernel_rfl) rfl rfl (by rfl) (by go_simp;try rfl) ((U8 (Ye l ms rg h A) ⟨va,ca,a2,c2,gp,vb,cb,l,D,ms⟩ (D.length+1) (by omega) ⟨0,0⟩ w8.drew ((HWIS.out.below HB8.out).below hb8d)).mono ?_)
   rintro e w9 ⟨v9,us,rfl,hown9,hn9,b9⟩
   have hb9:Below w8.heap.size w8 w9:=hb8d.trans b9
   have hul:us.length≤D.length:=by rw[hn9.1];exact hrl
   have hz9:=hb9.size
   have hok9:=HOK8.out.ext (Ext.of_below (S:=fun _=>False) hb9) (fun _ _ f=>f)
   have hS9:=HS.out _ hb9
   obtain ⟨⟨ga,gn,gc⟩,rfl⟩:=hown9.sl20
   obtain ⟨i0,hi,hz0,hz1,hz2'⟩:=info_parts Xc
   obtain ⟨v10,w10,hr10,hown10,hx10,hfr10⟩:=XF (P:=Tryz.prog) 26 26 i0 (.agg #[.int .i64 0,.int .i64 0,.string ⟨#[]⟩,.slice none 0 0,.slice none 0 0,.slice none 0 0]) 104 YN hi hz0 hz1 hz2' rfl (by omega) NdV.len NdV.one hok9 hown9 (by unfold maxLen;omega) (by omega) (by omega)
   obtain ⟨⟨g8,n8,c8⟩,rfl⟩:=hown10.sl20
   have hblk:∀ j,(Sl.val (Sl.mk kg kn kc)).ownBlock=some j→B≤j∧j<w8.heap.size:=fun j hj=>HOK8.out.blk j hj
   have hxz:=hx10.size
   have hnd10:=(HND8.out.ext (Ext.of_below (S:=fun _=>False) hb9) (fun f=>f)).ext hx10 (fun e=>by have:=hblk _ e;omega)
   have hrb10:=(((HRB5.out.ext (Ext.of_below (S:=fun _=>False) HB8.out) (fun f=>f)).ext (Ext.of_below (S:=fun _=>False) hb9) (fun f=>f)).ext hx10 (fun e=>by have:=hblk _ e;omega))
   obtain ⟨e0,e1,e2,e3,e4,e5,ef⟩:=hnd10.cells
   simp only[Z2] at e3 e4 e5
   have ef5:=ef 5
   have hS10:(fun W:World=>W.cell? ⟨w5.heap.size,5,none⟩=some (.slice kg kn kc)∧W.cell? ⟨wb,0,none⟩=some (.slice va l.length ca)∧W.cell? ⟨wb,1,none⟩=some (.slice a2 D.length c2)∧W.cell? ⟨wb,2,none⟩=some (.pointer (some ⟨gp,0,none⟩))∧W.cell? ⟨wb,3,none⟩=some (.slice vb ms.length cb)) w10:=by
    obtain ⟨_,t0,t1,t2,t3⟩:=hS9
    exact ⟨e5,hx10.keep t0 (fun e=>by have:=hblk _ e;omega),hx10.keep t1 (fun e=>by have:=hblk _ e;omega),hx10.keep t2 (fun e=>by have:=hblk _ e;omega),hx10.keep t3 (fun e=>by have:=hblk _ e;omega)⟩
   (try simp only[Sl.val] at hr10)
   refine ⟨_,rfl,fun _=>hS9,?_⟩
   try simp only[Ja]
   refine Zl (i:=9) (d:=some 46) (v:=.slice g8 n8 c8) (w':=w10) (by kernel_rfl) rfl rfl (by rfl) (Yp rfl rfl rfl hr10) (fun _=>hS10) ?_
   try simp only[Ja]
   refine JR 10 47 _ rfl rfl hS10 (fun W hW=>by obtain ⟨q0,q1,q2,q3,q4⟩:=hW;have hdw:=hdw;go_simp;try rfl) ?_
   try simp only[Ja]
   refine Zh (i:=11) (d:=none) (w':=w10.setCell ⟨w5.heap.size,5,none⟩ (.slice g8 n8 c8)) (by kernel_rfl) rfl rfl (by rfl) (by go_simp;try rfl) (fun h=>by cases h) ?_
   try simp only[Ja]
   refine Zd (by kernel_rfl) ?_ _
   have hnd11:=hnd10.setKids ⟨g8,n8,c8⟩
   have hxd:Ext (·=w5.heap.size) w10 (w10.setCell ⟨w5.heap.size,5,none⟩ (.slice g8 n8 c8)):=(Ext.refl (·=w5.heap.size) w10).setCell (p:=⟨w5.heap.size,5,none⟩) (.inr rfl) _
   have hob10:∀ j,(Value.slice g8 n8 c8).ownBlock=some j→B≤j:=fun j hj=>by rcases hfr10 j hj with k|k;exact (hblk j k).1;omega
   have hrb11:=hrb10.ext hxd (fun e=>by have:=HB5.out.size;(try simp only at e);omega)
   have hown11:=hown10.ext hxd (fun j hj e=>by have:=hob10 j hj;(try simp only at e);omega)
   have hns11:Zc (fun j=>w.heap.size<j) (w10.setCell ⟨w5.heap.size,5,none⟩ (.slice g8 n8 c8)) ([(⟨⟨0,0⟩,Zs,Z2,⟨qa,F0.length,qc⟩,Z2⟩:NdV)]++us) ([Nd.mk ⟨0,0⟩ Zs [] F0 []]++(Ye l ms rg h A).row (D.length+1) ⟨0,0⟩):=by
    refine Zc.append ?_ ?_
    ·refine (((HNS8.out.ext (Ext.of_below (S:=fun _=>False) hb9) (fun _ _ _ f=>f)).ext hx10 (fun j hj _ e=>hj.2.2 e)).ext hxd (fun j hj _ e=>hj.2.1 e)).mono (fun j hj=>hj.1)
    ·refine ((hn9.monoL (D':=fun j=>w8.heap.size≤j) (fun j hj hl=>hj.1)).ext hx10 (fun j hj _ e=>by have:=hblk _ e;omega)).ext hxd (fun j hj _ e=>by (try simp only at e);omega) |>.mono (fun j hj=>by have:=HB5.out.size;omega)
   have hb11:Below w.heap.size w (w10.setCell ⟨w5.heap.size,5,none⟩ (.slice g8 n8 c8)):=by
    have q1:=HB5.out.trans ((HB8.out.trans (hb9.mono hz8)).mono HB5.out.size)
    have q2:=Ext.new q1 hx10 (fun i hi _ e=>by have:=hblk _ e;have:=HB5.out.size;omega) q1.size
    exact Ext.new q2 hxd (fun i hi _ e=>by have:=HB5.out.size;(try simp only at e);omega) q2.size
   have HND:=Lib.hid hnd11
   have HRB:=Lib.hid hrb11
   have HOWN:=Lib.hid hown11
   have HNS:=Lib.hid hns11
   have HB11:=Lib.hid hb11
   clear hnd11 hrb11 hown11 hns11 hb11 hnd10 hrb10 hxd hx10 hr10 hown10 e0 e1 e2 e3 e4 e5 ef ef5 hS0 hS9 hS10 d5 HS k0 k1 k2 k3 hwb8
   generalize w10.setCell ⟨w5.heap.size,5,none⟩ (.slice g8 n8 c8)=w11 at *
   obtain ⟨g0,g1,g2,g3,g4,g5,-⟩:=HND.out.cells
   obtain ⟨r0,r1,r2,r3,r4,r5,rf⟩:=HRB.out.cells
   have rf0:=rf 0
   have rf1:=rf 1
   have rf2:=rf 2
   have rf3:=rf 3
   have rf4:=rf 4
   have rf5:=rf 5
   simp only[Z2] at g3 g4 g5 r3 r4 r5
   simp only at g0 g1 g2 r0 r1 r2
   clear rf
   go_wp2_with fail
   (try simp only[Exit.inBlock,Exit.then])
   refine bodyPost_ret (v:=.agg #[.int .i64 0,.int .i64 0,.string ⟨#[100,111,99]⟩,.slice none 0 0,.slice none 0 0,.slice g8 n8 c8]) (by rw[X7 rfl];go_simp) rfl ?_
   have hfx:Ext (·=w.heap.size) w11 ((((((w11.setCell ⟨w.heap.size,0,none⟩ (.int .i64 0)).setCell ⟨w.heap.size,1,none⟩ (.int .i64 0)).setCell ⟨w.heap.size,2,none⟩ (.string ⟨#[100,111,99]⟩)).setCell ⟨w.heap.size,3,none⟩ (.slice none 0 0)).setCell ⟨w.heap.size,4,none⟩ (.slice none 0 0)).setCell ⟨w.heap.size,5,none⟩ (.slice g8 n8 c8)) :=
    ((((((Ext.refl (·=w.heap.size) w11).setCell (p:=⟨w.heap.size,0,none⟩) (.inr rfl) _).setCell (p:=⟨w.heap.size,1,none⟩) (.inr rfl) _).setCell (p:=⟨w.heap.size,2,none⟩) (.inr rfl) _).setCell (p:=⟨w.heap.size,3,none⟩) (.inr rfl) _).setCell (p:=⟨w.heap.size,4,none⟩) (.inr rfl) _).setCell (p:=⟨w.heap.size,5,none⟩) (.inr rfl) _
   have hbs5:=HB5.out.size
   have ho2:=HOWN.out.ext hfx (fun j hj e=>by have:=(HOWN.out.blk j hj).1;(try simp only at e);omega)
   refine ⟨⟨⟨0,0⟩,⟨#[100,111,99]⟩,Z2,Z2,⟨g8,n8,c8⟩⟩,rfl,D.length+1,fun A' hA'=>by rw[hA'.unique HDD.out];exact Nat.le_refl _,?_,Ext.new HB11.out hfx (fun i hi _ e=>by (try simp only at e);omega) HB11.out.size⟩
   unfold Vw.tree
   rw[HF0.out,if_neg HNF.out]
   refine Zv.make rfl rfl Yq Vs ((ho2.sliceD NdV.len).mono (fun j hj=>by have:=(ho2.blk j hj).1;omega)) ((HNS.out.ext hfx (fun j hj _ e=>by (try simp only at e);omega)).mono (fun j hj=>Nat.le_of_lt hj))
theorem YJ.at {D:Nat→Prop} {W:World} {u:Value} {P:Pcs} (h:YJ D W u P) {k:Nat} {t:ByteArray} {al:List Atr} (hk:P[k]?=some (t,al)) :
  ∃ (b o c:Nat) (s:Sl),u=.slice (some ⟨b,o,none⟩) P.length c∧P.length≤c∧c≤maxLen∧W.cell? ⟨b,o+k*2,none⟩=some (.string t)∧W.cell? ⟨b,o+k*2+1,none⟩=some (.slice s.a s.n s.cap)∧Z5 Atr.cells 2 W (.slice s.a s.n s.cap) al:=by
 obtain ⟨vs,h1,h2,h3⟩:=h
 obtain ⟨a,c,rfl,hc,hm,hh⟩:=h1.1
 have hkl:=(List.getElem?_eq_some_iff.1 hk).1
 obtain ⟨x,hx⟩:∃ x,vs[k]?=some x:=⟨_,List.getElem?_eq_getElem (by omega)⟩
 obtain ⟨b,o,rfl,hh1⟩:=hh (by intro e;rw[e] at hx;simp at hx)
 obtain ⟨al',h4,h5⟩:=h3 k x hx
 rw[hk] at h4
 simp only[Option.some.injEq,Prod.mk.injEq] at h4
 obtain ⟨rfl,rfl⟩:=h4
 exact ⟨b,o,c,x.s,by rw[h2],by omega,hm,hh1 k x hx 0 _ rfl,hh1 k x hx 1 _ rfl,h5.1⟩
theorem YJ.shape {D:Nat→Prop} {W:World} {u:Value} {P:Pcs} (h:YJ D W u P):∃ a c,u=.slice a P.length c∧P.length≤c∧c≤maxLen:=by
 obtain ⟨vs,h1,h2,h3⟩:=h
 obtain ⟨a,c,rfl,hc,hm,hh⟩:=h1.1
 exact ⟨a,c,by rw[h2],by omega,hm⟩
end Go.Proofs.YtlgipkemoldckaaGreatDoor
namespace Go.Proofs.YtlgipkemoldckaaGreatDoor
open Go.RowKit Go.Deep
def Y0 (c:UInt8):List UInt8:=if c=34∨c=92 then [92,c] else [c]
def Yn (s:List UInt8):List UInt8:=34 :: (s.flatMap Y0++[34])
def u8c (x:UInt8):List Value:=[.int .u8 x.toNat]
theorem YQ (x:UInt8):(u8c x).length=1:=rfl
theorem Vp (x:UInt8):∀ u∈u8c x,u.oneCell'=true:=by
 intro u hu
 simp only[u8c,List.mem_cons,List.not_mem_nil,or_false] at hu
 subst hu
 rfl
theorem VY (W:World) (x:UInt8):∀ j u,(u8c x)[j]?=some u→(W.alloc (.cells #[.int .u8 x.toNat] 5)).cell? ⟨W.heap.size,j,none⟩=some u:=by
 intro j u hj
 rw[World.cell?_alloc_at _ _ _ _ rfl,←hj,u8c]
 simp
theorem Z3l:(Tryz.prog.info? 5).map (fun i=>(i.zero,i.size,i.bytes))=some (some (.int .u8 0),1,1):=by kernel_rfl
theorem SV:∀ (bs:List UInt8) (s:ByteArray),(bs.map fun x=>(x.toNat:Int)).foldl (fun r n=>r.push (UInt8.ofNat n.toNat)) s=⟨(s.data.toList++bs).toArray⟩
 | [],s=>by cases s;simp
 | b :: bs,s=>by
  rw[List.map_cons,List.foldl_cons,SV bs]
  congr 1
  simp[ByteArray.push]
def stL (s:St):List UInt8:=if s≠⟨0,0⟩∧Z7 s=false then [] else Lib.itoa s.n++46 :: Lib.itoa s.r
theorem Z0e {W:World} {v:Value} {bs:List UInt8} (h:Z5 u8c 1 W v bs):(convert 64 9 v).run Tryz.prog W=.ok (.string ⟨bs.toArray⟩) W:=by
 obtain ⟨a,cap,rfl,hcap,hmax,hcs⟩:=h
 rw[run_convert_bytes_string W 64 9 5 a bs.length cap Tryz.underlying64 (by kernel_rfl) Tryz.underlying9]
 cases a with
 | none =>
  have hys:bs=[]:=Classical.byContradiction fun hn=>by obtain ⟨b,o,e,_⟩:=hcs hn;cases e
  subst hys
  simp[Conv.bytesToString]
  rfl
 | some ad =>
  have hl:=run_loadCells_list (P:=Tryz.prog) W ad ((bs.map fun x=>(x.toNat:Int)).map (Value.int .u8)) (fun j v hj=>by
   rw[List.map_map,List.getElem?_map] at hj
   cases hb:bs[j]? with
   | none=>rw[hb] at hj;cases hj
   | some x =>
    rw[hb] at hj
    cases hj
    obtain ⟨b,o,e,h4⟩:=hcs (by rintro rfl;simp at hb)
    cases e
    have:=h4 j x hb 0 _ rfl
    rw[Nat.mul_one,Nat.add_zero] at this
    rw[show (Addr.add ⟨b,o,none⟩ j)=⟨b,o+j,none⟩ from by unfold Addr.add;split <;> simp_all]
    exact this)
  have:=run_bytesToString (P:=Tryz.prog) W ad bs.length cap (bs.map fun x=>(x.toNat:Int)) (by simpa using hl)
  rw[this,SV]
  simp
end Go.Proofs.YtlgipkemoldckaaGreatDoor
namespace Go.Proofs.YtlgipkemoldckaaGreatDoor
open Go.RowKit
def XT (a:Atr):List UInt8:=32 :: (a.name.toList++61 :: Yn a.value.toList)
def Wf (a:Atr):List UInt8:=a.name.toList++61 :: (Yn a.value.toList++[58])
def pcL (p:ByteArray × List Atr):List UInt8:=32 :: (p.2.flatMap Wf++Yn p.1.toList)
def idL (s:St):List UInt8:=if s=⟨0,0⟩ then [] else 32 :: 35 :: stL s
def WZ (id:St) (k:ByteArray) (a:List Atr) (t:Pcs):List UInt8:=k.toList++(idL id++(a.flatMap XT++t.flatMap pcL))
mutual
def txN (d:Nat):Nd→List UInt8
 | .mk id k a t l=>List.replicate (2*d) 32++(WZ id k a t++10 :: txK (d+1) l)
def txK (d:Nat):List Nd→List UInt8
 | []=>[]
 | n :: l=>txN d n++txK d l
end
theorem Nd.ind {p:Nd→Prop} (h:∀ i k az t l,(∀ n∈l,p n)→p (.mk i k az t l)):∀ n,p n
 | .mk i k az t l=>h i k az t l (fun n hn=>Nd.ind h n)
termination_by n=>SizeOf.sizeOf n
decreasing_by
 have:=List.sizeOf_lt_of_mem hn
 simp only[Nd.mk.sizeOf_spec]
 omega
def NdV.val (x:NdV):Value:=.agg #[.int .i64 x.id.n,.int .i64 x.id.r,.string x.kind,.slice x.attrs.a x.attrs.n x.attrs.cap,.slice x.text.a x.text.n x.text.cap,.slice x.kids.a x.kids.n x.kids.cap]
theorem Zx.node6 {D:Nat→Prop} {W:World} {v:Value} {vs:List NdV} (h:Zx D NdV.cells 6 W v vs) {k:Nat} {y:NdV} (hk:vs[k]?=some y):∃ b o c,v=.slice (some ⟨b,o,none⟩) vs.length c ∧
  W.cell? ⟨b,o+k*6,none⟩=some (.int .i64 y.id.n)∧W.cell? ⟨b,o+k*6+1,none⟩=some (.int .i64 y.id.r)∧W.cell? ⟨b,o+k*6+2,none⟩=some (.string y.kind)∧W.cell? ⟨b,o+k*6+3,none⟩=some (.slice y.attrs.a y.attrs.n y.attrs.cap) ∧
  W.cell? ⟨b,o+k*6+4,none⟩=some (.slice y.text.a y.text.n y.text.cap)∧W.cell? ⟨b,o+k*6+5,none⟩=some (.slice y.kids.a y.kids.n y.kids.cap):=by
 obtain ⟨⟨a,c,rfl,_,_,hh⟩,_⟩:=h
 obtain ⟨b,o,rfl,h1⟩:=hh (by intro e;rw[e] at hk;simp at hk)
 have:=h1 k y hk
 exact ⟨b,o,c,rfl,this 0 _ rfl,this 1 _ rfl,this 2 _ rfl,this 3 _ rfl,this 4 _ rfl,this 5 _ rfl⟩
theorem Zx.below {α:Type} {D:Nat→Prop} {ea:α→List Value} {k:Nat} {W W':World} {v:Value} {l:List α} (h:Zx D ea k W v l) (hb:Below W.heap.size W W') (hk:∀ x,0<(ea x).length):Zx D ea k W' v l:=h.ext (Ext.of_below (S:=fun _=>False) hb) (fun _ _ _ f=>f) hk
theorem Z3L (w:World):Ys (((w.alloc (.map #[] 0)).alloc (.map #[] 0)).alloc (.cells #[.map (some w.heap.size),.map (some (w.heap.size+1))] 93)) (w.heap.size+2) w.heap.size (w.heap.size+1) [] []:=by
 refine ⟨?_,?_,?_,?_,by omega⟩
 ·go_simp
 ·go_simp
 ·exact ((Z6.made w).alloc _).alloc _
 ·have:=(Z6.made (ek:=St.val) (ev:=Value.bool) (w.alloc (.map #[] 0))).alloc (.cells #[.map (some w.heap.size),.map (some (w.heap.size+1))] 93)
  simpa using this
theorem QO (w:World):Calls Tryz.prog 24 #[] w fun e w' =>
  e=.returned (.pointer (some ⟨w.heap.size+2,0,none⟩))∧Ys w' (w.heap.size+2) w.heap.size (w.heap.size+1) [] []∧Below w.heap.size w w'∧w'.heap.size=w.heap.size+3 :=
 (Z3m w).mono fun e w' ⟨he,hw⟩=>by
  subst hw
  exact ⟨he,Z3L w,(((Below.refl _ _).alloc (Nat.le_refl _) _).alloc (by simp) _).alloc (by simp <;> omega) _,by simp⟩
end Go.Proofs.YtlgipkemoldckaaGreatDoor
