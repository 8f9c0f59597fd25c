/- VAll20, part 22 of what the proof leans on (made short by a program). -/
import Derived.Test.YtlgipkemoldckaaGreatDoorVcZ21
set_option linter.unusedSimpArgs false
set_option linter.unusedVariables false
set_option linter.unusedSectionVars false
set_option maxRecDepth 20000
set_option maxHeartbeats 30000000
namespace Go.Proofs.YtlgipkemoldckaaGreatDoor
open Go.RowKit Go.Deep
theorem S6 {B:Nat} {w w':World} (h:Below B w w') {b o:Nat} {v:Value} (hb:b<B) (hc:w.cell? ⟨b,o,none⟩=some v):w'.cell? ⟨b,o,none⟩=some v:=by
 have:=h.block b hb
 simp only[World.cell?] at hc ⊢
 rw[this]
 exact hc
theorem Q9 (l:List UInt8):(⟨l.toArray⟩:ByteArray).data.toList=l:=by simp
theorem Rp (s:ByteArray) (ss:List ByteArray):X7 (s :: ss)=s.toList++X7 ss:=by rw[ByteArray.toList_eq];rfl
theorem Qg:X7 []=[]:=rfl
theorem WD {α:Type} {l:List α} {k:Nat} {x:α} (f:α→List UInt8) (h:l[k]?=some x):(l.take (k+1)).flatMap f=(l.take k).flatMap f++f x:=by
 rw[List.take_add_one,h,Option.toList_some,List.flatMap_append]
 simp
theorem VK {α:Type} (l:List α) (f:α→List UInt8) (k:Nat):((l.take k).flatMap f).length≤(l.flatMap f).length:=by
 conv=>rhs;rw[←List.take_append_drop k l]
 rw[List.flatMap_append,List.length_append]
 omega
theorem UY (s:List UInt8):s.length+2≤(Yt s).length:=by
 have:s.length≤(s.flatMap Yb).length:=by
  induction s with
  | nil=>simp
  | cons c s ih =>
   rw[List.flatMap_cons,List.length_append,List.length_cons]
   have:1≤(Yb c).length:=by unfold Yb;split <;> simp
   omega
 unfold Yt
 simp only[List.length_cons,List.length_append,List.length_nil]
 omega
theorem Zw.atr2 {D:Nat→Prop} {W:World} {a:Option Addr} {n c:Nat} {l:List Atr} (h:Zw D Atr.cells 2 W (.slice a n c) l) {k:Nat} {y:Atr} (hk:l[k]?=some y):∃ b o,a=some ⟨b,o,none⟩ ∧
  W.cell? ⟨b,o+k*2,none⟩=some (.string y.name)∧W.cell? ⟨b,o+k*2+1,none⟩=some (.string y.value):=by
 obtain ⟨⟨a',c',e,_,_,hh⟩,_⟩:=h
 injection e with e1 _ _
 subst e1
 obtain ⟨b,o,rfl,h1⟩:=hh (by intro e;rw[e] at hk;simp at hk)
 have:=h1 k y hk
 exact ⟨b,o,rfl,this 0 _ rfl,this 1 _ rfl⟩
theorem Z3k (xn xr:Int) (xk:ByteArray) (aa ta sa:Option Addr) (an ac tn tc sn sc:Nat) (az:List Atr) (t:Pcs) (D:Nat→Prop) (w:World) (ha:Zw D Atr.cells 2 w (.slice aa an ac) az) (hp:YF D w (.slice ta tn tc) t) (ht:Xe w)
  (hbig:(Vc ⟨xn,xr⟩ xk az t).length≤35184372088832) :
  Calls Tryz.prog 51 #[.agg #[.int .i64 xn,.int .i64 xr,.string xk,.slice aa an ac,.slice ta tn tc,.slice sa sn sc]] w fun e w'=>e=.returned (.string ⟨(Vc ⟨xn,xr⟩ xk az t).toArray⟩)∧Below w.heap.size w w':=by
 have hxn:an=az.length∧az.length≤maxLen:=by
  obtain ⟨⟨a,c,e,h1,h2,_⟩,_⟩:=ha
  injection e with _ e2 _
  exact ⟨e2,Nat.le_trans h1 h2⟩
 obtain ⟨at9,ct9,et9,hct,hmt⟩:=hp.shape
 have hxt:tn=t.length:=by injection et9
 have htm:t.length≤maxLen:=Nat.le_trans hct hmt
 unfold maxLen at hxn htm
 have HNN:=Jh (And.intro hxn (And.intro hxt htm))
 have hann:an≤9223372036854775807:=by omega
 have htnn:tn≤9223372036854775807:=by omega
 clear et9 hct hmt hxn hxt htm
 have hB0:Below w.heap.size w ((w.alloc (.cells #[.int .i64 xn,.int .i64 xr,.string xk,.slice aa an ac,.slice ta tn tc,.slice sa sn sc] 28)).alloc (.cells #[.pointer none,.slice none 0 0] 66)):=((Below.refl _ _).alloc (Nat.le_refl _) _).alloc (by simp) _
 have hz1:((w.alloc (.cells #[.int .i64 xn,.int .i64 xr,.string xk,.slice aa an ac,.slice ta tn tc,.slice sa sn sc] 28)).alloc (.cells #[.pointer none,.slice none 0 0] 66)).heap.size=w.heap.size+2:=by simp
 have hbd:BdF (w.heap.size+1) (w.heap.size+1) [] ((w.alloc (.cells #[.int .i64 xn,.int .i64 xr,.string xk,.slice aa an ac,.slice ta tn tc,.slice sa sn sc] 28)).alloc (.cells #[.pointer none,.slice none 0 0] 66)):=BdF.fresh (Nat.le_refl _) (by have:=World.alloc_heap_new (w.alloc (.cells #[.int .i64 xn,.int .i64 xr,.string xk,.slice aa an ac,.slice ta tn tc,.slice sa sn sc] 28)) (.cells #[.pointer none,.slice none 0 0] 66);rwa [World.size_alloc] at this)
 have x0:((w.alloc (.cells #[.int .i64 xn,.int .i64 xr,.string xk,.slice aa an ac,.slice ta tn tc,.slice sa sn sc] 28)).alloc (.cells #[.pointer none,.slice none 0 0] 66)).cell? ⟨w.heap.size,0,none⟩=some (.int .i64 xn):=by go_simp
 have x1:((w.alloc (.cells #[.int .i64 xn,.int .i64 xr,.string xk,.slice aa an ac,.slice ta tn tc,.slice sa sn sc] 28)).alloc (.cells #[.pointer none,.slice none 0 0] 66)).cell? ⟨w.heap.size,1,none⟩=some (.int .i64 xr):=by go_simp
 have x2:((w.alloc (.cells #[.int .i64 xn,.int .i64 xr,.string xk,.slice aa an ac,.slice ta tn tc,.slice sa sn sc] 28)).alloc (.cells #[.pointer none,.slice none 0 0] 66)).cell? ⟨w.heap.size,2,none⟩=some (.string xk):=by go_simp
 have x3:((w.alloc (.cells #[.int .i64 xn,.int .i64 xr,.string xk,.slice aa an ac,.slice ta tn tc,.slice sa sn sc] 28)).alloc (.cells #[.pointer none,.slice none 0 0] 66)).cell? ⟨w.heap.size,3,none⟩=some (.slice aa an ac):=by go_simp
 have x4:((w.alloc (.cells #[.int .i64 xn,.int .i64 xr,.string xk,.slice aa an ac,.slice ta tn tc,.slice sa sn sc] 28)).alloc (.cells #[.pointer none,.slice none 0 0] 66)).cell? ⟨w.heap.size,4,none⟩=some (.slice ta tn tc):=by go_simp
 have HA:=Lib.hid ha
 have HP:=Lib.hid hp
 have HTB:Hid (∀ W,Below (w.heap.size+1) ((w.alloc (.cells #[.int .i64 xn,.int .i64 xr,.string xk,.slice aa an ac,.slice ta tn tc,.slice sa sn sc] 28)).alloc (.cells #[.pointer none,.slice none 0 0] 66)) W→Xe W):=Jh (fun W hW=>ht.below (hB0.trans (hW.mono (by omega))))
 have HZ1:=Lib.hid hz1
 have HB0:=Lib.hid hB0
 have HBD:=Lib.hid hbd
 have HBIG:=Lib.hid hbig
 clear ha hp ht hB0 hbd hbig hz1
 go_enter Tryz.func51,Tryz.ntmps51
 go_upto_region 3 with fail
 generalize ((w.alloc (.cells #[.int .i64 xn,.int .i64 xr,.string xk,.slice aa an ac,.slice ta tn tc,.slice sa sn sc] 28)).alloc (.cells #[.pointer none,.slice none 0 0] 66))=w1 at *
 have HLN:Hid (Vc ⟨xn,xr⟩ xk az t=xk.toList++(idL ⟨xn,xr⟩++(az.flatMap W5++t.flatMap pcL))):=Lib.hid rfl
 have hk3:xk.toList.length≤35184372088832:=by have:=HBIG.out;rw[HLN.out] at this;simp only[List.length_append] at this;omega
 have HP3:=Jh (VC (w.heap.size+1) (w.heap.size+1) w1.heap.size [] [xk] (0,0) (w1.alloc (.cells #[.string xk] 9)) (HBD.out.alloc _) (World.alloc_heap_new w1 _) (by rw[Rp,Qg];simp only[List.length_append,List.length_nil];omega) (by have:=HZ1.out;simp;omega) (by simp))
 clear hk3
 go_wp2_with fail
 refine HP3.out.mono ?_
 rintro e w3 ⟨rfl,g1,g2,-⟩
 have HB3:Hid (Below (w.heap.size+1) w1 w3):=Jh (((Below.refl _ _).alloc (by have:=HZ1.out;omega) _).trans g2)
 have HD3:Hid (BdF (w.heap.size+1) (w.heap.size+1) xk.toList w3):=Jh (by rw[Rp,Qg,List.append_nil,List.nil_append] at g1;exact g1)
 clear g1 g2 HP3
 have y0:=S6 HB3.out (by omega) x0
 have y1:=S6 HB3.out (by omega) x1
 go_upto_region 4 with fail
 go_cut [20] from 17 to 20 (fun v wx=>v=.bool (!decide ((⟨xn,xr⟩:St)=⟨0,0⟩))∧wx=w3)
 case first =>
  by_cases e1:xn=0
  ·by_cases e2:xr=0
   ·subst e1
    subst e2
    go_wp2_with fail
    go_meet
    exact ⟨rfl,rfl⟩
   ·subst e1
    go_wp2_with fail
    go_meet
    exact ⟨by simp[e2],rfl⟩
  ·go_wp2_with fail
   go_meet
   exact ⟨by simp[e1],rfl⟩
 case rest =>
  obtain ⟨rfl,hw⟩:=hcut
  subst wc
  obtain ⟨sb,hsb⟩:=Je ((!decide ((⟨xn,xr⟩:St)=⟨0,0⟩)))
  rw[hsb]
  have HSB:=Lib.hid hsb
  clear hsb
  go_upto_if 20 with fail
  go_cut [] from 21 to 26 (fun wx=>Hid (BdF (w.heap.size+1) (w.heap.size+1) (xk.toList++idL ⟨xn,xr⟩) wx)∧Hid (Below (w.heap.size+1) w1 wx))
  case first=>as_aux_lemma =>
   cases sb with
   | false =>
    have hid0:idL ⟨xn,xr⟩=[]:=by
     have:=HSB.out
     simp only[Bool.not_eq_false',decide_eq_true_eq] at this
     unfold idL
     rw[if_pos this]
    go_wp2_with fail
    go_meet
    exact ⟨by rw[hid0,List.append_nil];exact HD3,HB3⟩
   | true =>
    have hid1:idL ⟨xn,xr⟩=32 :: 35 :: stL ⟨xn,xr⟩:=by
     have:=HSB.out
     simp only[Bool.not_eq_true',decide_eq_false_iff_not] at this
     unfold idL
     rw[if_neg this]
    have HI1:=Lib.hid hid1
    have hk5:xk.toList.length+(2+(stL ⟨xn,xr⟩).length)≤35184372088832:=by have:=HBIG.out;rw[HLN.out,hid1] at this;simp only[List.length_append,List.length_cons] at this;omega
    have HK5:=Lib.hid hk5
    clear hid1 hk5
    go_wp2_with fail
    refine (Z2A xn xr w3 (HTB.out w3 HB3.out)).mono ?_
    rintro e w4 ⟨rfl,b4⟩
    have hz4:=b4.size
    have hz3:=HB3.out.size
    have hcat:X7 [⟨#[32,35]⟩,⟨(stL ⟨xn,xr⟩).toArray⟩]=32 :: 35 :: stL ⟨xn,xr⟩:=by simp[X7]
    have HP5:=Jh (VC (w.heap.size+1) (w.heap.size+1) w4.heap.size xk.toList [⟨#[32,35]⟩,⟨(stL ⟨xn,xr⟩).toArray⟩] (0,0) (w4.alloc (.cells #[.string ⟨#[32,35]⟩,.string ⟨(stL ⟨xn,xr⟩).toArray⟩] 9)) ((HD3.out.below b4).alloc _) (World.alloc_heap_new w4 _) (by have:=HK5.out;rw[hcat];simp only[List.length_cons];omega) (by have:=HZ1.out;simp;omega) (by simp))
    have HB4:Hid (Below (w.heap.size+1) w1 w4):=Jh (HB3.out.trans (b4.mono (by have:=HZ1.out;omega)))
    clear b4
    go_wp2_with fail
    refine HP5.out.mono ?_
    rintro e w5 ⟨rfl,g1,g2,-⟩
    have HB5:Hid (Below (w.heap.size+1) w1 w5):=Jh ((HB4.out.alloc (by have:=HZ1.out;omega) _).trans g2)
    have HD5:Hid (BdF (w.heap.size+1) (w.heap.size+1) (xk.toList++idL ⟨xn,xr⟩) w5):=Jh (by rw[HI1.out];rw[hcat] at g1;exact g1)
    clear g1 g2 HP5
    go_wp2_with fail
    go_meet
    exact ⟨HD5,HB5⟩
  case rest =>
   obtain ⟨HD6,HB6⟩:=hcut
   clear HD3 HB3 HSB
   have y3:=S6 HB6.out (by omega) x3
   have y4:=S6 HB6.out (by omega) x4
   have y4a:=x4
   clear x0 x1 x2 x3 x4 y0 y1
   have HLN2:Hid (Vc ⟨xn,xr⟩ xk az t=(xk.toList++idL ⟨xn,xr⟩)++(az.flatMap W5++t.flatMap pcL)):=Jh (by rw[HLN.out];simp only[List.append_assoc])
   generalize hLL:Vc ⟨xn,xr⟩ xk az t=LL at *
   have HLL:=Lib.hid hLL
   clear hLL
   generalize xk.toList++idL ⟨xn,xr⟩=A0 at *
   clear HLN HBD
   go_wp2_with fail
   go_loopg [30] an (fun g iv wr=>∃ k:Nat,g=an - k∧k≤an∧iv=.int .i64 k∧Hid (BdF (w.heap.size+1) (w.heap.size+1) (A0++(az.take k).flatMap W5) wr)∧Hid (Below (w.heap.size+1) w1 wr))
   case atStart=>exact ⟨0,by omega,by omega,rfl,Jh (by simpa using HD6.out),HB6⟩
   case round =>
    obtain ⟨k,hg,hk,rfl,HD,HB⟩:=hrel
    have HG:=Lib.hid hg
    clear hg
    have HBW:Hid (Below w.heap.size w wr):=Jh (HB0.out.trans (HB.out.mono (by have:=HZ1.out;omega)))
    by_cases hkl:k<an
    ·obtain ⟨⟨nm,vl⟩,hx⟩:∃ x,az[k]?=some x:=⟨_,List.getElem?_eq_getElem (by have:=HNN.out.1;omega)⟩
     obtain ⟨b,o,rfl,u0,u1⟩:=(HA.out.ext (Ext.of_below (S:=fun _=>False) HBW.out) (fun _ _ _ f=>f) (fun _=>Nat.zero_lt_succ 1)).atr2 hx
     have hkk:(k:Int)<(an:Int):=by omega
     have hft:=VK az W5 (k+1)
     rw[WD W5 hx,List.length_append] at hft
     have hq2:=UY vl.data.toList
     have hcat:X7 [⟨#[32]⟩,nm,⟨#[61]⟩,⟨(Yt vl.data.toList).toArray⟩]=W5 ⟨nm,vl⟩:=by simp[X7,W5,ByteArray.toList_eq]
     have hla:(Yt vl.data.toList).length≤(W5 ⟨nm,vl⟩).length:=by rw[←hcat];simp[X7];omega
     have hvs:vl.size≤35184372088832∧A0.length+((az.take k).flatMap W5).length+(W5 ⟨nm,vl⟩).length≤35184372088832:=by
      have h1:=HBIG.out
      rw[HLN2.out] at h1
      simp only[List.length_append] at h1
      have h2:vl.data.toList.length=vl.size:=by rw[Array.length_toList];rfl
      omega
     have HX:=Lib.hid hx
     have HVS:=Lib.hid hvs
     have HCAT:=Lib.hid hcat
     clear hx hvs hft hq2 hla hcat
     have z0:(wr.alloc (.cells #[.string nm,.string vl] 73)).cell? ⟨wr.heap.size,0,none⟩=some (.string nm):=by go_simp
     have z1:(wr.alloc (.cells #[.string nm,.string vl] 73)).cell? ⟨wr.heap.size,1,none⟩=some (.string vl):=by go_simp
     have HD9:=Jh (HD.out.alloc (.cells #[.string nm,.string vl] 73))
     have HB9:Hid (Below (w.heap.size+1) w1 (wr.alloc (.cells #[.string nm,.string vl] 73))):=Jh (HB.out.alloc (by have:=HB.out.size;have:=HZ1.out;omega) _)
     go_upto_region 9 with fail
     have hza:=World.size_alloc wr (.cells #[.string nm,.string vl] 73)
     have HZA:=Lib.hid hza
     clear hza
     generalize (wr.alloc (.cells #[.string nm,.string vl] 73))=w9 at *
     have hS0:(fun W:World=>W.cell? ⟨wr.heap.size,0,none⟩=some (.string nm)∧W.cell? ⟨wr.heap.size,1,none⟩=some (.string vl)) w9.drew:=⟨z0,z1⟩
     refine Ze (fun W:World=>W.cell? ⟨wr.heap.size,0,none⟩=some (.string nm)∧W.cell? ⟨wr.heap.size,1,none⟩=some (.string vl)) (fun i=>i == 7) (by kernel_rfl) ?_
     refine Yl (i:=0) (d:=some 34) [7] rfl rfl rfl (by kernel_rfl) (by kernel_rfl) (by kernel_rfl) (by kernel_rfl) (fun _ _ _ h=>h) (.inl ⟨by rfl,fun W hW=>by obtain ⟨q0,q1⟩:=hW;go_simp;try rfl⟩) hS0 ?_
     try simp only[Ja]
     refine Yl (i:=1) (d:=some 35) [2,6,7] rfl rfl rfl (by kernel_rfl) (by kernel_rfl) (by kernel_rfl) (by kernel_rfl) (fun _ _ _ h=>h) (.inl ⟨by rfl,fun W hW=>by obtain ⟨q0,q1⟩:=hW;go_simp;try rfl⟩) hS0 ?_
     try simp only[Ja]
     refine Yl (i:=2) (d:=some 36) [6,7] rfl rfl rfl (by kernel_rfl) (by kernel_rfl) (by kernel_rfl) (by kernel_rfl) (fun _ _ _ h=>h) (.inl ⟨by rfl,fun W hW=>by obtain ⟨q0,q1⟩:=hW;go_simp;try rfl⟩) hS0 ?_
     try simp only[Ja]
     refine Yl (i:=3) (d:=some 37) [4,5,6,7] rfl rfl rfl (by kernel_rfl) (by kernel_rfl) (by kernel_rfl) (by kernel_rfl) (fun _ _ _ h=>h) (.inl ⟨by rfl,fun W hW=>by obtain ⟨q0,q1⟩:=hW;go_simp;try rfl⟩) hS0 ?_
     try simp only[Ja]
     refine Yl (i:=4) (d:=some 38) [5,6,7] rfl rfl rfl (by kernel_rfl) (by kernel_rfl) (by kernel_rfl) (by kernel_rfl) (fun _ _ _ h=>h) (.inl ⟨by rfl,fun W hW=>by obtain ⟨q0,q1⟩:=hW;go_simp;try rfl⟩) hS0 ?_
     try simp only[Ja]
     refine ZA (i:=5) (d:=some 39) (f:=79) (args:=#[.string vl]) (w':=w9.drew) (by kernel_rfl) rfl rfl (by rfl) (by go_simp;try rfl) ?_
     refine (UH vl w9.drew HVS.out.1).mono ?_
     rintro e w5 ⟨rfl,b5⟩
     simp only[Ye,Y6] at b5
     have hz5:=b5.size
     have HB5:Hid (Below (w.heap.size+1) w1 w5):=Jh (HB9.out.trans (b5.mono (by have:=HB.out.size;have:=HZA.out;have:=HZ1.out;omega)))
     have HD5:=Jh (HD9.out.below b5)
     refine ⟨_,rfl,fun _=>⟨Z0 b5 z0,Z0 b5 z1⟩,?_⟩
     try simp only[Ja]
     refine Zm (i:=6) (d:=some 40) (v:=.slice (some ⟨w5.heap.size,0,none⟩) 4 4) (w':=w5.alloc (.cells #[.string ⟨#[32]⟩,.string nm,.string ⟨#[61]⟩,.string ⟨(Yt vl.data.toList).toArray⟩] 9)) (by kernel_rfl) rfl rfl (by rfl) (by go_simp;try rfl) (fun _=>⟨Z1 (Z0 b5 z0) _,Z1 (Z0 b5 z1) _⟩) ?_
     try simp only[Ja]
     refine ZA (i:=7) (d:=some 41) (f:=77) (args:=#[.slice (some ⟨w5.heap.size,0,none⟩) 4 4,.pointer (some ⟨w.heap.size+1,0,none⟩)]) (w':=w5.alloc (.cells #[.string ⟨#[32]⟩,.string nm,.string ⟨#[61]⟩,.string ⟨(Yt vl.data.toList).toArray⟩] 9)) (by kernel_rfl) rfl rfl (by rfl) (by go_simp;try rfl) ?_
     refine (VC (w.heap.size+1) (w.heap.size+1) w5.heap.size (A0++(az.take k).flatMap W5) [⟨#[32]⟩,nm,⟨#[61]⟩,⟨(Yt vl.data.toList).toArray⟩] (0,0) _ (HD5.out.alloc _) (World.alloc_heap_new w5 _) (by rw[HCAT.out,List.length_append];have:=HVS.out.2;omega) (by rw[World.size_alloc];have:=HB5.out.size;have:=HZ1.out;omega) (by simp)).mono ?_
     rintro e w6 ⟨rfl,g1,g2,-⟩
     have HD6b:Hid (BdF (w.heap.size+1) (w.heap.size+1) (A0++(az.take (k+1)).flatMap W5) w6):=Jh (by rw[WD W5 HX.out,←HCAT.out,←List.append_assoc];exact g1)
     have HB6b:Hid (Below (w.heap.size+1) w1 w6):=Jh ((HB5.out.alloc (by have:=HB5.out.size;have:=HZ1.out;omega) _).trans g2)
     refine ⟨_,rfl,fun _=>(by rename_i hh;exact absurd hh (by decide)),?_⟩
     try simp only[Ja]
     refine Zc (by kernel_rfl) ?_ _
     clear g1 g2 b5 z0 z1 HD9 HB9 HD5 HB5 hS0 hz5
     go_wp2_with fail
     go_roundg (an - (k+1))
     case measure=>rw[HG.out];omega
     case rel=>exact ⟨k+1,rfl,hkl,by go_num,HD6b,HB6b⟩
    ·have hkk:¬ ((k:Int)<(an:Int)):=by omega
     have HD7:Hid (BdF (w.heap.size+1) (w.heap.size+1) (A0++az.flatMap W5) wr):=Jh (by have:=HD.out;rwa [List.take_of_length_le (by have:=HNN.out.1;omega)] at this)
     have z4:=S6 HB.out (by omega) y4a
     have HLN3:Hid (LL=(A0++az.flatMap W5)++t.flatMap pcL):=Jh (by rw[HLN2.out];simp only[List.append_assoc])
     generalize A0++az.flatMap W5=A1 at *
     have HB7:=Lib.hid HB.out
     clear HD HB HG HLN2 HD6 HB6 y3 y4
     obtain ⟨w7,hw7⟩:∃ w7,w7=wr:=⟨_,rfl⟩
     subst hw7
     go_wp2_with fail
     go_loopg [46] tn (fun g iv wr=>∃ k:Nat,g=tn - k∧k≤tn∧iv=.int .i64 k∧Hid (BdF (w.heap.size+1) (w.heap.size+1) (A1++(t.take k).flatMap pcL) wr)∧Hid (Below (w.heap.size+1) w1 wr))
     case atStart=>exact ⟨0,by omega,by omega,rfl,Jh (by simpa using HD7.out),HB7⟩
     case round =>
      obtain ⟨k,hg,hk,rfl,HD,HB⟩:=hrel
      have HG:=Lib.hid hg
      clear hg
      have HBW:Hid (Below w.heap.size w wr):=Jh (HB0.out.trans (HB.out.mono (by have:=HZ1.out;omega)))
      by_cases hkl:k<tn
      ·obtain ⟨⟨tx,al⟩,hx⟩:∃ x,t[k]?=some x:=⟨_,List.getElem?_eq_getElem (by have:=HNN.out.2.1;omega)⟩
       obtain ⟨b,o,c5,ms,e5,-,-,u0,u1,hsl⟩:=HP.out.at hx
       injection e5 with e5 e6 e7
       clear e6 e7
       subst e5
       obtain ⟨ma,mn,mc⟩:=ms
       replace u0:=Z0 HBW.out u0
       replace u1:=Z0 HBW.out u1
       have hmn:mn=al.length∧al.length≤9223372036854775807:=by obtain ⟨a,c,e,h1,h2,_⟩:=hsl;injection e with _ e2 _;unfold maxLen at h2;exact ⟨e2,Nat.le_trans h1 h2⟩
       have HSL:=Lib.hid hsl
       have hmnn:mn≤9223372036854775807:=by omega
       have HMN:=Lib.hid hmn
       have hkk2:(k:Int)<(tn:Int):=by omega
       have hft:=VK t pcL (k+1)
       rw[WD pcL hx,List.length_append] at hft
       have hpc:pcL (tx,al)=32 :: (al.flatMap Wl++Yt tx.data.toList):=by unfold pcL;simp only[ByteArray.toList_eq]
       have hvs:A1.length+((t.take k).flatMap pcL).length+(1+(al.flatMap Wl).length+(Yt tx.data.toList).length)≤35184372088832:=by
        have h1:=HBIG.out
        rw[HLN3.out] at h1
        rw[hpc] at hft
        simp only[List.length_append,List.length_cons] at h1 hft
        omega
       have HX:=Lib.hid hx
       have HVS:=Lib.hid hvs
       have HPC:=Lib.hid hpc
       clear hx hvs hft hpc hsl hmn
       have HPB9:Hid ((wr.alloc (.cells #[.string tx,.slice ma mn mc] 75)).heap[wr.heap.size]?=some (.cells #[.string tx,.slice ma mn mc] 75)):=Jh (World.alloc_heap_new wr _)
       have HD9:=Jh (HD.out.alloc (.cells #[.string tx,.slice ma mn mc] 75))
       have HB9:Hid (Below (w.heap.size+1) w1 (wr.alloc (.cells #[.string tx,.slice ma mn mc] 75))):=Jh (HB.out.alloc (by have:=HB.out.size;have:=HZ1.out;omega) _)
       obtain ⟨wo,hwo⟩:∃ wo,wo=wr:=⟨_,rfl⟩
       subst hwo
       have HWO:=Lib.hid HB.out.size
       go_upto_region 14 with fail
       generalize wo.alloc (.cells #[.string tx,.slice ma mn mc] 75)=w9 at *
       have HP14:=Jh (VC (w.heap.size+1) (w.heap.size+1) w9.heap.size _ [⟨#[32]⟩] (0,0) (w9.alloc (.cells #[.string ⟨#[32]⟩] 9)) (HD9.out.alloc _) (World.alloc_heap_new w9 _) (by have:=HVS.out;show _+1≤_;rw[List.length_append];omega) (by rw[World.size_alloc];have:=HB9.out.size;have:=HZ1.out;omega) (by simp))
       go_wp2_with fail
       refine HP14.out.mono ?_
       rintro e w10 ⟨rfl,g1,g2,g3⟩
       have HD10:Hid (BdF (w.heap.size+1) (w.heap.size+1) (A1++(t.take k).flatMap pcL++[32]) w10):=Lib.hid g1
       have HB10:Hid (Below (w.heap.size+1) w1 w10):=Jh ((HB9.out.alloc (by have:=HB9.out.size;have:=HZ1.out;omega) _).trans g2)
       have HPB10:Hid (w10.heap[wo.heap.size]?=some (.cells #[.string tx,.slice ma mn mc] 75)):=Jh ((((KpO.refl (w.heap.size+1) w9).alloc _).trans g3).block HPB9.out (by have:=HWO.out;have:=HZ1.out;omega) (by decide))
       have zp1:w10.cell? ⟨wo.heap.size,1,none⟩=some (.slice ma mn mc):=by rw[Lib.cell_of_heap HPB10.out];rfl
       clear g1 g2 g3 HP14 HD9 HB9 HPB9 u0 u1 HD HB
       generalize hA2:A1++(t.take k).flatMap pcL++[32]=A2 at *
       have HA2:=Lib.hid hA2
       clear hA2
       have HVA:Hid (A2.length+(al.flatMap Wl).length+(Yt tx.data.toList).length≤35184372088832):=Jh (by have:=HVS.out;rw[←HA2.out];simp only[List.length_append,List.length_singleton];omega)
       go_wp2_with fail
       go_loopg [56] mn (fun g iv wr=>∃ j:Nat,g=mn - j∧j≤mn∧iv=.int .i64 j∧Hid (BdF (w.heap.size+1) (w.heap.size+1) (A2++(al.take j).flatMap Wl) wr)∧Hid (Below (w.heap.size+1) w1 wr)∧Hid (wr.heap[wo.heap.size]?=some (.cells #[.string tx,.slice ma mn mc] 75)))
       case atStart=>exact ⟨0,by omega,by omega,rfl,Jh (by simpa using HD10.out),HB10,HPB10⟩
       case round =>
        obtain ⟨j,hg2,hj,rfl,HD,HB,HPB⟩:=hrel
        have HG2:=Lib.hid hg2
        clear hg2
        have HBW2:Hid (Below w.heap.size w wr):=Jh (HB0.out.trans (HB.out.mono (by have:=HZ1.out;omega)))
        by_cases hjl:j<mn
        ·obtain ⟨⟨nm,vl⟩,hx⟩:∃ x,al[j]?=some x:=⟨_,List.getElem?_eq_getElem (by have:=HMN.out.1;omega)⟩
         obtain ⟨b2,o2,rfl,u0,u1⟩:=(show Zw (fun _=>True) Atr.cells 2 wr (.slice ma mn mc) al from ⟨HSL.out.below HBW2.out,fun _ _ _ _ _ _=>trivial⟩).atr2 hx
         have hjj:(j:Int)<(mn:Int):=by omega
         have hft:=VK al Wl (j+1)
         rw[WD Wl hx,List.length_append] at hft
         have hq2:=UY vl.data.toList
         have hcat:X7 [nm,⟨#[61]⟩,⟨(Yt vl.data.toList).toArray⟩,⟨#[58]⟩]=Wl ⟨nm,vl⟩:=by simp[X7,Wl,ByteArray.toList_eq]
         have hla:(Yt vl.data.toList).length≤(Wl ⟨nm,vl⟩).length:=by rw[←hcat];simp[X7];omega
         have hvs:vl.size≤35184372088832∧A2.length+((al.take j).flatMap Wl).length+(Wl ⟨nm,vl⟩).length≤35184372088832:=by
          have h1:=HVA.out
          have h2:vl.data.toList.length=vl.size:=by rw[Array.length_toList];rfl
          omega
         have HX2:=Lib.hid hx
         have HVS2:=Lib.hid hvs
         have HCAT:=Lib.hid hcat
         clear hx hvs hft hq2 hla hcat
         have z0:(wr.alloc (.cells #[.string nm,.string vl] 73)).cell? ⟨wr.heap.size,0,none⟩=some (.string nm):=by go_simp
         have z1:(wr.alloc (.cells #[.string nm,.string vl] 73)).cell? ⟨wr.heap.size,1,none⟩=some (.string vl):=by go_simp
         have HD9:=Jh (HD.out.alloc (.cells #[.string nm,.string vl] 73))
         have HB9:Hid (Below (w.heap.size+1) w1 (wr.alloc (.cells #[.string nm,.string vl] 73))):=Jh (HB.out.alloc (by have:=HB.out.size;have:=HZ1.out;omega) _)
         have HPB9:Hid ((wr.alloc (.cells #[.string nm,.string vl] 73)).heap[wo.heap.size]?=some (.cells #[.string tx,.slice (some ⟨b2,o2,none⟩) mn mc] 75)):=Jh (((KpO.refl (w.heap.size+1) wr).alloc _).block HPB.out (by have:=HWO.out;have:=HZ1.out;omega) (by decide))
         go_upto_region 18 with fail
         have hza:=World.size_alloc wr (.cells #[.string nm,.string vl] 73)
         have HZA:=Lib.hid hza
         clear hza
         generalize (wr.alloc (.cells #[.string nm,.string vl] 73))=w9 at *
         have hS0:(fun W:World=>W.cell? ⟨wr.heap.size,0,none⟩=some (.string nm)∧W.cell? ⟨wr.heap.size,1,none⟩=some (.string vl)) w9.drew:=⟨z0,z1⟩
         refine Ze (fun W:World=>W.cell? ⟨wr.heap.size,0,none⟩=some (.string nm)∧W.cell? ⟨wr.heap.size,1,none⟩=some (.string vl)) (fun i=>i == 7) (by kernel_rfl) ?_
         refine Yl (i:=0) (d:=some 60) [7] rfl rfl rfl (by kernel_rfl) (by kernel_rfl) (by kernel_rfl) (by kernel_rfl) (fun _ _ _ h=>h) (.inl ⟨by rfl,fun W hW=>by obtain ⟨q0,q1⟩:=hW;go_simp;try rfl⟩) hS0 ?_
         try simp only[Ja]
         refine Yl (i:=1) (d:=some 61) [2,6,7] rfl rfl rfl (by kernel_rfl) (by kernel_rfl) (by kernel_rfl) (by kernel_rfl) (fun _ _ _ h=>h) (.inl ⟨by rfl,fun W hW=>by obtain ⟨q0,q1⟩:=hW;go_simp;try rfl⟩) hS0 ?_
         try simp only[Ja]
         refine Yl (i:=2) (d:=some 62) [6,7] rfl rfl rfl (by kernel_rfl) (by kernel_rfl) (by kernel_rfl) (by kernel_rfl) (fun _ _ _ h=>h) (.inl ⟨by rfl,fun W hW=>by obtain ⟨q0,q1⟩:=hW;go_simp;try rfl⟩) hS0 ?_
         try simp only[Ja]
         refine Yl (i:=3) (d:=some 63) [4,5,6,7] rfl rfl rfl (by kernel_rfl) (by kernel_rfl) (by kernel_rfl) (by kernel_rfl) (fun _ _ _ h=>h) (.inl ⟨by rfl,fun W hW=>by obtain ⟨q0,q1⟩:=hW;go_simp;try rfl⟩) hS0 ?_
         try simp only[Ja]
         refine Yl (i:=4) (d:=some 64) [5,6,7] rfl rfl rfl (by kernel_rfl) (by kernel_rfl) (by kernel_rfl) (by kernel_rfl) (fun _ _ _ h=>h) (.inl ⟨by rfl,fun W hW=>by obtain ⟨q0,q1⟩:=hW;go_simp;try rfl⟩) hS0 ?_
         try simp only[Ja]
         refine ZA (i:=5) (d:=some 65) (f:=79) (args:=#[.string vl]) (w':=w9.drew) (by kernel_rfl) rfl rfl (by rfl) (by go_simp;try rfl) ?_
         refine (UH vl w9.drew HVS2.out.1).mono ?_
         rintro e w5 ⟨rfl,b5⟩
         simp only[Ye,Y6] at b5
         have hz5:=b5.size
         have HB5:Hid (Below (w.heap.size+1) w1 w5):=Jh (HB9.out.trans (b5.mono (by have:=HB.out.size;have:=HZA.out;have:=HZ1.out;omega)))
         have HD5:=Jh (HD9.out.below b5)
         have HPB5:=Jh ((KpO.of_below (b:=w.heap.size+1) b5).block HPB9.out (by have:=HWO.out;have:=HZ1.out;omega) (by decide))
         refine ⟨_,rfl,fun _=>⟨Z0 b5 z0,Z0 b5 z1⟩,?_⟩
         try simp only[Ja]
         refine Zm (i:=6) (d:=some 66) (v:=.slice (some ⟨w5.heap.size,0,none⟩) 4 4) (w':=w5.alloc (.cells #[.string nm,.string ⟨#[61]⟩,.string ⟨(Yt vl.data.toList).toArray⟩,.string ⟨#[58]⟩] 9)) (by kernel_rfl) rfl rfl (by rfl) (by go_simp;try rfl) (fun _=>⟨Z1 (Z0 b5 z0) _,Z1 (Z0 b5 z1) _⟩) ?_
         try simp only[Ja]
         refine ZA (i:=7) (d:=some 67) (f:=77) (args:=#[.slice (some ⟨w5.heap.size,0,none⟩) 4 4,.pointer (some ⟨w.heap.size+1,0,none⟩)]) (w':=w5.alloc (.cells #[.string nm,.string ⟨#[61]⟩,.string ⟨(Yt vl.data.toList).toArray⟩,.string ⟨#[58]⟩] 9)) (by kernel_rfl) rfl rfl (by rfl) (by go_simp;try rfl) ?_
         refine (VC (w.heap.size+1) (w.heap.size+1) w5.heap.size (A2++(al.take j).flatMap Wl) [nm,⟨#[61]⟩,⟨(Yt vl.data.toList).toArray⟩,⟨#[58]⟩] (0,0) _ (HD5.out.alloc _) (World.alloc_heap_new w5 _) (by rw[HCAT.out,List.length_append];have:=HVS2.out.2;omega) (by rw[World.size_alloc];have:=HB5.out.size;have:=HZ1.out;omega) (by simp)).mono ?_
         rintro e w6 ⟨rfl,g1,g2,g3⟩
         have HD6b:Hid (BdF (w.heap.size+1) (w.heap.size+1) (A2++(al.take (j+1)).flatMap Wl) w6):=Jh (by rw[WD Wl HX2.out,←HCAT.out,←List.append_assoc];exact g1)
         have HB6b:Hid (Below (w.heap.size+1) w1 w6):=Jh ((HB5.out.alloc (by have:=HB5.out.size;have:=HZ1.out;omega) _).trans g2)
         have HPB6:Hid (w6.heap[wo.heap.size]?=some (.cells #[.string tx,.slice (some ⟨b2,o2,none⟩) mn mc] 75)):=Jh ((((KpO.refl (w.heap.size+1) w5).alloc _).trans g3).block HPB5.out (by have:=HWO.out;have:=HZ1.out;omega) (by decide))
         refine ⟨_,rfl,fun _=>(by rename_i hh;exact absurd hh (by decide)),?_⟩
         try simp only[Ja]
         refine Zc (by kernel_rfl) ?_ _
         clear g1 g2 g3 b5 z0 z1 HD9 HB9 HD5 HB5 hS0 hz5 HPB9 HPB5
         go_wp2_with fail
         go_roundg (mn - (j+1))
         case measure=>rw[HG2.out];omega
         case rel=>exact ⟨j+1,rfl,hjl,by go_num,HD6b,HB6b,HPB6⟩
        ·have hjj:¬ ((j:Int)<(mn:Int)):=by omega
         have HD7:Hid (BdF (w.heap.size+1) (w.heap.size+1) (A2++al.flatMap Wl) wr):=Jh (by have:=HD.out;rwa [List.take_of_length_le (by have:=HMN.out.1;omega)] at this)
         have zt:wr.cell? ⟨wo.heap.size,0,none⟩=some (.string tx):=by rw[Lib.cell_of_heap HPB.out];rfl
         have hqt:=UY tx.data.toList
         have htx:tx.data.toList.length=tx.size:=by rw[Array.length_toList];rfl
         have hts:tx.size≤35184372088832:=by have:=HVA.out;omega
         have HTS:=Lib.hid hts
         clear hqt htx hts
         go_wp2_with fail
         refine (UH tx wr HTS.out).mono ?_
         rintro e w12 ⟨rfl,b12⟩
         have hcat:X7 [⟨(Yt tx.data.toList).toArray⟩]=Yt tx.data.toList:=by simp[X7]
         have hz12:=b12.size
         have HB12:Hid (Below (w.heap.size+1) w1 w12):=Jh (HB.out.trans (b12.mono (by have:=HB.out.size;have:=HZ1.out;omega)))
         have HP20:=Jh (VC (w.heap.size+1) (w.heap.size+1) w12.heap.size _ [⟨(Yt tx.data.toList).toArray⟩] (0,0) (w12.alloc (.cells #[.string ⟨(Yt tx.data.toList).toArray⟩] 9)) ((HD7.out.below b12).alloc _) (World.alloc_heap_new w12 _) (by have:=HVA.out;rw[hcat,List.length_append];omega) (by rw[World.size_alloc];have:=HB12.out.size;have:=HZ1.out;omega) (by simp))
         rw[hcat] at HP20
         clear hcat b12
         go_wp2_with fail
         refine HP20.out.mono ?_
         rintro e w13 ⟨rfl,g1,g2,-⟩
         have HD13:Hid (BdF (w.heap.size+1) (w.heap.size+1) (A1++(t.take (k+1)).flatMap pcL) w13):=Jh (by rw[WD pcL HX.out,HPC.out];rw[←HA2.out] at g1;simp only[List.append_assoc,List.cons_append,List.nil_append,List.singleton_append] at g1 ⊢;exact g1)
         have HB13:Hid (Below (w.heap.size+1) w1 w13):=Jh ((HB12.out.alloc (by have:=HB12.out.size;have:=HZ1.out;omega) _).trans g2)
         clear g1 g2 HP20
         go_wp2_with fail
         go_roundg (tn - (k+1))
         case measure=>rw[HG.out];omega
         case rel=>exact ⟨k+1,rfl,hkl,by go_num,HD13,HB13⟩
      ·have hkk2:¬ ((k:Int)<(tn:Int)):=by omega
       have HD8:Hid (BdF (w.heap.size+1) (w.heap.size+1) LL wr):=Jh (by have:=HD.out;rwa [List.take_of_length_le (by have:=HNN.out.2.1;omega),←HLN3.out] at this)
       go_wp2_with fail
       refine (Q0 (w.heap.size+1) (w.heap.size+1) LL wr HD8.out (by have:=HB.out.size;have:=HZ1.out;omega)).mono ?_
       rintro e w20 ⟨rfl,-,b20,-⟩
       have HB20:=Jh ((HB0.out.trans (HB.out.mono (by have:=HZ1.out;omega))).trans (b20.mono (by omega)))
       clear b20
       go_wp2_with fail
       go_ret
       exact ⟨by rw[HLL.out];rfl,HB20.out⟩
end Go.Proofs.YtlgipkemoldckaaGreatDoor
namespace Go.Proofs.YtlgipkemoldckaaGreatDoor
open Go.RowKit Go.Shelf
theorem Z4O (d:Nat):Lib.repeatL [32,32] d=List.replicate (2*d) (32:UInt8):=by
 induction d with
 | zero=>rfl
 | succ d ih=>rw[show 2*(d+1)=2*d+1+1 by omega,List.replicate_succ,List.replicate_succ,Lib.repeatL,ih];rfl
theorem Z12 (d:Nat) (w:World) (hd:d≤35184372088832) :
  Calls Tryz.prog 50 #[.string ⟨#[32,32]⟩,.int .i64 d] w fun e w'=>e=.returned (.string ⟨(List.replicate (2*d) (32:UInt8)).toArray⟩)∧Below w.heap.size w w':=by
 have:=Any.strings_Repeat Tryz.repF Qu ⟨#[32,32]⟩ d w (by omega) (by show 2*d≤_;omega)
 rw[show (⟨#[32,32]⟩:ByteArray).data.toList=[32,32] from rfl,Z4O] at this
 exact this
theorem Qa {d:Nat} {l:List Nd} {k:Nat} {n:Nd} (h:l[k]?=some n):txK d (l.take (k+1))=txK d (l.take k)++txN d n:=by
 have app:∀ (a:List Nd) (n:Nd),txK d (a++[n])=txK d a++txN d n:=fun a n=>by
  induction a with
  | nil=>rw[List.nil_append,txK,txK,txK,List.append_nil,List.nil_append]
  | cons m a ih=>rw[List.cons_append,txK,txK,ih,List.append_assoc]
 rw[List.take_add_one,h,Option.toList_some,app]
theorem Z4C (d:Nat) (l:List Nd) (k:Nat):(txK d (l.take k)).length≤(txK d l).length:=by
 have app:∀ (a b:List Nd),txK d (a++b)=txK d a++txK d b:=fun a b=>by
  induction a with
  | nil=>rw[List.nil_append,txK,List.nil_append]
  | cons m a ih=>rw[List.cons_append,txK,txK,ih,List.append_assoc]
 conv=>rhs;rw[←List.take_append_drop k l]
 rw[app,List.length_append]
 omega
theorem VR {B:Nat} {w w':World} (h:Below B w w'):Ext (fun k=>B≤k) w w':=⟨h.os,h.tape,h.output,h.size,fun k _ hn=>h.block k (by omega)⟩
def Z0z (n:Nd):Prop:=∀ (B b d:Nat) (l:List UInt8) (D:Nat→Prop) (x:NdV) (w:World),BdF B b l w→Zo D w x n→(∀ k,D k→k<B)→RZ B w→B≤w.heap.size→l.length+(txN d n).length≤35184372088832 →
 Calls Tryz.prog 28 #[.pointer (some ⟨b,0,none⟩),x.val,.int .i64 d] w fun e w'=>VG B b l (txN d n) w e w'
theorem Z1p (B b d:Nat) (l:List UInt8) (D:Nat→Prop) (xn xr:Int) (xk:ByteArray) (aa ta sa:Option Addr) (an ac tn tc sn sc:Nat) (az:List Atr) (t:Pcs) (vs:List NdV) (ks:List Nd) (w:World) (hbd:BdF B b l w)
  (ha:Zw D Atr.cells 2 w (.slice aa an ac) az) (hp:YF D w (.slice ta tn tc) t) (hs:Zw D NdV.cells 6 w (.slice sa sn sc) vs) (hn:Zb D w vs ks) (hD:∀ k,D k→k<B) (ht:RZ B w) (hB:B≤w.heap.size)
  (hbig:l.length+(List.replicate (2*d) (32:UInt8)++(Vc ⟨xn,xr⟩ xk az t++10 :: txK (d+1) ks)).length≤35184372088832) (ih:∀ n∈ks,Z0z n) :
  Calls Tryz.prog 28 #[.pointer (some ⟨b,0,none⟩),.agg #[.int .i64 xn,.int .i64 xr,.string xk,.slice aa an ac,.slice ta tn tc,.slice sa sn sc],.int .i64 d] w fun e w'=>VG B b l (List.replicate (2*d) (32:UInt8)++(Vc ⟨xn,xr⟩ xk az t++10 :: txK (d+1) ks)) w e w':=by
 have hsn:sn=vs.length∧vs.length≤9223372036854775807:=by
  obtain ⟨⟨a,c,e,h1,h2,_⟩,_⟩:=hs
  injection e with _ e2 _
  unfold maxLen at h2
  exact ⟨e2,Nat.le_trans h1 h2⟩
 have hsnn:sn≤9223372036854775807:=by omega
 have hB0:Below w.heap.size w (w.alloc (.cells #[.int .i64 xn,.int .i64 xr,.string xk,.slice aa an ac,.slice ta tn tc,.slice sa sn sc] 28)):=(Below.refl _ _).alloc (Nat.le_refl _) _
 have hz1:(w.alloc (.cells #[.int .i64 xn,.int .i64 xr,.string xk,.slice aa an ac,.slice ta tn tc,.slice sa sn sc] 28)).heap.size=w.heap.size+1:=by simp
 have hnb:(w.alloc (.cells #[.int .i64 xn,.int .i64 xr,.string xk,.slice aa an ac,.slice ta tn tc,.slice sa sn sc] 28)).heap[w.heap.size]?=some (.cells #[.int .i64 xn,.int .i64 xr,.string xk,.slice aa an ac,.slice ta tn tc,.slice sa sn sc] 28):=World.alloc_heap_new w _
 have hdd:d≤17592186044416:=by simp only[List.length_append,List.length_replicate] at hbig;omega
 have HZ1:=Jh (And.intro hz1 (And.intro hB hsn))
 have HNB:=Lib.hid hnb
 have HB0:=Jh (hB0.mono hB)
 have HBD:=Jh (hbd.alloc (.cells #[.int .i64 xn,.int .i64 xr,.string xk,.slice aa an ac,.slice ta tn tc,.slice sa sn sc] 28))
 have HT:=Jh (ht.next (hB0.mono hB))
 have HI:=Jh (And.intro ha (And.intro hp (And.intro hs hn)))
 have HDD:=Lib.hid hD
 have HBIG:=Lib.hid hbig
 have HIH:=Lib.hid ih
 have HNE:Hid (w.heap.size≠b):=Jh (by have:=hbd.lt;omega)
 have HT0:Hid (∀ W,Below B w W→Xe W):=Lib.hid ht
 have HKA:Hid (KpO b w (w.alloc (.cells #[.int .i64 xn,.int .i64 xr,.string xk,.slice aa an ac,.slice ta tn tc,.slice sa sn sc] 28))):=Jh (KpO.of_below hB0)
 clear hz1 hB hsn hnb hB0 hbd ht ha hp hs hn hD hbig ih
 generalize hLL:Vc ⟨xn,xr⟩ xk az t=LL at *
 have HLL:=Lib.hid hLL
 clear hLL
 generalize hRR:List.replicate (2*d) (32:UInt8)=RR at *
 have HRR:=Lib.hid hRR
 clear hRR
 go_enter Tryz.func28,Tryz.ntmps28
 go_upto_region 1 with fail
 generalize (w.alloc (.cells #[.int .i64 xn,.int .i64 xr,.string xk,.slice aa an ac,.slice ta tn tc,.slice sa sn sc] 28))=w1 at *
 have hlen:=HBIG.out
 simp only[List.length_append,List.length_cons] at hlen
 go_wp2_with fail
 refine (Z12 d w1 (by omega)).mono ?_
 rintro e w2 ⟨rfl,b2⟩
 rw[HRR.out]
 have HB2:=Jh (HB0.out.trans (b2.mono (by have:=HZ1.out;omega)))
 have HK2:=Jh (KpO.of_below (b:=b) b2)
 have hz2:=HB2.out.size
 have HP2:=Jh (Tw B b l ⟨RR.toArray⟩ w2 (HBD.out.below b2) (by rw[Ui];omega) (by have:=HZ1.out;omega))
 clear b2 hz2
 go_wp2_with fail
 refine HP2.out.mono ?_
 rintro e w3 ⟨rfl,g1,g2,g3⟩
 try rw[Q9] at g1
 have HD3:=Lib.hid g1
 have HB3:=Jh (HB2.out.trans g2)
 have HK3:=Jh (HK2.out.trans g3)
 clear g1 g2 g3 HP2 HB2 HK2 HBD
 have hnb3:=HK3.out.block HNB.out HNE.out (by decide)
 have y0:w3.cell? ⟨w.heap.size,0,none⟩=some (.int .i64 xn):=by rw[Lib.cell_of_heap hnb3];rfl
 have y1:w3.cell? ⟨w.heap.size,1,none⟩=some (.int .i64 xr):=by rw[Lib.cell_of_heap hnb3];rfl
 have y2:w3.cell? ⟨w.heap.size,2,none⟩=some (.string xk):=by rw[Lib.cell_of_heap hnb3];rfl
 have y3:w3.cell? ⟨w.heap.size,3,none⟩=some (.slice aa an ac):=by rw[Lib.cell_of_heap hnb3];rfl
 have y4:w3.cell? ⟨w.heap.size,4,none⟩=some (.slice ta tn tc):=by rw[Lib.cell_of_heap hnb3];rfl
 have y5:w3.cell? ⟨w.heap.size,5,none⟩=some (.slice sa sn sc):=by rw[Lib.cell_of_heap hnb3];rfl
 clear hnb3
 go_upto_region 2 with fail
 have HLINE:Hid (∀ W:World,Below B w W→Calls Tryz.prog 51 #[.agg #[.int .i64 xn,.int .i64 xr,.string xk,.slice aa an ac,.slice ta tn tc,.slice sa sn sc]] W fun e w'=>e=.returned (.string ⟨LL.toArray⟩)∧Below W.heap.size W w'):=Jh (fun W hW=>by
  rw[←HLL.out]
  exact Z3k xn xr xk aa ta sa an ac tn tc sn sc az t D W (HI.out.1.ext (VR hW) (fun q hq _ h=>by have:=HDD.out q hq;omega) (fun _=>Nat.zero_lt_succ 1)) (HI.out.2.1.ext (VR hW) (fun q hq _ h=>by have:=HDD.out q hq;omega)) (HT0.out W hW) (by rw[HLL.out];omega))
 go_wp2_with fail
 refine (HLINE.out w3 HB3.out).mono ?_
 rintro e w4 ⟨rfl,b4⟩
 have HB4:=Jh (HB3.out.trans (b4.mono (by have:=HB3.out.size;have:=HZ1.out;omega)))
 have HK4:=Jh (HK3.out.trans (KpO.of_below b4))
 have HP4:=Jh (Tw B b (l++RR) ⟨LL.toArray⟩ w4 (HD3.out.below b4) (by rw[Ui,List.length_append];omega) (by have:=HB4.out.size;have:=HZ1.out;omega))
 clear b4
 go_wp2_with fail
 refine HP4.out.mono ?_
 rintro e w5 ⟨rfl,g1,g2,g3⟩
 try rw[Q9] at g1
 have HD5:=Lib.hid g1
 have HB5:=Jh (HB4.out.trans g2)
 have HK5:=Jh (HK4.out.trans g3)
 clear g1 g2 g3 HP4 HB4 HK4 HD3 HB3 HK3 HLINE y0 y1 y2 y3 y4 y5
 go_upto_region 3 with fail
 have HP5:=Jh (Tw B b (l++RR++LL) ⟨#[10]⟩ w5 HD5.out (by show _+1≤_;rw[List.length_append,List.length_append];omega) (by have:=HB5.out.size;have:=HZ1.out;omega))
 go_wp2_with fail
 refine HP5.out.mono ?_
 rintro e w6 ⟨rfl,g1,g2,g3⟩
 have HD6:Hid (BdF B b (l++RR++LL++[10]) w6):=Lib.hid g1
 have HB6:=Jh (HB5.out.trans g2)
 have HK6:=Jh (HK5.out.trans g3)
 clear g1 g2 g3 HP5 HB5 HK5 HD5
 have hnb6:=HK6.out.block HNB.out HNE.out (by decide)
 have y5:w6.cell? ⟨w.heap.size,5,none⟩=some (.slice sa sn sc):=by rw[Lib.cell_of_heap hnb6];rfl
 clear hnb6
 have HLL2:Hid (l++(RR++(LL++10 :: txK (d+1) ks))=(l++RR++LL++[10])++txK (d+1) ks):=Jh (by simp)
 have HLEN:Hid ((l++RR++LL++[10]).length+(txK (d+1) ks).length≤35184372088832):=Jh (by simp only[List.length_append,List.length_singleton];omega)
 generalize l++RR++LL++[10]=A0 at *
 clear hlen
 go_wp2_with fail
 go_loopg [21] sn (fun g iv wr=>∃ k:Nat,g=sn - k∧k≤sn∧iv=.int .i64 k∧Hid (BdF B b (A0++txK (d+1) (ks.take k)) wr)∧Hid (Below B w wr)∧Hid (KpO b w1 wr))
 case atStart=>exact ⟨0,by omega,by omega,rfl,Jh (by rw[List.take_zero,txK,List.append_nil];exact HD6.out),HB6,HK6⟩
 case round =>
  obtain ⟨k,hg,hk,rfl,HD,HB,HK⟩:=hrel
  have HG:=Lib.hid hg
  clear hg
  by_cases hkl:k<sn
  ·obtain ⟨⟨⟨zn,zr⟩,zk,⟨a1,a2,a3⟩,⟨b1,b2,b3⟩,⟨c1,c2,c3⟩⟩,hx⟩:∃ x,vs[k]?=some x:=⟨_,List.getElem?_eq_getElem (by have:=HZ1.out;omega)⟩
   obtain ⟨m,hm⟩:∃ x,ks[k]?=some x:=⟨_,List.getElem?_eq_getElem (by have:=HZ1.out;have:=HI.out.2.2.2.1;omega)⟩
   obtain ⟨q,o,c,e5,u0,u1,u2,u3,u4,u5⟩:=(HI.out.2.2.1.ext (VR HB.out) (fun q hq _ h=>by have:=HDD.out q hq;omega) (fun _=>Nat.zero_lt_succ 5)).node6 hx
   injection e5 with e5 e6 e7
   clear e6 e7
   subst e5
   simp only at u0 u1 u2 u3 u4 u5
   have hnd:=(HI.out.2.2.2.2 k _ m hx hm).ext (VR HB.out) (fun q hq _ h=>by have:=HDD.out q hq;omega)
   have hkk:(k:Int)<(sn:Int):=by omega
   have hle:=Z4C (d+1) ks (k+1)
   rw[Qa hm,List.length_append] at hle
   have HW9B:Hid (Below B w (wr.alloc (.cells #[.int .i64 zn,.int .i64 zr,.string zk,.slice a1 a2 a3,.slice b1 b2 b3,.slice c1 c2 c3] 28))):=Jh (HB.out.alloc (by have:=HB.out.size;have:=HZ1.out;omega) _)
   have HC:Hid (Calls Tryz.prog 28 #[.pointer (some ⟨b,0,none⟩),.agg #[.int .i64 zn,.int .i64 zr,.string zk,.slice a1 a2 a3,.slice b1 b2 b3,.slice c1 c2 c3],.int .i64 ((d+1:Nat):Int)] (wr.alloc (.cells #[.int .i64 zn,.int .i64 zr,.string zk,.slice a1 a2 a3,.slice b1 b2 b3,.slice c1 c2 c3] 28)) fun e w'=>VG B b (A0++txK (d+1) (ks.take k)) (txN (d+1) m) (wr.alloc (.cells #[.int .i64 zn,.int .i64 zr,.string zk,.slice a1 a2 a3,.slice b1 b2 b3,.slice c1 c2 c3] 28)) e w'):=Jh (HIH.out m (List.mem_of_getElem? hm) B b (d+1) _ D ⟨⟨zn,zr⟩,zk,⟨a1,a2,a3⟩,⟨b1,b2,b3⟩,⟨c1,c2,c3⟩⟩ _ (HD.out.alloc _) (hnd.belowW ((Below.refl _ _).alloc (Nat.le_refl _) _)) HDD.out (fun W hW=>HT0.out W (HW9B.out.trans hW)) (by rw[World.size_alloc];have:=HB.out.size;have:=HZ1.out;omega) (by have:=HLEN.out;rw[List.length_append];omega))
   have HM:=Lib.hid hm
   have HK9:=Jh (HK.out.alloc (.cells #[.int .i64 zn,.int .i64 zr,.string zk,.slice a1 a2 a3,.slice b1 b2 b3,.slice c1 c2 c3] 28))
   clear hnd hle hm hx
   have z0:(wr.alloc (.cells #[.int .i64 zn,.int .i64 zr,.string zk,.slice a1 a2 a3,.slice b1 b2 b3,.slice c1 c2 c3] 28)).cell? ⟨wr.heap.size,0,none⟩=some (.int .i64 zn):=by go_simp
   have z1:(wr.alloc (.cells #[.int .i64 zn,.int .i64 zr,.string zk,.slice a1 a2 a3,.slice b1 b2 b3,.slice c1 c2 c3] 28)).cell? ⟨wr.heap.size,1,none⟩=some (.int .i64 zr):=by go_simp
   have z2:(wr.alloc (.cells #[.int .i64 zn,.int .i64 zr,.string zk,.slice a1 a2 a3,.slice b1 b2 b3,.slice c1 c2 c3] 28)).cell? ⟨wr.heap.size,2,none⟩=some (.string zk):=by go_simp
   have z3:(wr.alloc (.cells #[.int .i64 zn,.int .i64 zr,.string zk,.slice a1 a2 a3,.slice b1 b2 b3,.slice c1 c2 c3] 28)).cell? ⟨wr.heap.size,3,none⟩=some (.slice a1 a2 a3):=by go_simp
   have z4:(wr.alloc (.cells #[.int .i64 zn,.int .i64 zr,.string zk,.slice a1 a2 a3,.slice b1 b2 b3,.slice c1 c2 c3] 28)).cell? ⟨wr.heap.size,4,none⟩=some (.slice b1 b2 b3):=by go_simp
   have z5:(wr.alloc (.cells #[.int .i64 zn,.int .i64 zr,.string zk,.slice a1 a2 a3,.slice b1 b2 b3,.slice c1 c2 c3] 28)).cell? ⟨wr.heap.size,5,none⟩=some (.slice c1 c2 c3):=by go_simp
   go_upto_region 7 with fail
   generalize wr.alloc (.cells #[.int .i64 zn,.int .i64 zr,.string zk,.slice a1 a2 a3,.slice b1 b2 b3,.slice c1 c2 c3] 28)=w9 at *
   rw[show ((d+1:Nat):Int)=(d:Int)+1 from by omega] at HC
   go_wp2_with fail
   refine HC.out.mono ?_
   rintro e w10 ⟨rfl,g1,g2,g3⟩
   have HD10:Hid (BdF B b (A0++txK (d+1) (ks.take (k+1))) w10):=Jh (by rw[Qa HM.out,←List.append_assoc];exact g1)
   have HB10:=Jh (HW9B.out.trans g2)
   have HK10:=Jh (HK9.out.trans g3)
   clear g1 g2 g3 HC
   go_wp2_with fail
   go_roundg (sn - (k+1))
   case measure=>rw[HG.out];omega
   case rel=>exact ⟨k+1,rfl,hkl,by go_num,HD10,HB10,HK10⟩
  ·have hkk:¬ ((k:Int)<(sn:Int)):=by omega
   have HD8:Hid (BdF B b (l++(RR++(LL++10 :: txK (d+1) ks))) wr):=Jh (by have:=HD.out;rw[List.take_of_length_le (by have:=HZ1.out;have:=HI.out.2.2.2.1;omega)] at this;rw[HLL2.out];exact this)
   have HF:Hid (VG B b l (RR++(LL++10 :: txK (d+1) ks)) w (.returned (.tuple #[])) wr):=Jh (⟨rfl,HD8.out,HB.out,HKA.out.trans HK.out⟩)
   go_wp2_with fail
   go_end0
   exact HF.out
theorem Z2E (n:Nd):Z0z n:=by
 induction n using Nd.ind with
 | _ i k az t ks ih =>
  intro B b d l D x w hbd hn hD ht hB hbig
  obtain ⟨e1,e2,ha,hp,vs,hs,hk⟩:=hn.parts
  obtain ⟨⟨xn,xr⟩,xk,⟨aa,an,ac⟩,⟨ta,tn,tc⟩,⟨sa,sn,sc⟩⟩:=x
  simp only[Nd.id,Nd.kind,Nd.attrs,Nd.text,Nd.kids] at e1 e2 ha hp hk
  subst e1 e2
  rw[txN] at hbig ⊢
  exact Z1p B b d l D xn xr xk aa ta sa an ac tn tc sn sc az t vs ks w hbd ha hp hs hk hD ht hB hbig ih
theorem Z1j (n:Nd) (D:Nat→Prop) (x:NdV) (w:World) (hn:Zo D w x n) (hD:∀ k,D k→k<w.heap.size) (ht:Xe w) (hbig:(txN 0 n).length≤35184372088832) :
  Calls Tryz.prog 12 #[x.val] w fun e w'=>e=.returned (.string ⟨(txN 0 n).toArray⟩)∧Below w.heap.size w w':=by
 obtain ⟨⟨xn,xr⟩,xk,⟨aa,an,ac⟩,⟨ta,tn,tc⟩,⟨sa,sn,sc⟩⟩:=x
 unfold NdV.val
 have hB0:Below w.heap.size w ((w.alloc (.cells #[.int .i64 xn,.int .i64 xr,.string xk,.slice aa an ac,.slice ta tn tc,.slice sa sn sc] 28)).alloc (.cells #[.pointer none,.slice none 0 0] 66)):=((Below.refl _ _).alloc (Nat.le_refl _) _).alloc (by simp) _
 have hz1:((w.alloc (.cells #[.int .i64 xn,.int .i64 xr,.string xk,.slice aa an ac,.slice ta tn tc,.slice sa sn sc] 28)).alloc (.cells #[.pointer none,.slice none 0 0] 66)).heap.size=w.heap.size+2:=by simp
 have hbd:BdF w.heap.size (w.heap.size+1) [] ((w.alloc (.cells #[.int .i64 xn,.int .i64 xr,.string xk,.slice aa an ac,.slice ta tn tc,.slice sa sn sc] 28)).alloc (.cells #[.pointer none,.slice none 0 0] 66)):=BdF.fresh (by omega) (by have:=World.alloc_heap_new (w.alloc (.cells #[.int .i64 xn,.int .i64 xr,.string xk,.slice aa an ac,.slice ta tn tc,.slice sa sn sc] 28)) (.cells #[.pointer none,.slice none 0 0] 66);rwa [World.size_alloc] at this)
 have x0:((w.alloc (.cells #[.int .i64 xn,.int .i64 xr,.string xk,.slice aa an ac,.slice ta tn tc,.slice sa sn sc] 28)).alloc (.cells #[.pointer none,.slice none 0 0] 66)).cell? ⟨w.heap.size,0,none⟩=some (.int .i64 xn):=by go_simp
 have x1:((w.alloc (.cells #[.int .i64 xn,.int .i64 xr,.string xk,.slice aa an ac,.slice ta tn tc,.slice sa sn sc] 28)).alloc (.cells #[.pointer none,.slice none 0 0] 66)).cell? ⟨w.heap.size,1,none⟩=some (.int .i64 xr):=by go_simp
 have x2:((w.alloc (.cells #[.int .i64 xn,.int .i64 xr,.string xk,.slice aa an ac,.slice ta tn tc,.slice sa sn sc] 28)).alloc (.cells #[.pointer none,.slice none 0 0] 66)).cell? ⟨w.heap.size,2,none⟩=some (.string xk):=by go_simp
 have x3:((w.alloc (.cells #[.int .i64 xn,.int .i64 xr,.string xk,.slice aa an ac,.slice ta tn tc,.slice sa sn sc] 28)).alloc (.cells #[.pointer none,.slice none 0 0] 66)).cell? ⟨w.heap.size,3,none⟩=some (.slice aa an ac):=by go_simp
 have x4:((w.alloc (.cells #[.int .i64 xn,.int .i64 xr,.string xk,.slice aa an ac,.slice ta tn tc,.slice sa sn sc] 28)).alloc (.cells #[.pointer none,.slice none 0 0] 66)).cell? ⟨w.heap.size,4,none⟩=some (.slice ta tn tc):=by go_simp
 have x5:((w.alloc (.cells #[.int .i64 xn,.int .i64 xr,.string xk,.slice aa an ac,.slice ta tn tc,.slice sa sn sc] 28)).alloc (.cells #[.pointer none,.slice none 0 0] 66)).cell? ⟨w.heap.size,5,none⟩=some (.slice sa sn sc):=by go_simp
 have HC:Hid (Calls Tryz.prog 28 #[.pointer (some ⟨w.heap.size+1,0,none⟩),.agg #[.int .i64 xn,.int .i64 xr,.string xk,.slice aa an ac,.slice ta tn tc,.slice sa sn sc],.int .i64 ((0:Nat):Int)] ((w.alloc (.cells #[.int .i64 xn,.int .i64 xr,.string xk,.slice aa an ac,.slice ta tn tc,.slice sa sn sc] 28)).alloc (.cells #[.pointer none,.slice none 0 0] 66)) fun e w'=>VG w.heap.size (w.heap.size+1) [] (txN 0 n) ((w.alloc (.cells #[.int .i64 xn,.int .i64 xr,.string xk,.slice aa an ac,.slice ta tn tc,.slice sa sn sc] 28)).alloc (.cells #[.pointer none,.slice none 0 0] 66)) e w'):=Jh (Z2E n w.heap.size (w.heap.size+1) 0 [] D ⟨⟨xn,xr⟩,xk,⟨aa,an,ac⟩,⟨ta,tn,tc⟩,⟨sa,sn,sc⟩⟩ _ hbd (hn.belowW hB0) hD (fun W hW=>ht.below (hB0.trans hW)) (by omega) (by simpa using hbig))
 have HB0:=Lib.hid hB0
 have HZ1:=Lib.hid hz1
 clear hB0 hz1 hbd hn hD ht hbig
 go_enter Tryz.func12,Tryz.ntmps12
 go_upto_region 2 with fail
 generalize ((w.alloc (.cells #[.int .i64 xn,.int .i64 xr,.string xk,.slice aa an ac,.slice ta tn tc,.slice sa sn sc] 28)).alloc (.cells #[.pointer none,.slice none 0 0] 66))=w1 at *
 rw[show ((0:Nat):Int)=0 from rfl] at HC
 go_wp2_with fail
 refine HC.out.mono ?_
 rintro e w2 ⟨rfl,g1,g2,-⟩
 rw[List.nil_append] at g1
 have HG:=Jh (And.intro g1 g2)
 clear g1 g2 HC
 generalize hT:txN 0 n=T at *
 have HT:=Lib.hid hT
 clear hT
 go_wp2_with fail
 refine (Q0 w.heap.size (w.heap.size+1) T w2 HG.out.1 (by have:=HG.out.2.size;have:=HZ1.out;omega)).mono ?_
 rintro e w3 ⟨rfl,-,b3,-⟩
 have HF:=Jh ((HB0.out.trans HG.out.2).trans b3)
 clear b3
 go_wp2_with fail
 go_ret
 exact ⟨by rw[HT.out];rfl,HF.out⟩
end Go.Proofs.YtlgipkemoldckaaGreatDoor
namespace Go.Proofs.YtlgipkemoldckaaGreatDoor
open Go.RowKit
def YH:List El:=[⟨⟨1,0⟩,0,false⟩,⟨⟨2,0⟩,97,false⟩]
theorem Z01:ZW YH=[⟨⟨0,0⟩,0,0⟩,⟨⟨1,0⟩,1,2⟩]:=by rfl
theorem Z00:Xr YH []=[]:=by
 rw[Xr,Z01]
 simp only[List.head?_cons,Option.elim]
 rw[ZV,if_neg (by simp[YH])]
 rfl
theorem QR:Xz YH:=by
 unfold Xz YH
 refine List.pairwise_cons.2 ⟨fun y hy=>?_,List.pairwise_singleton _ _⟩
 rw[List.mem_singleton.1 hy]
 decide
abbrev noH:Zf:=fun _=>none
theorem Z4w:Zh noH []:=⟨fun c=>by simp[noH],List.Pairwise.nil⟩
theorem Z2K:ZO noH:=fun k c h=>by simp[noH] at h
theorem Z3c:Xf noH:=fun u=>⟨0,rfl⟩
theorem Uy (s:St):Y4 YH s=true↔s=⟨1,0⟩:=by
 rw[Xn]
 constructor
 ·rintro ⟨x,hx,hb,rfl⟩
  simp only[YH,List.mem_cons,List.not_mem_nil,or_false] at hx
  rcases hx with rfl|rfl
  ·rfl
  ·simp[ZI] at hb
 ·rintro rfl
  exact ⟨⟨⟨1,0⟩,0,false⟩,by simp[YH],by decide,rfl⟩
theorem S9 (s:St):ZP YH noH [] s=if s=⟨1,0⟩ then some (ZH ⟨1,0⟩) else none:=by
 by_cases h:s=⟨1,0⟩
 ·subst h
  rw[if_pos rfl,Xl rfl ⟨by decide,.inl ((Uy _).2 rfl)⟩]
 ·rw[if_neg h]
  refine XL rfl (fun hc=>?_)
  rcases hc.2 with h1|⟨d,hd,_⟩
  ·exact h ((Uy _).1 h1)
  ·simp at hd
theorem Z2R:Zh (ZP YH noH []) [ZH ⟨1,0⟩]:=by
 refine ⟨fun c=>?_,List.pairwise_singleton _ _⟩
 rw[S9,List.mem_singleton]
 constructor
 ·rintro rfl;rfl
 ·intro h
  split at h
  ·exact (Option.some.inj h).symm
  ·cases h
theorem Z1t:ZQ (ZP YH noH []) ⟨0,0⟩=[ZH ⟨1,0⟩]:=by
 refine Uw ⟨fun c=>?_,List.pairwise_singleton _ _⟩
 rw[S9,List.mem_singleton]
 constructor
 ·rintro rfl;exact ⟨rfl,rfl⟩
 ·rintro ⟨h,_⟩
  split at h
  ·exact (Option.some.inj h).symm
  ·cases h
theorem Z2g (rg:St→List Atr) (n:Nat):((ZD YH [] rg noH []).tree (Xr YH []) (n+1)).kids=[(ZD YH [] rg noH []).nd ⟨1,0⟩ ((ZD YH [] rg noH []).row n ⟨1,0⟩)]:=by
 rw[Vw.tree,Z00,if_pos rfl,List.nil_append,Nd.kids,Vw.row_succ]
 rw[show (ZD YH [] rg noH []).H=ZP YH noH [] from rfl,Z1t,List.flatMap_cons,List.flatMap_nil,List.append_nil,Vw.one]
 rw[if_pos (show (ZD YH [] rg noH []).live (ZH ⟨1,0⟩).block=true from (Uy _).2 rfl)]
 rfl
def Z1U:ByteArray:=⟨#[100,111,99]⟩
theorem Z3Z:txN 0 (.mk ⟨0,0⟩ Z1U [] [] [])=[100,111,99,10]:=by
 simp[txN,Vc,idL,txK,ByteArray.toList_eq,Z1U]
theorem T2 (w:World) (ht:Xe w):Calls Tryz.prog 11 #[] w fun e w'=>e=.returned (.bool true)∧Below w.heap.size w w':=by
 have hB0:Below w.heap.size w (w.alloc (.cells #[.int .i64 1,.int .i64 0,.int .i64 0,.bool false,.int .i64 2,.int .i64 0,.int .i64 97,.bool false] 46)):=(Below.refl _ _).alloc (Nat.le_refl _) _
 have hsl:Z4 El.cells 4 (w.alloc (.cells #[.int .i64 1,.int .i64 0,.int .i64 0,.bool false,.int .i64 2,.int .i64 0,.int .i64 97,.bool false] 46)) (.slice (some ⟨w.heap.size,0,none⟩) YH.length 2) YH:=by
  refine ⟨some ⟨w.heap.size,0,none⟩,2,rfl,by decide,by decide,fun _=>⟨w.heap.size,0,rfl,fun i x hi j u hj=>?_⟩⟩
  have hh:=World.alloc_heap_new w (.cells #[.int .i64 1,.int .i64 0,.int .i64 0,.bool false,.int .i64 2,.int .i64 0,.int .i64 97,.bool false] 46)
  rw[Lib.cell_of_heap hh]
  match i,hi with
  | 0,hi =>
   cases hi
   match j,hj with
   | 0,hj=>exact hj
   | 1,hj=>exact hj
   | 2,hj=>exact hj
   | 3,hj=>exact hj
   | j+4,hj=>simp[El.cells] at hj
  | 1,hi =>
   cases hi
   match j,hj with
   | 0,hj=>exact hj
   | 1,hj=>exact hj
   | 2,hj=>exact hj
   | 3,hj=>exact hj
   | j+4,hj=>simp[El.cells] at hj
  | i+2,hi=>simp[YH] at hi
 have HC:=Jh (Rm (some ⟨w.heap.size,0,none⟩) none none none 2 0 0 YH [] [] (fun _=>[]) noH _ hsl (by decide) QR ⟨none,0,rfl,Nat.le_refl _,Nat.zero_le _,fun h=>absurd rfl h⟩ (by decide) Z4w Z2K Z3c rfl
  ⟨none,0,rfl,Nat.le_refl _,Nat.zero_le _,fun h=>absurd rfl h⟩ (by decide) (fun W' _ u=>(Z39 u.n u.r W').mono fun e w' ⟨he,hb⟩=>⟨_,he,Own.nil,by simp,hb⟩))
 have HB0:=Lib.hid hB0
 have HT:=Lib.hid ht
 clear hB0 hsl ht
 go_enter Tryz.func11,Tryz.ntmps11
 go_wp2_with fail
 generalize w.alloc (.cells #[.int .i64 1,.int .i64 0,.int .i64 0,.bool false,.int .i64 2,.int .i64 0,.int .i64 97,.bool false] 46)=w1 at *
 refine HC.out.mono ?_
 rintro e w2 ⟨x,n,rfl,hn,hnd,b2⟩
 have hn2:=hn _ Z2R
 obtain ⟨n,rfl⟩:∃ m,n=m+1:=⟨n - 1,by simp at hn2;omega⟩
 obtain ⟨-,-,-,-,vs,hsv,hvk⟩:=hnd.parts
 rw[Z2g] at hvk
 obtain ⟨y,rfl⟩:∃ y,vs=[y]:=by
  have:=hvk.1
  match vs,this with
  | [y],_=>exact ⟨y,rfl⟩
 have hy:=(hvk.2 0 y _ rfl rfl).parts.1
 obtain ⟨⟨xn,xr⟩,xk,⟨aa,an,ac⟩,⟨ta,tn,tc⟩,⟨sa,sn,sc⟩⟩:=x
 obtain ⟨q,o,c,e5,u0,u1,-,-,-,-⟩:=hsv.node6 (k:=0) rfl
 injection e5 with e5 e6 e7
 have e6:sn=1:=e6
 subst e5 e6 e7
 rw[hy] at u0 u1
 have v0:w2.cell? ⟨q,o,none⟩=some (.int .i64 1):=u0
 have v1:w2.cell? ⟨q,o+1,none⟩=some (.int .i64 0):=u1
 have hB2:=HB0.out.trans (b2.mono HB0.out.size)
 have hB3:=hB2.alloc (by have:=hB2.size;omega) (.cells #[.int .i64 xn,.int .i64 xr,.string xk,.slice aa an ac,.slice ta tn tc,.slice (some ⟨q,o,none⟩) 1 sc] 28)
 replace v0:=Z1 v0 (.cells #[.int .i64 xn,.int .i64 xr,.string xk,.slice aa an ac,.slice ta tn tc,.slice (some ⟨q,o,none⟩) 1 sc] 28)
 replace v1:=Z1 v1 (.cells #[.int .i64 xn,.int .i64 xr,.string xk,.slice aa an ac,.slice ta tn tc,.slice (some ⟨q,o,none⟩) 1 sc] 28)
 have x5:(w2.alloc (.cells #[.int .i64 xn,.int .i64 xr,.string xk,.slice aa an ac,.slice ta tn tc,.slice (some ⟨q,o,none⟩) 1 sc] 28)).cell? ⟨w2.heap.size,5,none⟩=some (.slice (some ⟨q,o,none⟩) 1 sc):=by go_simp
 have HB3:=Lib.hid hB3
 have hrd:∀ W,Below w.heap.size w W→Calls Tryz.prog 12 #[.agg #[.int .i64 0,.int .i64 0,.string ⟨#[100,111,99]⟩,.slice none 0 0,.slice none 0 0,.slice none 0 0]] W fun e w'=>e=.returned (.string ⟨#[100,111,99,10]⟩)∧Below W.heap.size W w':=fun W hW=>by
  have hnod:Zo (fun _=>False) W ⟨⟨0,0⟩,Z1U,Z2,Z2,Z2⟩ (.mk ⟨0,0⟩ Z1U [] [] []):=Zo.make rfl rfl Yy VL Yy Zb.nil
  have:=Z1j _ _ _ W hnod (fun _ h=>h.elim) (HT.out.below hW) (by rw[Z3Z];simp)
  rw[Z3Z] at this
  exact this
 have HR:=Lib.hid hrd
 clear hrd u0 u1 hB2 hB3 hy hvk hsv hnd hn hn2 b2
 go_upto_region 2 with fail
 generalize w2.alloc (.cells #[.int .i64 xn,.int .i64 xr,.string xk,.slice aa an ac,.slice ta tn tc,.slice (some ⟨q,o,none⟩) 1 sc] 28)=w3 at *
 go_wp2_with fail
 refine (HR.out w3 HB3.out).mono ?_
 rintro e w4 ⟨rfl,b4⟩
 have HB4:=Jh (HB3.out.trans (b4.mono HB3.out.size))
 clear b4
 go_wp2_with fail
 go_ret
 exact ⟨rfl,HB4.out⟩
theorem RW (a b c:ByteArray):a++b++c=a++(b++c):=by
 apply ByteArray.ext
 simp only[ByteArray.data_append,Array.append_assoc]
def V3 (P:Pcs):ByteArray:=P.foldl (fun s q=>s++q.1) ⟨#[]⟩
theorem Ub (P:Pcs) (q:ByteArray × List Atr):V3 (P++[q])=V3 P++q.1:=by simp[V3]
def WP (l:List El) (f:Nat):Nat→ByteArray
 | 0=>⟨#[]⟩
 | n+1=>match l[f+n]? with
  | some x=>if x.ch=0∨x.gone=true then WP l f n else WP l f n++chB x.ch
  | none=>WP l f n
theorem Z2G {x:El} {al:List Atr} {P:Pcs}:V3 (YK x al P)=if x.ch=0∨x.gone=true then V3 P else V3 P++chB x.ch:=by
 by_cases h:x.ch=0∨x.gone=true
 ·rw[U7 h,if_pos h]
 ·rw[if_neg h]
  rcases WX P with rfl|⟨Q,⟨t,bl⟩,rfl⟩
  ·rw[VM h]
   rfl
  ·by_cases e:bl=al
   ·subst e
    rw[U8 h,Ub,Ub,RW]
   ·rw[UG h e,Ub]
theorem S8 (l:List El) (ms:List OpD) (f:Nat):∀ n,V3 (X5 l ms f n)=WP l f n
 | 0=>rfl
 | n+1=>by
  have ih:=S8 l ms f n
  cases hx:l[f+n]? with
  | none=>simp only[X5,WP,hx];exact ih
  | some x=>simp only[X5,WP,hx,Z2G,ih]
mutual
def Nd.ids:Nd→List St
 | .mk i _ _ _ l=>(if i=⟨0,0⟩ then [] else [i])++ZS l
def ZS:List Nd→List St
 | []=>[]
 | n :: l=>n.ids++ZS l
end
def Yi (t:Pcs):Nat:=(t.map fun p=>p.1.size).sum
mutual
def Nd.lets:Nd→Nat
 | .mk _ _ _ t l=>Yi t+Y8 l
def Y8:List Nd→Nat
 | []=>0
 | n :: l=>n.lets+Y8 l
end
theorem Va (a b:List Nd):ZS (a++b)=ZS a++ZS b:=by
 induction a with
 | nil=>rfl
 | cons n a ih=>rw[List.cons_append,ZS,ZS,ih,List.append_assoc]
theorem V1 (a b:List Nd):Y8 (a++b)=Y8 a+Y8 b:=by
 induction a with
 | nil=>rw[List.nil_append,Y8];omega
 | cons n a ih=>rw[List.cons_append,Y8,Y8,ih];omega
theorem Vw.idsL_row (V:Vw) (hl:∀ s,V.live s=true→s≠⟨0,0⟩):∀ n b,ZS (V.row n b)=V.ids n b
 | 0,b=>by rw[Vw.row,Vw.ids,ZS]
 | n+1,b=>by
  rw[Vw.row,Vw.ids]
  generalize ZQ V.H b=K
  induction K with
  | nil=>rfl
  | cons c K ih =>
   rw[List.flatMap_cons,List.flatMap_cons,Va,ih]
   congr 1
   by_cases h:V.live c.block=true
   ·rw[if_pos h,if_pos h,ZS,ZS,Vw.nd,Nd.ids,if_neg (hl _ h),Vw.idsL_row V hl n,List.append_nil]
   ·rw[if_neg h,if_neg h,Vw.idsL_row V hl n,List.nil_append]
theorem Vw.letsL_row (V:Vw):∀ n b,Y8 (V.row n b)=((V.ids n b).map fun s=>Yi (V.txt s)).sum
 | 0,b=>by rw[Vw.row,Vw.ids,Y8];rfl
 | n+1,b=>by
  rw[Vw.row,Vw.ids]
  generalize ZQ V.H b=K
  induction K with
  | nil=>rfl
  | cons c K ih =>
   rw[List.flatMap_cons,List.flatMap_cons,V1,List.map_append,List.sum_append,ih]
   congr 1
   by_cases h:V.live c.block=true
   ·rw[if_pos h,if_pos h,Y8,Y8,Vw.nd,Nd.lets,Vw.letsL_row V n,List.map_append,List.sum_append]
    simp
   ·rw[if_neg h,if_neg h,Vw.letsL_row V n,List.nil_append]
theorem Vw.ids_tree (V:Vw) (hl:∀ s,V.live s=true→s≠⟨0,0⟩) (first:Pcs) (n:Nat):(V.tree first n).ids=V.ids n ⟨0,0⟩:=by
 rw[Vw.tree,Nd.ids,if_pos rfl,List.nil_append,Va,Vw.idsL_row V hl]
 by_cases h:first=[]
 ·rw[if_pos h];rfl
 ·rw[if_neg h,ZS,ZS,Nd.ids,if_pos rfl];rfl
theorem Vw.lets_tree (V:Vw) (first:Pcs) (n:Nat):(V.tree first n).lets=Yi first+((V.ids n ⟨0,0⟩).map fun s=>Yi (V.txt s)).sum:=by
 rw[Vw.tree,Nd.lets,V1,Vw.letsL_row V]
 by_cases h:first=[]
 ·rw[if_pos h,h];simp[Yi,Y8]
 ·rw[if_neg h,Y8,Y8,Nd.lets,Y8];simp[Yi]
def WV (x:El):Bool:=!decide (x.ch=0) && !x.gone
def vis (l:List El) (n:Nat):Nat:=(l.take n).countP WV
theorem TZ {l:List El} {n:Nat} {x:El} (h:l[n]?=some x):vis l (n+1)=vis l n+(if WV x=true then 1 else 0):=by
 unfold vis
 rw[List.take_add_one,h,Option.toList_some,List.countP_append]
 congr 1
 by_cases hv:WV x=true
 ·rw[if_pos hv];simp[List.countP_cons,hv]
 ·rw[if_neg hv];simp[List.countP_cons,hv]
theorem Sv (l:List El) (f:Nat):∀ n,f+n≤l.length→(WP l f n).size+vis l f=vis l (f+n)
 | 0,_=>by simp[WP];rfl
 | n+1,h=>by
  have ih:=Sv l f n (by omega)
  obtain ⟨x,hx⟩:∃ x,l[f+n]?=some x:=⟨_,List.getElem?_eq_getElem (by omega)⟩
  rw[WP,hx,←Nat.add_assoc,TZ hx,←ih]
  have hc:∀ c,(chB c).size=1:=fun _=>rfl
  by_cases hs:x.ch=0∨x.gone=true
  ·have:WV x=false:=by
    unfold WV
    rcases hs with e|e <;> simp[e]
   simp only[hs,if_true,this]
   simp
  ·have:WV x=true:=by
    unfold WV
    have h1:¬ x.ch=0:=fun e=>hs (.inl e)
    have h2:x.gone=false:=by cases e:x.gone with|true=>exact absurd (.inr e) hs|false=>rfl
    simp[h1,h2]
   simp only[hs,if_false,this,if_true,ByteArray.size_append,hc]
   omega
theorem Z37 (P:Pcs):Yi P=(V3 P).size:=by
 have:∀ (P:Pcs) (s:ByteArray),(P.foldl (fun s q=>s++q.1) s).size=s.size+Yi P:=by
  intro P
  induction P with
  | nil=>intro s;simp[Yi]
  | cons q P ih =>
   intro s
   rw[List.foldl_cons,ih,ByteArray.size_append]
   simp only[Yi,List.map_cons,List.sum_cons]
   omega
 have h:=this P ⟨#[]⟩
 have e:(⟨#[]⟩:ByteArray).size=0:=rfl
 rw[e] at h
 unfold V3
 omega
theorem TN (l:List El) (ms:List OpD) (lo hi:Nat) (h1:lo≤hi) (h2:hi≤l.length):Yi (ZV l ms lo hi)+vis l lo=vis l hi:=by
 rw[Z37,ZV,if_neg (by omega),S8]
 have:=Sv l lo (hi - lo) (by omega)
 rw[show lo+(hi - lo)=hi by omega] at this
 simpa using this
theorem Z0F (l:List El) (ms:List OpD):∀ n,n≤l.length→((cur l n).1.map fun s=>Yi (ZV l ms s.lo s.hi)).sum=vis l (cur l n).2.2
 | 0,_=>by simp[cur,vis]
 | n+1,hn=>by
  have ih:=Z0F l ms n (by omega)
  obtain ⟨x,hx⟩:∃ x,l[n]?=some x:=⟨_,List.getElem?_eq_getElem (by omega)⟩
  cases hb:ZI x with
  | false=>rw[Ue hx hb];exact ih
  | true =>
   rw[Uf hx hb]
   simp only[List.map_append,List.sum_append,ih,List.map_cons,List.map_nil,List.sum_cons,List.sum_nil]
   have hv:WV x=false:=by
    unfold ZI at hb
    rw[Bool.and_eq_true,decide_eq_true_eq] at hb
    unfold WV
    simp[hb.1]
   rw[TZ hx,hv]
   have:=TN l ms (cur l n).2.2 n (Tn l n).1 (by omega)
   simp
   omega
theorem Z35 (l:List El) (ms:List OpD):((ZW l).map fun s=>Yi (ZV l ms s.lo s.hi)).sum=vis l l.length:=by
 rw[ZW,List.map_append,List.sum_append,Z0F l ms _ (Nat.le_refl _)]
 have:=TN l ms (cur l l.length).2.2 l.length (Tn l l.length).1 (Nat.le_refl _)
 simp only[List.map_cons,List.map_nil,List.sum_cons,List.sum_nil]
 omega
theorem Z3w (l:List El) (ms:List OpD) (rg:St→List Atr) (h:Zf) (A:List Ch) (hu:Xz l) {I:List St} (hp:I.Perm ((l.filter ZI).map El.id)):Yi (Xr l ms)+(I.map fun s=>Yi ((ZD l ms rg h A).txt s)).sum=vis l l.length:=by
 have e1:(I.map fun s=>Yi ((ZD l ms rg h A).txt s)).sum=(((ZG l).map (·.1)).map fun s=>Yi ((ZD l ms rg h A).txt s)).sum:=by
  rw[UL]
  exact (hp.map _).sum_nat
 have hn:=U6 hu
 have e2:((ZG l).map (·.1)).map (fun s=>Yi ((ZD l ms rg h A).txt s))=(ZW l).tail.map fun s=>Yi (ZV l ms s.lo s.hi):=by
  rw[List.map_map]
  conv=>lhs;unfold ZG
  rw[List.map_map]
  refine List.map_congr_left (fun s hs=>?_)
  have hm:(s.blk,s)∈ZG l:=List.mem_map.2 ⟨s,hs,rfl⟩
  simp only[Function.comp,ZD,YB,Ve hn hm,Option.elim]
 rw[e1,e2]
 have h3:=Z35 l ms
 obtain ⟨n,r,e⟩:=Xj l
 rw[e,List.map_cons,List.sum_cons] at h3
 rw[Xr,e]
 simp only[List.head?_cons,Option.elim,List.tail_cons]
 exact h3
theorem Z4l {l:List El} {ms:List OpD} {rg:St→List Atr} {h:Zf} {A D:List Ch} (hA:Zh h A) (hk:ZO h) (ha:Xf h) (h0:h ⟨0,0⟩=none) (hD:Zh (ZP l h A) D) {n:Nat} (hn:D.length+1≤n) {s:St} (hs:Y4 l s=true) (hs0:s≠⟨0,0⟩):s∈(ZD l ms rg h A).ids n ⟨0,0⟩:=by
 have hkf:=Wg (l:=l) (A:=A) hk
 have haf:=W8 (l:=l) (A:=A) ha h0
 obtain ⟨m,hm⟩:=haf s
 have hne:ZP l h A s≠none:=by
  cases e:h s with
  | some c=>rw[YR e];simp
  | none=>rw[Xl e ⟨hs0,.inl hs⟩];simp
 have hup:=QO hA hk m s hm hne
 obtain ⟨k,hks⟩:=Vw.ids_up (V:=ZD l ms rg h A) hD hkf hup hs hs0
 have e0:ZJ (ZD l ms rg h A).H 0 ⟨0,0⟩:=Y7 h0
 rcases Nat.le_total n k with hnk|hkn
 ·have:=Vw.ids_same (V:=ZD l ms rg h A) hkf haf hD (n:=n) e0 (by omega) (k:=k - n)
  rw[show n+(k - n)=k by omega] at this
  rwa [this] at hks
 ·have:=Vw.ids_more hks (k:=n - k)
  rwa [show k+(n - k)=n by omega] at this
theorem Z3C {l:List El} {ms:List OpD} {rg:St→List Atr} {h:Zf} {A D:List Ch} (hu:Xz l) (hr:∀ x∈l,x.id≠⟨0,0⟩) (hA:Zh h A) (hk:ZO h) (ha:Xf h) (h0:h ⟨0,0⟩=none) (hD:Zh (ZP l h A) D) {n:Nat} (hn:D.length+1≤n):((ZD l ms rg h A).ids n ⟨0,0⟩).Perm ((l.filter ZI).map El.id):=by
 have e0:ZJ (ZD l ms rg h A).H 0 ⟨0,0⟩:=Y7 h0
 refine (List.perm_ext_iff_of_nodup (Vw.ids_nodup e0) (List.pairwise_map.2 (hu.filter _))).2 (fun s=>⟨fun hs=>?_,fun hs=>?_⟩)
 ·obtain ⟨h1,_⟩:=Vw.ids_live hs
  obtain ⟨x,hx,hb,e⟩:=Xn.1 h1
  exact List.mem_map.2 ⟨x,List.mem_filter.2 ⟨hx,hb⟩,e⟩
 ·obtain ⟨x,hx,e⟩:=List.mem_map.1 hs
  rw[List.mem_filter] at hx
  exact Z4l hA hk ha h0 hD hn (Xn.2 ⟨x,hx.1,hx.2,e⟩) (by rw[←e];exact hr x hx.1)
end Go.Proofs.YtlgipkemoldckaaGreatDoor
