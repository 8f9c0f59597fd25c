/- VAll2, part 5 of what the proof leans on (made short by a program). -/
import Derived.Test.YtlgipkemoldckaaGreatDoorVrZ4
set_option linter.unusedSimpArgs false
set_option linter.unusedVariables false
set_option linter.unusedSectionVars false
set_option maxRecDepth 20000
set_option maxHeartbeats 30000000
namespace Go.Proofs.YtlgipkemoldckaaGreatDoor
open Go.RowKit Go.Deep
theorem YT {B:Nat} {w w':World} (h:Below B w w') {b o:Nat} {v:Value} (hb:b<B) (hc:w.cell? ⟨b,o,none⟩=some v):w'.cell? ⟨b,o,none⟩=some v:=by
 have:=h.block b hb
 simp only[World.cell?] at hc ⊢
 rw[this]
 exact hc
theorem UX (l:List UInt8):(⟨l.toArray⟩:ByteArray).data.toList=l:=by simp
theorem Uy (s:ByteArray) (ss:List ByteArray):Yg (s :: ss)=s.toList++Yg ss:=by rw[ByteArray.toList_eq];rfl
theorem TB:Yg []=[]:=rfl
theorem ZK {α:Type} {l:List α} {k:Nat} {x:α} (f:α→List UInt8) (h:l[k]?=some x):(l.take (k+1)).flatMap f=(l.take k).flatMap f++f x:=by
 rw[List.take_add_one,h,Option.toList_some,List.flatMap_append]
 simp
theorem Y2 {α:Type} (l:List α) (f:α→List UInt8) (k:Nat):((l.take k).flatMap f).length≤(l.flatMap f).length:=by
 conv=>rhs;rw[←List.take_append_drop k l]
 rw[List.flatMap_append,List.length_append]
 omega
theorem Xg (s:List UInt8):s.length+2≤(Za s).length:=by
 have:s.length≤(s.flatMap Zr).length:=by
  induction s with
  | nil=>simp
  | cons c s ih =>
   rw[List.flatMap_cons,List.length_append,List.length_cons]
   have:1≤(Zr c).length:=by unfold Zr;split <;> simp
   omega
 unfold Za
 simp only[List.length_cons,List.length_append,List.length_nil]
 omega
theorem Zf.atr2 {D:Nat→Prop} {W:World} {a:Option Addr} {n c:Nat} {l:List Atr} (h:Zf D Atr.cells 2 W (.slice a n c) l) {k:Nat} {y:Atr} (hk:l[k]?=some y):∃ b o,a=some ⟨b,o,none⟩ ∧
  W.cell? ⟨b,o+k*2,none⟩=some (.string y.name)∧W.cell? ⟨b,o+k*2+1,none⟩=some (.string y.value):=by
 obtain ⟨⟨a',c',e,_,_,hh⟩,_⟩:=h
 injection e with e1 _ _
 subst e1
 obtain ⟨b,o,rfl,h1⟩:=hh (by intro e;rw[e] at hk;simp at hk)
 have:=h1 k y hk
 exact ⟨b,o,rfl,this 0 _ rfl,this 1 _ rfl⟩
theorem ZB (s:ByteArray):s.toList.length=s.size:=by rw[ByteArray.toList_eq,Array.length_toList];rfl
theorem Qv (xn xr:Int) (xk:ByteArray) (aa ta sa:Option Addr) (an ac tn tc sn sc:Nat) (az:List Atr) (t:Pcs) (D:Nat→Prop) (w:World) (ha:Zf D Atr.cells 2 w (.slice aa an ac) az) (hp:ZN D w (.slice ta tn tc) t) (ht:Yo w)
  (hbig:(ZP ⟨xn,xr⟩ xk az t).length≤35184372088832) :
  Calls Tryz.prog 51 #[.agg #[.int .i64 xn,.int .i64 xr,.string xk,.slice aa an ac,.slice ta tn tc,.slice sa sn sc]] w fun e w'=>e=.returned (.string ⟨(ZP ⟨xn,xr⟩ xk az t).toArray⟩)∧Below w.heap.size w w':=by
 have hxn:an=az.length∧az.length≤maxLen:=by
  obtain ⟨⟨a,c,e,h1,h2,_⟩,_⟩:=ha
  injection e with _ e2 _
  exact ⟨e2,Nat.le_trans h1 h2⟩
 obtain ⟨at9,ct9,et9,hct,hmt⟩:=hp.shape
 have hxt:tn=t.length:=by injection et9
 have htm:t.length≤maxLen:=Nat.le_trans hct hmt
 unfold maxLen at hxn htm
 have HNN:=Jh (And.intro hxn (And.intro hxt htm))
 have hann:an≤9223372036854775807:=by omega
 have htnn:tn≤9223372036854775807:=by omega
 clear et9 hct hmt hxn hxt htm
 have hB0:Below w.heap.size w ((w.alloc (.cells #[.int .i64 xn,.int .i64 xr,.string xk,.slice aa an ac,.slice ta tn tc,.slice sa sn sc] 28)).alloc (.cells #[.pointer none,.slice none 0 0] 66)):=((Below.refl _ _).alloc (Nat.le_refl _) _).alloc (by simp) _
 have hz1:((w.alloc (.cells #[.int .i64 xn,.int .i64 xr,.string xk,.slice aa an ac,.slice ta tn tc,.slice sa sn sc] 28)).alloc (.cells #[.pointer none,.slice none 0 0] 66)).heap.size=w.heap.size+2:=by simp
 have hbd:BdF (w.heap.size+1) (w.heap.size+1) [] ((w.alloc (.cells #[.int .i64 xn,.int .i64 xr,.string xk,.slice aa an ac,.slice ta tn tc,.slice sa sn sc] 28)).alloc (.cells #[.pointer none,.slice none 0 0] 66)):=BdF.fresh (Nat.le_refl _) (by have:=World.alloc_heap_new (w.alloc (.cells #[.int .i64 xn,.int .i64 xr,.string xk,.slice aa an ac,.slice ta tn tc,.slice sa sn sc] 28)) (.cells #[.pointer none,.slice none 0 0] 66);rwa [World.size_alloc] at this)
 have x0:((w.alloc (.cells #[.int .i64 xn,.int .i64 xr,.string xk,.slice aa an ac,.slice ta tn tc,.slice sa sn sc] 28)).alloc (.cells #[.pointer none,.slice none 0 0] 66)).cell? ⟨w.heap.size,0,none⟩=some (.int .i64 xn):=by go_simp
 have x1:((w.alloc (.cells #[.int .i64 xn,.int .i64 xr,.string xk,.slice aa an ac,.slice ta tn tc,.slice sa sn sc] 28)).alloc (.cells #[.pointer none,.slice none 0 0] 66)).cell? ⟨w.heap.size,1,none⟩=some (.int .i64 xr):=by go_simp
 have x2:((w.alloc (.cells #[.int .i64 xn,.int .i64 xr,.string xk,.slice aa an ac,.slice ta tn tc,.slice sa sn sc] 28)).alloc (.cells #[.pointer none,.slice none 0 0] 66)).cell? ⟨w.heap.size,2,none⟩=some (.string xk):=by go_simp
 have x3:((w.alloc (.cells #[.int .i64 xn,.int .i64 xr,.string xk,.slice aa an ac,.slice ta tn tc,.slice sa sn sc] 28)).alloc (.cells #[.pointer none,.slice none 0 0] 66)).cell? ⟨w.heap.size,3,none⟩=some (.slice aa an ac):=by go_simp
 have x4:((w.alloc (.cells #[.int .i64 xn,.int .i64 xr,.string xk,.slice aa an ac,.slice ta tn tc,.slice sa sn sc] 28)).alloc (.cells #[.pointer none,.slice none 0 0] 66)).cell? ⟨w.heap.size,4,none⟩=some (.slice ta tn tc):=by go_simp
 have HA:=Lib.hid ha
 have HP:=Lib.hid hp
 have HTB:Hid (∀ W,Below (w.heap.size+1) ((w.alloc (.cells #[.int .i64 xn,.int .i64 xr,.string xk,.slice aa an ac,.slice ta tn tc,.slice sa sn sc] 28)).alloc (.cells #[.pointer none,.slice none 0 0] 66)) W→Yo W):=Jh (fun W hW=>ht.below (hB0.trans (hW.mono (by omega))))
 have HZ1:=Lib.hid hz1
 have HB0:=Lib.hid hB0
 have HBD:=Lib.hid hbd
 have HBIG:=Lib.hid hbig
 clear ha hp ht hB0 hbd hbig hz1
 go_enter Tryz.func51,Tryz.ntmps51
 go_upto_region 3 with fail
 generalize ((w.alloc (.cells #[.int .i64 xn,.int .i64 xr,.string xk,.slice aa an ac,.slice ta tn tc,.slice sa sn sc] 28)).alloc (.cells #[.pointer none,.slice none 0 0] 66))=w1 at *
 have HLN:Hid (ZP ⟨xn,xr⟩ xk az t=xk.toList++(idL ⟨xn,xr⟩++(az.flatMap Zm++t.flatMap pcL))):=Lib.hid rfl
 have hk3:xk.toList.length≤35184372088832:=by have:=HBIG.out;rw[HLN.out] at this;simp only[List.length_append] at this;omega
 have HP3:=Jh (XM (w.heap.size+1) (w.heap.size+1) w1.heap.size [] [xk] (0,0) (w1.alloc (.cells #[.string xk] 9)) (HBD.out.alloc _) (World.alloc_heap_new w1 _) (by rw[Uy,TB];simp only[List.length_append,List.length_nil];omega) (by have:=HZ1.out;simp;omega) (by simp))
 clear hk3
 go_wp2_with fail
 refine HP3.out.mono ?_
 rintro e w3 ⟨rfl,g1,g2,-⟩
 have HB3:Hid (Below (w.heap.size+1) w1 w3):=Jh (((Below.refl _ _).alloc (by have:=HZ1.out;omega) _).trans g2)
 have HD3:Hid (BdF (w.heap.size+1) (w.heap.size+1) xk.toList w3):=Jh (by rw[Uy,TB,List.append_nil,List.nil_append] at g1;exact g1)
 clear g1 g2 HP3
 have y0:=YT HB3.out (by omega) x0
 have y1:=YT HB3.out (by omega) x1
 go_upto_region 4 with fail
 go_cut [20] from 17 to 20 (fun v wx=>v=.bool (!decide ((⟨xn,xr⟩:St)=⟨0,0⟩))∧wx=w3)
 case first =>
  by_cases e1:xn=0
  ·by_cases e2:xr=0
   ·subst e1
    subst e2
    go_wp2_with fail
    go_meet
    exact ⟨rfl,rfl⟩
   ·subst e1
    go_wp2_with fail
    go_meet
    exact ⟨by simp[e2],rfl⟩
  ·go_wp2_with fail
   go_meet
   exact ⟨by simp[e1],rfl⟩
 case rest =>
  obtain ⟨rfl,hw⟩:=hcut
  subst wc
  obtain ⟨sb,hsb⟩:=Je ((!decide ((⟨xn,xr⟩:St)=⟨0,0⟩)))
  rw[hsb]
  have HSB:=Lib.hid hsb
  clear hsb
  go_upto_if 20 with fail
  go_cut [] from 21 to 26 (fun wx=>Hid (BdF (w.heap.size+1) (w.heap.size+1) (xk.toList++idL ⟨xn,xr⟩) wx)∧Hid (Below (w.heap.size+1) w1 wx))
  case first=>as_aux_lemma =>
   cases sb with
   | false =>
    have hid0:idL ⟨xn,xr⟩=[]:=by
     have:=HSB.out
     simp only[Bool.not_eq_false',decide_eq_true_eq] at this
     unfold idL
     rw[if_pos this]
    go_wp2_with fail
    go_meet
    exact ⟨by rw[hid0,List.append_nil];exact HD3,HB3⟩
   | true =>
    have hid1:idL ⟨xn,xr⟩=32 :: 35 :: stL ⟨xn,xr⟩:=by
     have:=HSB.out
     simp only[Bool.not_eq_true',decide_eq_false_iff_not] at this
     unfold idL
     rw[if_neg this]
    have HI1:=Lib.hid hid1
    have hk5:xk.toList.length+(2+(stL ⟨xn,xr⟩).length)≤35184372088832:=by have:=HBIG.out;rw[HLN.out,hid1] at this;simp only[List.length_append,List.length_cons] at this;omega
    have HK5:=Lib.hid hk5
    clear hid1 hk5
    go_wp2_with fail
    refine (RD xn xr w3 (HTB.out w3 HB3.out)).mono ?_
    rintro e w4 ⟨rfl,b4⟩
    have hz4:=b4.size
    have hz3:=HB3.out.size
    have hcat:Yg [⟨#[32,35]⟩,⟨(stL ⟨xn,xr⟩).toArray⟩]=32 :: 35 :: stL ⟨xn,xr⟩:=by simp[Yg]
    have HP5:=Jh (XM (w.heap.size+1) (w.heap.size+1) w4.heap.size xk.toList [⟨#[32,35]⟩,⟨(stL ⟨xn,xr⟩).toArray⟩] (0,0) (w4.alloc (.cells #[.string ⟨#[32,35]⟩,.string ⟨(stL ⟨xn,xr⟩).toArray⟩] 9)) ((HD3.out.below b4).alloc _) (World.alloc_heap_new w4 _) (by have:=HK5.out;rw[hcat];simp only[List.length_cons];omega) (by have:=HZ1.out;simp;omega) (by simp))
    have HB4:Hid (Below (w.heap.size+1) w1 w4):=Jh (HB3.out.trans (b4.mono (by have:=HZ1.out;omega)))
    clear b4
    go_wp2_with fail
    refine HP5.out.mono ?_
    rintro e w5 ⟨rfl,g1,g2,-⟩
    have HB5:Hid (Below (w.heap.size+1) w1 w5):=Jh ((HB4.out.alloc (by have:=HZ1.out;omega) _).trans g2)
    have HD5:Hid (BdF (w.heap.size+1) (w.heap.size+1) (xk.toList++idL ⟨xn,xr⟩) w5):=Jh (by rw[HI1.out];rw[hcat] at g1;exact g1)
    clear g1 g2 HP5
    go_wp2_with fail
    go_meet
    exact ⟨HD5,HB5⟩
  case rest =>
   obtain ⟨HD6,HB6⟩:=hcut
   clear HD3 HB3 HSB
   have y3:=YT HB6.out (by omega) x3
   have y4:=YT HB6.out (by omega) x4
   have y4a:=x4
   clear x0 x1 x2 x3 x4 y0 y1
   have HLN2:Hid (ZP ⟨xn,xr⟩ xk az t=(xk.toList++idL ⟨xn,xr⟩)++(az.flatMap Zm++t.flatMap pcL)):=Jh (by rw[HLN.out];simp only[List.append_assoc])
   generalize hLL:ZP ⟨xn,xr⟩ xk az t=LL at *
   have HLL:=Lib.hid hLL
   clear hLL
   generalize xk.toList++idL ⟨xn,xr⟩=A0 at *
   clear HLN HBD
   go_wp2_with fail
   go_loopg [30] an (fun g iv wr=>∃ k:Nat,g=an - k∧k≤an∧iv=.int .i64 k∧Hid (BdF (w.heap.size+1) (w.heap.size+1) (A0++(az.take k).flatMap Zm) wr)∧Hid (Below (w.heap.size+1) w1 wr))
   case atStart=>exact ⟨0,by omega,by omega,rfl,Jh (by simpa using HD6.out),HB6⟩
   case round =>
    obtain ⟨k,hg,hk,rfl,HD,HB⟩:=hrel
    have HG:=Lib.hid hg
    clear hg
    have HBW:Hid (Below w.heap.size w wr):=Jh (HB0.out.trans (HB.out.mono (by have:=HZ1.out;omega)))
    by_cases hkl:k<an
    ·obtain ⟨⟨nm,vl⟩,hx⟩:∃ x,az[k]?=some x:=⟨_,List.getElem?_eq_getElem (by have:=HNN.out.1;omega)⟩
     obtain ⟨b,o,rfl,u0,u1⟩:=(HA.out.ext (Ext.of_below (S:=fun _=>False) HBW.out) (fun _ _ _ f=>f) (fun _=>Nat.zero_lt_succ 1)).atr2 hx
     have hkk:(k:Int)<(an:Int):=by omega
     have hft:=Y2 az Zm (k+1)
     rw[ZK Zm hx,List.length_append] at hft
     have hq2:=Xg vl.data.toList
     have hcat:Yg [⟨#[32]⟩,nm,⟨#[61]⟩,⟨(Za vl.data.toList).toArray⟩]=Zm ⟨nm,vl⟩:=by simp[Yg,Zm,ByteArray.toList_eq]
     have hla:(Za vl.data.toList).length≤(Zm ⟨nm,vl⟩).length:=by rw[←hcat];simp[Yg];omega
     have hvs:vl.size≤35184372088832∧A0.length+((az.take k).flatMap Zm).length+(Zm ⟨nm,vl⟩).length≤35184372088832:=by
      have h1:=HBIG.out
      rw[HLN2.out] at h1
      simp only[List.length_append] at h1
      have h2:vl.data.toList.length=vl.size:=by rw[Array.length_toList];rfl
      omega
     have HX:=Lib.hid hx
     have HVS:=Lib.hid hvs
     have HCAT:=Lib.hid hcat
     clear hx hvs hft hq2 hla hcat
     have z0:(wr.alloc (.cells #[.string nm,.string vl] 73)).cell? ⟨wr.heap.size,0,none⟩=some (.string nm):=by go_simp
     have z1:(wr.alloc (.cells #[.string nm,.string vl] 73)).cell? ⟨wr.heap.size,1,none⟩=some (.string vl):=by go_simp
     have HD9:=Jh (HD.out.alloc (.cells #[.string nm,.string vl] 73))
     have HB9:Hid (Below (w.heap.size+1) w1 (wr.alloc (.cells #[.string nm,.string vl] 73))):=Jh (HB.out.alloc (by have:=HB.out.size;have:=HZ1.out;omega) _)
     go_upto_region 9 with fail
     have hza:=World.size_alloc wr (.cells #[.string nm,.string vl] 73)
     have HZA:=Lib.hid hza
     clear hza
     generalize (wr.alloc (.cells #[.string nm,.string vl] 73))=w9 at *
     have hS0:(fun W:World=>W.cell? ⟨wr.heap.size,0,none⟩=some (.string nm)∧W.cell? ⟨wr.heap.size,1,none⟩=some (.string vl)) w9.drew:=⟨z0,z1⟩
     refine Zq (fun W:World=>W.cell? ⟨wr.heap.size,0,none⟩=some (.string nm)∧W.cell? ⟨wr.heap.size,1,none⟩=some (.string vl)) (fun i=>i == 7) (by kernel_rfl) ?_
     refine Zx (i:=0) (d:=some 34) [7] rfl rfl rfl (by kernel_rfl) (by kernel_rfl) (by kernel_rfl) (by kernel_rfl) (fun _ _ _ h=>h) (.inl ⟨by rfl,fun W hW=>by obtain ⟨q0,q1⟩:=hW;go_simp;try rfl⟩) hS0 ?_
     try simp only[Ja]
     refine Zx (i:=1) (d:=some 35) [2,6,7] rfl rfl rfl (by kernel_rfl) (by kernel_rfl) (by kernel_rfl) (by kernel_rfl) (fun _ _ _ h=>h) (.inl ⟨by rfl,fun W hW=>by obtain ⟨q0,q1⟩:=hW;go_simp;try rfl⟩) hS0 ?_
     try simp only[Ja]
     refine Zx (i:=2) (d:=some 36) [6,7] rfl rfl rfl (by kernel_rfl) (by kernel_rfl) (by kernel_rfl) (by kernel_rfl) (fun _ _ _ h=>h) (.inl ⟨by rfl,fun W hW=>by obtain ⟨q0,q1⟩:=hW;go_simp;try rfl⟩) hS0 ?_
     try simp only[Ja]
     refine Zx (i:=3) (d:=some 37) [4,5,6,7] rfl rfl rfl (by kernel_rfl) (by kernel_rfl) (by kernel_rfl) (by kernel_rfl) (fun _ _ _ h=>h) (.inl ⟨by rfl,fun W hW=>by obtain ⟨q0,q1⟩:=hW;go_simp;try rfl⟩) hS0 ?_
     try simp only[Ja]
     refine Zx (i:=4) (d:=some 38) [5,6,7] rfl rfl rfl (by kernel_rfl) (by kernel_rfl) (by kernel_rfl) (by kernel_rfl) (fun _ _ _ h=>h) (.inl ⟨by rfl,fun W hW=>by obtain ⟨q0,q1⟩:=hW;go_simp;try rfl⟩) hS0 ?_
     try simp only[Ja]
     refine ZR (i:=5) (d:=some 39) (f:=79) (args:=#[.string vl]) (w':=w9.drew) (by kernel_rfl) rfl rfl (by rfl) (by go_simp;try rfl) ?_
     refine (Wt vl w9.drew HVS.out.1).mono ?_
     rintro e w5 ⟨rfl,b5⟩
     simp only[ZI,ZA] at b5
     have hz5:=b5.size
     have HB5:Hid (Below (w.heap.size+1) w1 w5):=Jh (HB9.out.trans (b5.mono (by have:=HB.out.size;have:=HZA.out;have:=HZ1.out;omega)))
     have HD5:=Jh (HD9.out.below b5)
     refine ⟨_,rfl,fun _=>⟨Z0 b5 z0,Z0 b5 z1⟩,?_⟩
     try simp only[Ja]
     refine Zg (i:=6) (d:=some 40) (v:=.slice (some ⟨w5.heap.size,0,none⟩) 4 4) (w':=w5.alloc (.cells #[.string ⟨#[32]⟩,.string nm,.string ⟨#[61]⟩,.string ⟨(Za vl.data.toList).toArray⟩] 9)) (by kernel_rfl) rfl rfl (by rfl) (by go_simp;try rfl) (fun _=>⟨Z2 (Z0 b5 z0) _,Z2 (Z0 b5 z1) _⟩) ?_
     try simp only[Ja]
     refine ZR (i:=7) (d:=some 41) (f:=77) (args:=#[.slice (some ⟨w5.heap.size,0,none⟩) 4 4,.pointer (some ⟨w.heap.size+1,0,none⟩)]) (w':=w5.alloc (.cells #[.string ⟨#[32]⟩,.string nm,.string ⟨#[61]⟩,.string ⟨(Za vl.data.toList).toArray⟩] 9)) (by kernel_rfl) rfl rfl (by rfl) (by go_simp;try rfl) ?_
     refine (XM (w.heap.size+1) (w.heap.size+1) w5.heap.size (A0++(az.take k).flatMap Zm) [⟨#[32]⟩,nm,⟨#[61]⟩,⟨(Za vl.data.toList).toArray⟩] (0,0) _ (HD5.out.alloc _) (World.alloc_heap_new w5 _) (by rw[HCAT.out,List.length_append];have:=HVS.out.2;omega) (by rw[World.size_alloc];have:=HB5.out.size;have:=HZ1.out;omega) (by simp)).mono ?_
     rintro e w6 ⟨rfl,g1,g2,-⟩
     have HD6b:Hid (BdF (w.heap.size+1) (w.heap.size+1) (A0++(az.take (k+1)).flatMap Zm) w6):=Jh (by rw[ZK Zm HX.out,←HCAT.out,←List.append_assoc];exact g1)
     have HB6b:Hid (Below (w.heap.size+1) w1 w6):=Jh ((HB5.out.alloc (by have:=HB5.out.size;have:=HZ1.out;omega) _).trans g2)
     refine ⟨_,rfl,fun _=>(by rename_i hh;exact absurd hh (by decide)),?_⟩
     try simp only[Ja]
     refine Zi (by kernel_rfl) ?_ _
     clear g1 g2 b5 z0 z1 HD9 HB9 HD5 HB5 hS0 hz5
     go_wp2_with fail
     go_roundg (an - (k+1))
     case measure=>rw[HG.out];omega
     case rel=>exact ⟨k+1,rfl,hkl,by go_num,HD6b,HB6b⟩
    ·have hkk:¬ ((k:Int)<(an:Int)):=by omega
     have HD7:Hid (BdF (w.heap.size+1) (w.heap.size+1) (A0++az.flatMap Zm) wr):=Jh (by have:=HD.out;rwa [List.take_of_length_le (by have:=HNN.out.1;omega)] at this)
     have z4:=YT HB.out (by omega) y4a
     have HLN3:Hid (LL=(A0++az.flatMap Zm)++t.flatMap pcL):=Jh (by rw[HLN2.out];simp only[List.append_assoc])
     generalize A0++az.flatMap Zm=A1 at *
     have HB7:=Lib.hid HB.out
     clear HD HB HG HLN2 HD6 HB6 y3 y4
     obtain ⟨w7,hw7⟩:∃ w7,w7=wr:=⟨_,rfl⟩
     subst hw7
     go_wp2_with fail
     go_loopg [46] tn (fun g iv wr=>∃ k:Nat,g=tn - k∧k≤tn∧iv=.int .i64 k∧Hid (BdF (w.heap.size+1) (w.heap.size+1) (A1++(t.take k).flatMap pcL) wr)∧Hid (Below (w.heap.size+1) w1 wr))
     case atStart=>exact ⟨0,by omega,by omega,rfl,Jh (by simpa using HD7.out),HB7⟩
     case round =>
      obtain ⟨k,hg,hk,rfl,HD,HB⟩:=hrel
      have HG:=Lib.hid hg
      clear hg
      have HBW:Hid (Below w.heap.size w wr):=Jh (HB0.out.trans (HB.out.mono (by have:=HZ1.out;omega)))
      by_cases hkl:k<tn
      ·obtain ⟨⟨tx,al⟩,hx⟩:∃ x,t[k]?=some x:=⟨_,List.getElem?_eq_getElem (by have:=HNN.out.2.1;omega)⟩
       obtain ⟨b,o,c5,ms,e5,-,-,u0,u1,hsl⟩:=HP.out.at hx
       injection e5 with e5 e6 e7
       clear e6 e7
       subst e5
       obtain ⟨ma,mn,mc⟩:=ms
       replace u0:=Z0 HBW.out u0
       replace u1:=Z0 HBW.out u1
       have hmn:mn=al.length∧al.length≤9223372036854775807:=by obtain ⟨a,c,e,h1,h2,_⟩:=hsl;injection e with _ e2 _;unfold maxLen at h2;exact ⟨e2,Nat.le_trans h1 h2⟩
       have HSL:=Lib.hid hsl
       have hmnn:mn≤9223372036854775807:=by omega
       have HMN:=Lib.hid hmn
       have hkk2:(k:Int)<(tn:Int):=by omega
       have hft:=Y2 t pcL (k+1)
       rw[ZK pcL hx,List.length_append] at hft
       have hpc:pcL (tx,al)=32 :: (al.flatMap Zl++Za tx.data.toList):=by unfold pcL;simp only[ByteArray.toList_eq]
       have hvs:A1.length+((t.take k).flatMap pcL).length+(1+(al.flatMap Zl).length+(Za tx.data.toList).length)≤35184372088832:=by
        have h1:=HBIG.out
        rw[HLN3.out] at h1
        rw[hpc] at hft
        simp only[List.length_append,List.length_cons] at h1 hft
        omega
       have HX:=Lib.hid hx
       have HVS:=Lib.hid hvs
       have HPC:=Lib.hid hpc
       clear hx hvs hft hpc hsl hmn
       have HPB9:Hid ((wr.alloc (.cells #[.string tx,.slice ma mn mc] 75)).heap[wr.heap.size]?=some (.cells #[.string tx,.slice ma mn mc] 75)):=Jh (World.alloc_heap_new wr _)
       have HD9:=Jh (HD.out.alloc (.cells #[.string tx,.slice ma mn mc] 75))
       have HB9:Hid (Below (w.heap.size+1) w1 (wr.alloc (.cells #[.string tx,.slice ma mn mc] 75))):=Jh (HB.out.alloc (by have:=HB.out.size;have:=HZ1.out;omega) _)
       obtain ⟨wo,hwo⟩:∃ wo,wo=wr:=⟨_,rfl⟩
       subst hwo
       have HWO:=Lib.hid HB.out.size
       go_upto_region 14 with fail
       generalize wo.alloc (.cells #[.string tx,.slice ma mn mc] 75)=w9 at *
       have HP14:=Jh (XM (w.heap.size+1) (w.heap.size+1) w9.heap.size _ [⟨#[32]⟩] (0,0) (w9.alloc (.cells #[.string ⟨#[32]⟩] 9)) (HD9.out.alloc _) (World.alloc_heap_new w9 _) (by have:=HVS.out;show _+1≤_;rw[List.length_append];omega) (by rw[World.size_alloc];have:=HB9.out.size;have:=HZ1.out;omega) (by simp))
       go_wp2_with fail
       refine HP14.out.mono ?_
       rintro e w10 ⟨rfl,g1,g2,g3⟩
       have HD10:Hid (BdF (w.heap.size+1) (w.heap.size+1) (A1++(t.take k).flatMap pcL++[32]) w10):=Lib.hid g1
       have HB10:Hid (Below (w.heap.size+1) w1 w10):=Jh ((HB9.out.alloc (by have:=HB9.out.size;have:=HZ1.out;omega) _).trans g2)
       have HPB10:Hid (w10.heap[wo.heap.size]?=some (.cells #[.string tx,.slice ma mn mc] 75)):=Jh ((((KpO.refl (w.heap.size+1) w9).alloc _).trans g3).block HPB9.out (by have:=HWO.out;have:=HZ1.out;omega) (by decide))
       have zp1:w10.cell? ⟨wo.heap.size,1,none⟩=some (.slice ma mn mc):=by rw[Lib.cell_of_heap HPB10.out];rfl
       clear g1 g2 g3 HP14 HD9 HB9 HPB9 u0 u1 HD HB
       generalize hA2:A1++(t.take k).flatMap pcL++[32]=A2 at *
       have HA2:=Lib.hid hA2
       clear hA2
       have HVA:Hid (A2.length+(al.flatMap Zl).length+(Za tx.data.toList).length≤35184372088832):=Jh (by have:=HVS.out;rw[←HA2.out];simp only[List.length_append,List.length_singleton];omega)
       go_wp2_with fail
       go_loopg [56] mn (fun g iv wr=>∃ j:Nat,g=mn - j∧j≤mn∧iv=.int .i64 j∧Hid (BdF (w.heap.size+1) (w.heap.size+1) (A2++(al.take j).flatMap Zl) wr)∧Hid (Below (w.heap.size+1) w1 wr)∧Hid (wr.heap[wo.heap.size]?=some (.cells #[.string tx,.slice ma mn mc] 75)))
       case atStart=>exact ⟨0,by omega,by omega,rfl,Jh (by simpa using HD10.out),HB10,HPB10⟩
       case round =>
        obtain ⟨j,hg2,hj,rfl,HD,HB,HPB⟩:=hrel
        have HG2:=Lib.hid hg2
        clear hg2
        have HBW2:Hid (Below w.heap.size w wr):=Jh (HB0.out.trans (HB.out.mono (by have:=HZ1.out;omega)))
        by_cases hjl:j<mn
        ·obtain ⟨⟨nm,vl⟩,hx⟩:∃ x,al[j]?=some x:=⟨_,List.getElem?_eq_getElem (by have:=HMN.out.1;omega)⟩
         obtain ⟨b2,o2,rfl,u0,u1⟩:=(show Zf (fun _=>True) Atr.cells 2 wr (.slice ma mn mc) al from ⟨HSL.out.below HBW2.out,fun _ _ _ _ _ _=>trivial⟩).atr2 hx
         have hjj:(j:Int)<(mn:Int):=by omega
         have hft:=Y2 al Zl (j+1)
         rw[ZK Zl hx,List.length_append] at hft
         have hq2:=Xg vl.data.toList
         have hcat:Yg [nm,⟨#[61]⟩,⟨(Za vl.data.toList).toArray⟩,⟨#[58]⟩]=Zl ⟨nm,vl⟩:=by simp[Yg,Zl,ByteArray.toList_eq]
         have hla:(Za vl.data.toList).length≤(Zl ⟨nm,vl⟩).length:=by rw[←hcat];simp[Yg];omega
         have hvs:vl.size≤35184372088832∧A2.length+((al.take j).flatMap Zl).length+(Zl ⟨nm,vl⟩).length≤35184372088832:=by
          have h1:=HVA.out
          have h2:vl.data.toList.length=vl.size:=by rw[Array.length_toList];rfl
          omega
         have HX2:=Lib.hid hx
         have HVS2:=Lib.hid hvs
         have HCAT:=Lib.hid hcat
         clear hx hvs hft hq2 hla hcat
         have z0:(wr.alloc (.cells #[.string nm,.string vl] 73)).cell? ⟨wr.heap.size,0,none⟩=some (.string nm):=by go_simp
         have z1:(wr.alloc (.cells #[.string nm,.string vl] 73)).cell? ⟨wr.heap.size,1,none⟩=some (.string vl):=by go_simp
         have HD9:=Jh (HD.out.alloc (.cells #[.string nm,.string vl] 73))
         have HB9:Hid (Below (w.heap.size+1) w1 (wr.alloc (.cells #[.string nm,.string vl] 73))):=Jh (HB.out.alloc (by have:=HB.out.size;have:=HZ1.out;omega) _)
         have HPB9:Hid ((wr.alloc (.cells #[.string nm,.string vl] 73)).heap[wo.heap.size]?=some (.cells #[.string tx,.slice (some ⟨b2,o2,none⟩) mn mc] 75)):=Jh (((KpO.refl (w.heap.size+1) wr).alloc _).block HPB.out (by have:=HWO.out;have:=HZ1.out;omega) (by decide))
         go_upto_region 18 with fail
         have hza:=World.size_alloc wr (.cells #[.string nm,.string vl] 73)
         have HZA:=Lib.hid hza
         clear hza
         generalize (wr.alloc (.cells #[.string nm,.string vl] 73))=w9 at *
         have hS0:(fun W:World=>W.cell? ⟨wr.heap.size,0,none⟩=some (.string nm)∧W.cell? ⟨wr.heap.size,1,none⟩=some (.string vl)) w9.drew:=⟨z0,z1⟩
         refine Zq (fun W:World=>W.cell? ⟨wr.heap.size,0,none⟩=some (.string nm)∧W.cell? ⟨wr.heap.size,1,none⟩=some (.string vl)) (fun i=>i == 7) (by kernel_rfl) ?_
         refine Zx (i:=0) (d:=some 60) [7] rfl rfl rfl (by kernel_rfl) (by kernel_rfl) (by kernel_rfl) (by kernel_rfl) (fun _ _ _ h=>h) (.inl ⟨by rfl,fun W hW=>by obtain ⟨q0,q1⟩:=hW;go_simp;try rfl⟩) hS0 ?_
         try simp only[Ja]
         refine Zx (i:=1) (d:=some 61) [2,6,7] rfl rfl rfl (by kernel_rfl) (by kernel_rfl) (by kernel_rfl) (by kernel_rfl) (fun _ _ _ h=>h) (.inl ⟨by rfl,fun W hW=>by obtain ⟨q0,q1⟩:=hW;go_simp;try rfl⟩) hS0 ?_
         try simp only[Ja]
         refine Zx (i:=2) (d:=some 62) [6,7] rfl rfl rfl (by kernel_rfl) (by kernel_rfl) (by kernel_rfl) (by kernel_rfl) (fun _ _ _ h=>h) (.inl ⟨by rfl,fun W hW=>by obtain ⟨q0,q1⟩:=hW;go_simp;try rfl⟩) hS0 ?_
         try simp only[Ja]
         refine Zx (i:=3) (d:=some 63) [4,5,6,7] rfl rfl rfl (by kernel_rfl) (by kernel_rfl) (by kernel_rfl) (by kernel_rfl) (fun _ _ _ h=>h) (.inl ⟨by rfl,fun W hW=>by obtain ⟨q0,q1⟩:=hW;go_simp;try rfl⟩) hS0 ?_
         try simp only[Ja]
         refine Zx (i:=4) (d:=some 64) [5,6,7] rfl rfl rfl (by kernel_rfl) (by kernel_rfl) (by kernel_rfl) (by kernel_rfl) (fun _ _ _ h=>h) (.inl ⟨by rfl,fun W hW=>by obtain ⟨q0,q1⟩:=hW;go_simp;try rfl⟩) hS0 ?_
         try simp only[Ja]
         refine ZR (i:=5) (d:=some 65) (f:=79) (args:=#[.string vl]) (w':=w9.drew) (by kernel_rfl) rfl rfl (by rfl) (by go_simp;try rfl) ?_
         refine (Wt vl w9.drew HVS2.out.1).mono ?_
         rintro e w5 ⟨rfl,b5⟩
         simp only[ZI,ZA] at b5
         have hz5:=b5.size
         have HB5:Hid (Below (w.heap.size+1) w1 w5):=Jh (HB9.out.trans (b5.mono (by have:=HB.out.size;have:=HZA.out;have:=HZ1.out;omega)))
         have HD5:=Jh (HD9.out.below b5)
         have HPB5:=Jh ((KpO.of_below (b:=w.heap.size+1) b5).block HPB9.out (by have:=HWO.out;have:=HZ1.out;omega) (by decide))
         refine ⟨_,rfl,fun _=>⟨Z0 b5 z0,Z0 b5 z1⟩,?_⟩
         try simp only[Ja]
         refine Zg (i:=6) (d:=some 66) (v:=.slice (some ⟨w5.heap.size,0,none⟩) 4 4) (w':=w5.alloc (.cells #[.string nm,.string ⟨#[61]⟩,.string ⟨(Za vl.data.toList).toArray⟩,.string ⟨#[58]⟩] 9)) (by kernel_rfl) rfl rfl (by rfl) (by go_simp;try rfl) (fun _=>⟨Z2 (Z0 b5 z0) _,Z2 (Z0 b5 z1) _⟩) ?_
         try simp only[Ja]
         refine ZR (i:=7) (d:=some 67) (f:=77) (args:=#[.slice (some ⟨w5.heap.size,0,none⟩) 4 4,.pointer (some ⟨w.heap.size+1,0,none⟩)]) (w':=w5.alloc (.cells #[.string nm,.string ⟨#[61]⟩,.string ⟨(Za vl.data.toList).toArray⟩,.string ⟨#[58]⟩] 9)) (by kernel_rfl) rfl rfl (by rfl) (by go_simp;try rfl) ?_
         refine (XM (w.heap.size+1) (w.heap.size+1) w5.heap.size (A2++(al.take j).flatMap Zl) [nm,⟨#[61]⟩,⟨(Za vl.data.toList).toArray⟩,⟨#[58]⟩] (0,0) _ (HD5.out.alloc _) (World.alloc_heap_new w5 _) (by rw[HCAT.out,List.length_append];have:=HVS2.out.2;omega) (by rw[World.size_alloc];have:=HB5.out.size;have:=HZ1.out;omega) (by simp)).mono ?_
         rintro e w6 ⟨rfl,g1,g2,g3⟩
         have HD6b:Hid (BdF (w.heap.size+1) (w.heap.size+1) (A2++(al.take (j+1)).flatMap Zl) w6):=Jh (by rw[ZK Zl HX2.out,←HCAT.out,←List.append_assoc];exact g1)
         have HB6b:Hid (Below (w.heap.size+1) w1 w6):=Jh ((HB5.out.alloc (by have:=HB5.out.size;have:=HZ1.out;omega) _).trans g2)
         have HPB6:Hid (w6.heap[wo.heap.size]?=some (.cells #[.string tx,.slice (some ⟨b2,o2,none⟩) mn mc] 75)):=Jh ((((KpO.refl (w.heap.size+1) w5).alloc _).trans g3).block HPB5.out (by have:=HWO.out;have:=HZ1.out;omega) (by decide))
         refine ⟨_,rfl,fun _=>(by rename_i hh;exact absurd hh (by decide)),?_⟩
         try simp only[Ja]
         refine Zi (by kernel_rfl) ?_ _
         clear g1 g2 g3 b5 z0 z1 HD9 HB9 HD5 HB5 hS0 hz5 HPB9 HPB5
         go_wp2_with fail
         go_roundg (mn - (j+1))
         case measure=>rw[HG2.out];omega
         case rel=>exact ⟨j+1,rfl,hjl,by go_num,HD6b,HB6b,HPB6⟩
        ·have hjj:¬ ((j:Int)<(mn:Int)):=by omega
         have HD7:Hid (BdF (w.heap.size+1) (w.heap.size+1) (A2++al.flatMap Zl) wr):=Jh (by have:=HD.out;rwa [List.take_of_length_le (by have:=HMN.out.1;omega)] at this)
         have zt:wr.cell? ⟨wo.heap.size,0,none⟩=some (.string tx):=by rw[Lib.cell_of_heap HPB.out];rfl
         have hqt:=Xg tx.data.toList
         have htx:tx.data.toList.length=tx.size:=by rw[Array.length_toList];rfl
         have hts:tx.size≤35184372088832:=by have:=HVA.out;omega
         have HTS:=Lib.hid hts
         clear hqt htx hts
         go_wp2_with fail
         refine (Wt tx wr HTS.out).mono ?_
         rintro e w12 ⟨rfl,b12⟩
         have hcat:Yg [⟨(Za tx.data.toList).toArray⟩]=Za tx.data.toList:=by simp[Yg]
         have hz12:=b12.size
         have HB12:Hid (Below (w.heap.size+1) w1 w12):=Jh (HB.out.trans (b12.mono (by have:=HB.out.size;have:=HZ1.out;omega)))
         have HP20:=Jh (XM (w.heap.size+1) (w.heap.size+1) w12.heap.size _ [⟨(Za tx.data.toList).toArray⟩] (0,0) (w12.alloc (.cells #[.string ⟨(Za tx.data.toList).toArray⟩] 9)) ((HD7.out.below b12).alloc _) (World.alloc_heap_new w12 _) (by have:=HVA.out;rw[hcat,List.length_append];omega) (by rw[World.size_alloc];have:=HB12.out.size;have:=HZ1.out;omega) (by simp))
         rw[hcat] at HP20
         clear hcat b12
         go_wp2_with fail
         refine HP20.out.mono ?_
         rintro e w13 ⟨rfl,g1,g2,-⟩
         have HD13:Hid (BdF (w.heap.size+1) (w.heap.size+1) (A1++(t.take (k+1)).flatMap pcL) w13):=Jh (by rw[ZK pcL HX.out,HPC.out];rw[←HA2.out] at g1;simp only[List.append_assoc,List.cons_append,List.nil_append,List.singleton_append] at g1 ⊢;exact g1)
         have HB13:Hid (Below (w.heap.size+1) w1 w13):=Jh ((HB12.out.alloc (by have:=HB12.out.size;have:=HZ1.out;omega) _).trans g2)
         clear g1 g2 HP20
         go_wp2_with fail
         go_roundg (tn - (k+1))
         case measure=>rw[HG.out];omega
         case rel=>exact ⟨k+1,rfl,hkl,by go_num,HD13,HB13⟩
      ·have hkk2:¬ ((k:Int)<(tn:Int)):=by omega
       have HD8:Hid (BdF (w.heap.size+1) (w.heap.size+1) LL wr):=Jh (by have:=HD.out;rwa [List.take_of_length_le (by have:=HNN.out.2.1;omega),←HLN3.out] at this)
       go_wp2_with fail
       refine (Tf (w.heap.size+1) (w.heap.size+1) LL wr HD8.out (by have:=HB.out.size;have:=HZ1.out;omega)).mono ?_
       rintro e w20 ⟨rfl,-,b20,-⟩
       have HB20:=Jh ((HB0.out.trans (HB.out.mono (by have:=HZ1.out;omega))).trans (b20.mono (by omega)))
       clear b20
       go_wp2_with fail
       go_ret
       exact ⟨by rw[HLL.out];rfl,HB20.out⟩
theorem Z00 (a:List UInt8) (b:ByteArray):(⟨a.toArray⟩:ByteArray)++b=⟨(a++b.toList).toArray⟩:=by
 apply ByteArray.ext
 rw[ByteArray.data_append,ByteArray.toList_eq]
 apply Array.ext'
 simp
theorem Y5 (a:List UInt8) (b:ByteArray) (W:World) (h:a.length+b.toList.length≤9223372036854775807):(Op.stringOp .add (⟨a.toArray⟩:ByteArray) b).run Tryz.prog W=.ok (.string ⟨(a++b.toList).toArray⟩) W:=by
 rw[run_string_add_sum W _ _ (by rw[Yn];rw[ZB] at h;exact h),Z00]
theorem S7 (b:ByteArray):(⟨b.toList.toArray⟩:ByteArray)=b:=by
 apply ByteArray.ext
 rw[ByteArray.toList_eq]
theorem ZC (l:List UInt8):(⟨l.toArray⟩:ByteArray).toList=l:=by rw[ByteArray.toList_eq]
theorem Rr (xn xr:Int) (xk:ByteArray) (aa ta sa:Option Addr) (an ac tn tc sn sc:Nat) (az:List Atr) (t:Pcs) (D:Nat→Prop) (w:World) (ha:Zf D Atr.cells 2 w (.slice aa an ac) az) (hp:ZN D w (.slice ta tn tc) t)
  (hbig:(ZP ⟨xn,xr⟩ xk az t).length≤35184372088832) :
  Calls Tryz.prog 52 #[.agg #[.int .i64 xn,.int .i64 xr,.string xk,.slice aa an ac,.slice ta tn tc,.slice sa sn sc]] w fun e w'=>e=.returned (.string ⟨(ZP ⟨xn,xr⟩ xk az t).toArray⟩)∧Below w.heap.size w w':=by
 have hxn:an=az.length∧az.length≤maxLen:=by
  obtain ⟨⟨a,c,e,h1,h2,_⟩,_⟩:=ha
  injection e with _ e2 _
  exact ⟨e2,Nat.le_trans h1 h2⟩
 obtain ⟨at9,ct9,et9,hct,hmt⟩:=hp.shape
 have hxt:tn=t.length:=by injection et9
 have htm:t.length≤maxLen:=Nat.le_trans hct hmt
 unfold maxLen at hxn htm
 have HNN:=Jh (And.intro hxn (And.intro hxt htm))
 have hann:an≤9223372036854775807:=by omega
 have htnn:tn≤9223372036854775807:=by omega
 clear et9 hct hmt hxn hxt htm
 have hB0:Below w.heap.size w (w.alloc (.cells #[.int .i64 xn,.int .i64 xr,.string xk,.slice aa an ac,.slice ta tn tc,.slice sa sn sc] 28)):=(Below.refl _ _).alloc (Nat.le_refl _) _
 have hz1:(w.alloc (.cells #[.int .i64 xn,.int .i64 xr,.string xk,.slice aa an ac,.slice ta tn tc,.slice sa sn sc] 28)).heap.size=w.heap.size+1:=by simp
 have x0:(w.alloc (.cells #[.int .i64 xn,.int .i64 xr,.string xk,.slice aa an ac,.slice ta tn tc,.slice sa sn sc] 28)).cell? ⟨w.heap.size,0,none⟩=some (.int .i64 xn):=by go_simp
 have x1:(w.alloc (.cells #[.int .i64 xn,.int .i64 xr,.string xk,.slice aa an ac,.slice ta tn tc,.slice sa sn sc] 28)).cell? ⟨w.heap.size,1,none⟩=some (.int .i64 xr):=by go_simp
 have x2:(w.alloc (.cells #[.int .i64 xn,.int .i64 xr,.string xk,.slice aa an ac,.slice ta tn tc,.slice sa sn sc] 28)).cell? ⟨w.heap.size,2,none⟩=some (.string xk):=by go_simp
 have x3:(w.alloc (.cells #[.int .i64 xn,.int .i64 xr,.string xk,.slice aa an ac,.slice ta tn tc,.slice sa sn sc] 28)).cell? ⟨w.heap.size,3,none⟩=some (.slice aa an ac):=by go_simp
 have x4:(w.alloc (.cells #[.int .i64 xn,.int .i64 xr,.string xk,.slice aa an ac,.slice ta tn tc,.slice sa sn sc] 28)).cell? ⟨w.heap.size,4,none⟩=some (.slice ta tn tc):=by go_simp
 have HA:=Lib.hid ha
 have HP:=Lib.hid hp
 have HZ1:=Lib.hid hz1
 have HB0:=Lib.hid hB0
 have HBIG:=Lib.hid hbig
 clear ha hp hB0 hbig hz1
 go_enter Tryz.func52,Tryz.ntmps52
 go_upto_region 1 with fail
 generalize (w.alloc (.cells #[.int .i64 xn,.int .i64 xr,.string xk,.slice aa an ac,.slice ta tn tc,.slice sa sn sc] 28))=w1 at *
 have HLN:Hid (ZP ⟨xn,xr⟩ xk az t=xk.toList++(idL ⟨xn,xr⟩++(az.flatMap Zm++t.flatMap pcL))):=Lib.hid rfl
 go_upto_region 2 with fail
 go_cut [12] from 9 to 12 (fun v wx=>v=.bool (!decide ((⟨xn,xr⟩:St)=⟨0,0⟩))∧wx=w1)
 case first =>
  by_cases e1:xn=0
  ·by_cases e2:xr=0
   ·subst e1
    subst e2
    go_wp2_with fail
    go_meet
    exact ⟨rfl,rfl⟩
   ·subst e1
    go_wp2_with fail
    go_meet
    exact ⟨by simp[e2],rfl⟩
  ·go_wp2_with fail
   go_meet
   exact ⟨by simp[e1],rfl⟩
 case rest =>
  obtain ⟨rfl,hw⟩:=hcut
  subst wc
  obtain ⟨sb,hsb⟩:=Je ((!decide ((⟨xn,xr⟩:St)=⟨0,0⟩)))
  rw[hsb]
  have HSB:=Lib.hid hsb
  clear hsb
  go_upto_if 12 with fail
  go_cut [3] from 13 to 18 (fun v wx=>v=.string ⟨(xk.toList++idL ⟨xn,xr⟩).toArray⟩∧Hid (Below w1.heap.size w1 wx))
  case first=>as_aux_lemma =>
   cases sb with
   | false =>
    have hid0:idL ⟨xn,xr⟩=[]:=by
     have:=HSB.out
     simp only[Bool.not_eq_false',decide_eq_true_eq] at this
     unfold idL
     rw[if_pos this]
    go_wp2_with fail
    go_meet
    exact ⟨by rw[hid0,List.append_nil,S7],Jh (Below.refl _ _)⟩
   | true =>
    have hid1:idL ⟨xn,xr⟩=32 :: 35 :: stL ⟨xn,xr⟩:=by
     have:=HSB.out
     simp only[Bool.not_eq_true',decide_eq_false_iff_not] at this
     unfold idL
     rw[if_neg this]
    have hk5:xk.toList.length+(2+(stL ⟨xn,xr⟩).length)≤35184372088832:=by have:=HBIG.out;rw[HLN.out,hid1] at this;simp only[List.length_append,List.length_cons] at this;omega
    have hs1:∀ W,(Op.stringOp .add xk ⟨#[32,35]⟩).run Tryz.prog W=.ok (.string ⟨(xk.toList++[32,35]).toArray⟩) W:=fun W=>by have:=Y5 xk.toList ⟨#[32,35]⟩ W (by rw[ZB ⟨#[32,35]⟩];show _+2≤_;omega);rw[S7,show (⟨#[32,35]⟩:ByteArray).toList=[32,35] from ZC [32,35]] at this;exact this
    have hs2:∀ W,(Op.stringOp .add (⟨(xk.toList++[32,35]).toArray⟩:ByteArray) ⟨(stL ⟨xn,xr⟩).toArray⟩).run Tryz.prog W=.ok (.string ⟨(xk.toList++idL ⟨xn,xr⟩).toArray⟩) W:=fun W=>by have:=Y5 (xk.toList++[32,35]) ⟨(stL ⟨xn,xr⟩).toArray⟩ W (by rw[ZC (stL ⟨xn,xr⟩)];simp only[List.length_append,List.length_cons,List.length_nil];omega);rw[ZC (stL ⟨xn,xr⟩)] at this;rw[this,hid1,List.append_assoc];rfl
    have HK2:=Jh (rfl:xk.toList++idL ⟨xn,xr⟩=xk.toList++idL ⟨xn,xr⟩)
    obtain ⟨K2,hK2⟩:=Je (xk.toList++idL ⟨xn,xr⟩)
    rw[hK2] at hs2
    replace HK2:=Lib.hid hK2
    clear hK2
    generalize xk.toList++[32,35]=K1 at *
    have HT:Hid (Calls Tryz.prog 80 #[.agg #[.int .i64 xn,.int .i64 xr]] w1 fun e w'=>e=.returned (.string ⟨(stL ⟨xn,xr⟩).toArray⟩)∧Below w1.heap.size w1 w'):=Jh (Rg xn xr w1)
    generalize stL ⟨xn,xr⟩=SL at *
    clear hid1 hk5 x2 x3 x4 HLN HBIG
    go_wp2_with fail
    refine HT.out.mono ?_
    rintro e w4 ⟨rfl,b4⟩
    go_wp2_with fail
    go_meet
    exact ⟨by rw[HK2.out],Lib.hid b4⟩
  case rest =>
   obtain ⟨rfl,HB6⟩:=hcut
   clear HSB
   have HLN2:Hid (ZP ⟨xn,xr⟩ xk az t=(xk.toList++idL ⟨xn,xr⟩)++(az.flatMap Zm++t.flatMap pcL)):=Jh (by rw[HLN.out];simp only[List.append_assoc])
   generalize hLL:ZP ⟨xn,xr⟩ xk az t=LL at *
   have HLL:=Lib.hid hLL
   clear hLL
   generalize xk.toList++idL ⟨xn,xr⟩=A0 at *
   clear HLN x0 x1 x2
   go_wp2_with fail
   go_loopg [3,4] an (fun g sv iv wr=>∃ k:Nat,g=an - k∧k≤an∧iv=.int .i64 k∧sv=.string ⟨(A0++(az.take k).flatMap Zm).toArray⟩∧Hid (Below w1.heap.size w1 wr))
   case atStart=>exact ⟨0,by omega,by omega,rfl,by simp,HB6⟩
   case round =>
    obtain ⟨k,hg,hk,rfl,rfl,HB⟩:=hrel
    have HG:=Lib.hid hg
    clear hg
    have HBW:Hid (Below w.heap.size w wr):=Jh (HB0.out.trans (HB.out.mono (by have:=HZ1.out;omega)))
    have y3:=YT HB.out (by have:=HZ1.out;omega) x3
    by_cases hkl:k<an
    ·obtain ⟨⟨nm,vl⟩,hx⟩:∃ x,az[k]?=some x:=⟨_,List.getElem?_eq_getElem (by have:=HNN.out.1;omega)⟩
     obtain ⟨b,o,rfl,u0,u1⟩:=(HA.out.ext (Ext.of_below (S:=fun _=>False) HBW.out) (fun _ _ _ f=>f) (fun _=>Nat.zero_lt_succ 1)).atr2 hx
     have hkk:(k:Int)<(an:Int):=by omega
     have hft:=Y2 az Zm (k+1)
     rw[ZK Zm hx,List.length_append] at hft
     have hq2:=Xg vl.data.toList
     have hcat:[32]++nm.toList++[61]++Za vl.data.toList=Zm ⟨nm,vl⟩:=by simp[Zm,ByteArray.toList_eq]
     have hcl:(Zm ⟨nm,vl⟩).length=1+nm.toList.length+1+(Za vl.data.toList).length:=by rw[←hcat];simp only[List.length_append,List.length_singleton]
     have hvs:vl.size≤35184372088832∧A0.length+((az.take k).flatMap Zm).length+(Zm ⟨nm,vl⟩).length≤35184372088832:=by
      have h1:=HBIG.out
      rw[HLN2.out] at h1
      simp only[List.length_append] at h1
      have h2:vl.data.toList.length=vl.size:=by rw[Array.length_toList];rfl
      omega
     have hne:(A0++(az.take k).flatMap Zm)++[32]++nm.toList++[61]++Za vl.data.toList=A0++(az.take (k+1)).flatMap Zm:=by rw[ZK Zm hx,←hcat];simp only[List.append_assoc]
     have HNE:=Lib.hid hne
     have hlen:(A0++(az.take k).flatMap Zm).length+(1+nm.toList.length+1+(Za vl.data.toList).length)≤9223372036854775807:=by rw[List.length_append];omega
     generalize A0++(az.take k).flatMap Zm=A at *
     have hs1:∀ W,(Op.stringOp .add (⟨A.toArray⟩:ByteArray) ⟨#[32]⟩).run Tryz.prog W=.ok (.string ⟨(A++[32]).toArray⟩) W:=fun W=>by have:=Y5 A ⟨#[32]⟩ W (by rw[ZB ⟨#[32]⟩];show _+1≤_;omega);rw[show (⟨#[32]⟩:ByteArray).toList=[32] from ZC [32]] at this;exact this
     have hs2:∀ W,(Op.stringOp .add (⟨(A++[32]).toArray⟩:ByteArray) nm).run Tryz.prog W=.ok (.string ⟨(A++[32]++nm.toList).toArray⟩) W:=fun W=>Y5 _ _ W (by simp only[List.length_append,List.length_singleton];omega)
     have hs3:∀ W,(Op.stringOp .add (⟨(A++[32]++nm.toList).toArray⟩:ByteArray) ⟨#[61]⟩).run Tryz.prog W=.ok (.string ⟨(A++[32]++nm.toList++[61]).toArray⟩) W:=fun W=>by have:=Y5 (A++[32]++nm.toList) ⟨#[61]⟩ W (by rw[ZB ⟨#[61]⟩];show _+1≤_;simp only[List.length_append,List.length_singleton];omega);rw[show (⟨#[61]⟩:ByteArray).toList=[61] from ZC [61]] at this;exact this
     have hs4:∀ W,(Op.stringOp .add (⟨(A++[32]++nm.toList++[61]).toArray⟩:ByteArray) ⟨(Za vl.data.toList).toArray⟩).run Tryz.prog W=.ok (.string ⟨(A++[32]++nm.toList++[61]++Za vl.data.toList).toArray⟩) W:=fun W=>by have:=Y5 (A++[32]++nm.toList++[61]) ⟨(Za vl.data.toList).toArray⟩ W (by rw[ZC (Za vl.data.toList)];simp only[List.length_append,List.length_singleton];omega);rw[ZC (Za vl.data.toList)] at this;exact this
     have HQ:Hid (∀ W:World,Calls Tryz.prog 81 #[.string vl] W fun e w'=>e=.returned (.string ⟨(Za vl.data.toList).toArray⟩)∧Below W.heap.size W w'):=Jh (fun W=>Wm vl W hvs.1)
     generalize A++[32]++nm.toList++[61]++Za vl.data.toList=A4 at *
     generalize A++[32]++nm.toList++[61]=A3 at *
     generalize A++[32]++nm.toList=A2 at *
     generalize A++[32]=A1 at *
     generalize Za vl.data.toList=QL at *
     clear hx hvs hft hq2 hcat hcl hlen hne
     go_upto_region 7 with fail
     go_region_held3 (fun W=>W.cell? ⟨w.heap.size,3,none⟩=some (.slice (some ⟨b,o,none⟩) an ac)∧W.cell? ⟨b,o+k*2,none⟩=some (.string nm)∧W.cell? ⟨b,o+k*2+1,none⟩=some (.string vl)) (first|exact ⟨y3,u0,u1⟩|exact ⟨Z0 b5 y3,Z0 b5 u0,Z0 b5 u1⟩) (first|(go_at_call 81;((with_reducible refine (HQ.out _).mono ?_);rintro e w5 ⟨rfl,b5⟩;simp only[ZI,ZA] at b5)))
     go_wp2_with fail
     go_roundg (an - (k+1))
     case measure=>rw[HG.out];omega
     case rel=>exact ⟨k+1,rfl,hkl,by go_num,by rw[HNE.out],Jh (HB.out.trans (b5.mono HB.out.size))⟩
    ·have hkk:¬ ((k:Int)<(an:Int)):=by omega
     have hta:az.take k=az:=List.take_of_length_le (by have:=HNN.out.1;omega)
     rw[hta]
     have HB7:=Lib.hid HB.out
     have HLN3:Hid (LL=(A0++az.flatMap Zm)++t.flatMap pcL):=Jh (by rw[HLN2.out];simp only[List.append_assoc])
     generalize A0++az.flatMap Zm=A1 at *
     clear HB HG HLN2 HB6 HBW hta
     obtain ⟨w7,hw7⟩:∃ w7,w7=wr:=⟨_,rfl⟩
     subst hw7
     go_wp2_with fail
     go_loopg [3,5] tn (fun g sv iv wr=>∃ k:Nat,g=tn - k∧k≤tn∧iv=.int .i64 k∧sv=.string ⟨(A1++(t.take k).flatMap pcL).toArray⟩∧Hid (Below w1.heap.size w1 wr))
     case atStart=>exact ⟨0,by omega,by omega,rfl,by simp,HB7⟩
     case round =>
      obtain ⟨k,hg,hk,rfl,rfl,HB⟩:=hrel
      have HG:=Lib.hid hg
      clear hg
      have HBW:Hid (Below w.heap.size w wr):=Jh (HB0.out.trans (HB.out.mono (by have:=HZ1.out;omega)))
      have y4:=YT HB.out (by have:=HZ1.out;omega) x4
      by_cases hkl:k<tn
      ·obtain ⟨⟨tx,al⟩,hx⟩:∃ x,t[k]?=some x:=⟨_,List.getElem?_eq_getElem (by have:=HNN.out.2.1;omega)⟩
       obtain ⟨b,o,c5,ms,e5,-,-,u0,u1,hsl⟩:=HP.out.at hx
       injection e5 with e5 e6 e7
       clear e6 e7
       subst e5
       obtain ⟨ma,mn,mc⟩:=ms
       replace u0:=Z0 HBW.out u0
       replace u1:=Z0 HBW.out u1
       have hmn:mn=al.length∧al.length≤9223372036854775807:=by obtain ⟨a,c,e,h1,h2,_⟩:=hsl;injection e with _ e2 _;unfold maxLen at h2;exact ⟨e2,Nat.le_trans h1 h2⟩
       have HSL:=Lib.hid hsl
       have hmnn:mn≤9223372036854775807:=by omega
       have HMN:=Lib.hid hmn
       have hkk2:(k:Int)<(tn:Int):=by omega
       have hft:=Y2 t pcL (k+1)
       rw[ZK pcL hx,List.length_append] at hft
       have hpc:pcL (tx,al)=32 :: (al.flatMap Zl++Za tx.data.toList):=by unfold pcL;simp only[ByteArray.toList_eq]
       have hvs:(A1++(t.take k).flatMap pcL).length+(1+(al.flatMap Zl).length+(Za tx.data.toList).length)≤35184372088832:=by
        have h1:=HBIG.out
        rw[HLN3.out] at h1
        rw[hpc] at hft
        simp only[List.length_append,List.length_cons] at h1 hft ⊢
        omega
       have hnx:(A1++(t.take k).flatMap pcL)++[32]++al.flatMap Zl++Za tx.data.toList=A1++(t.take (k+1)).flatMap pcL:=by rw[ZK pcL hx,hpc];simp only[List.append_assoc];rfl
       have HNX:=Lib.hid hnx
       generalize hA:A1++(t.take k).flatMap pcL=A at *
       clear hA
       have hs1:∀ W,(Op.stringOp .add (⟨A.toArray⟩:ByteArray) ⟨#[32]⟩).run Tryz.prog W=.ok (.string ⟨(A++[32]).toArray⟩) W:=fun W=>by have:=Y5 A ⟨#[32]⟩ W (by rw[ZB ⟨#[32]⟩];show _+1≤_;omega);rw[show (⟨#[32]⟩:ByteArray).toList=[32] from ZC [32]] at this;exact this
       have HVS:Hid ((A++[32]).length+((al.flatMap Zl).length+(Za tx.data.toList).length)≤35184372088832):=Jh (by rw[List.length_append,List.length_singleton];omega)
       generalize A++[32]=A2 at *
       clear hx hvs hft hpc hsl hmn hnx
       obtain ⟨wo,hwo⟩:∃ wo,wo=wr:=⟨_,rfl⟩
       subst hwo
       go_wp2_with fail
       go_loopg [3,6] mn (fun g sv iv wr=>∃ j:Nat,g=mn - j∧j≤mn∧iv=.int .i64 j∧sv=.string ⟨(A2++(al.take j).flatMap Zl).toArray⟩∧Hid (Below w1.heap.size w1 wr)∧Hid (Below wo.heap.size wo wr))
       case atStart=>exact ⟨0,by omega,by omega,rfl,by simp,HB,Jh (Below.refl _ _)⟩
       case round =>
        obtain ⟨j,hg2,hj,rfl,rfl,HBr,HBo⟩:=hrel
        have HG2:=Lib.hid hg2
        clear hg2
        have z4:=Z0 HBo.out y4
        have v0:=Z0 HBo.out u0
        have v1:=Z0 HBo.out u1
        have HBW2:Hid (Below w.heap.size w wr):=Jh (HB0.out.trans (HBr.out.mono (by have:=HZ1.out;omega)))
        clear y4 u0 u1
        by_cases hjl:j<mn
        ·obtain ⟨⟨nm,vl⟩,hx⟩:∃ x,al[j]?=some x:=⟨_,List.getElem?_eq_getElem (by have:=HMN.out.1;omega)⟩
         obtain ⟨b2,o2,rfl,u0,u1⟩:=(show Zf (fun _=>True) Atr.cells 2 wr (.slice ma mn mc) al from ⟨HSL.out.below HBW2.out,fun _ _ _ _ _ _=>trivial⟩).atr2 hx
         have hjj:(j:Int)<(mn:Int):=by omega
         have hft:=Y2 al Zl (j+1)
         rw[ZK Zl hx,List.length_append] at hft
         have hq2:=Xg vl.data.toList
         have hcat:nm.toList++[61]++Za vl.data.toList++[58]=Zl ⟨nm,vl⟩:=by simp[Zl,ByteArray.toList_eq]
         have hcl:(Zl ⟨nm,vl⟩).length=nm.toList.length+1+(Za vl.data.toList).length+1:=by rw[←hcat];simp only[List.length_append,List.length_singleton]
         have hvs:vl.size≤35184372088832∧A2.length+((al.take j).flatMap Zl).length+(Zl ⟨nm,vl⟩).length≤35184372088832:=by
          have h1:=HVS.out
          have h2:vl.data.toList.length=vl.size:=by rw[Array.length_toList];rfl
          omega
         have hne:(A2++(al.take j).flatMap Zl)++nm.toList++[61]++Za vl.data.toList++[58]=A2++(al.take (j+1)).flatMap Zl:=by rw[ZK Zl hx,←hcat];simp only[List.append_assoc]
         have HNE:=Lib.hid hne
         have hlen:(A2++(al.take j).flatMap Zl).length+(nm.toList.length+1+(Za vl.data.toList).length+1)≤9223372036854775807:=by rw[List.length_append];omega
         generalize A2++(al.take j).flatMap Zl=A at *
         have hs2:∀ W,(Op.stringOp .add (⟨A.toArray⟩:ByteArray) nm).run Tryz.prog W=.ok (.string ⟨(A++nm.toList).toArray⟩) W:=fun W=>Y5 _ _ W (by omega)
         have hs3:∀ W,(Op.stringOp .add (⟨(A++nm.toList).toArray⟩:ByteArray) ⟨#[61]⟩).run Tryz.prog W=.ok (.string ⟨(A++nm.toList++[61]).toArray⟩) W:=fun W=>by have:=Y5 (A++nm.toList) ⟨#[61]⟩ W (by rw[ZB ⟨#[61]⟩];show _+1≤_;simp only[List.length_append,List.length_singleton];omega);rw[show (⟨#[61]⟩:ByteArray).toList=[61] from ZC [61]] at this;exact this
         have hs4:∀ W,(Op.stringOp .add (⟨(A++nm.toList++[61]).toArray⟩:ByteArray) ⟨(Za vl.data.toList).toArray⟩).run Tryz.prog W=.ok (.string ⟨(A++nm.toList++[61]++Za vl.data.toList).toArray⟩) W:=fun W=>by have:=Y5 (A++nm.toList++[61]) ⟨(Za vl.data.toList).toArray⟩ W (by rw[ZC (Za vl.data.toList)];simp only[List.length_append,List.length_singleton];omega);rw[ZC (Za vl.data.toList)] at this;exact this
         have hs5:∀ W,(Op.stringOp .add (⟨(A++nm.toList++[61]++Za vl.data.toList).toArray⟩:ByteArray) ⟨#[58]⟩).run Tryz.prog W=.ok (.string ⟨(A++nm.toList++[61]++Za vl.data.toList++[58]).toArray⟩) W:=fun W=>by have:=Y5 (A++nm.toList++[61]++Za vl.data.toList) ⟨#[58]⟩ W (by rw[ZB ⟨#[58]⟩];show _+1≤_;simp only[List.length_append,List.length_singleton];omega);rw[show (⟨#[58]⟩:ByteArray).toList=[58] from ZC [58]] at this;exact this
         have HQ:Hid (∀ W:World,Calls Tryz.prog 81 #[.string vl] W fun e w'=>e=.returned (.string ⟨(Za vl.data.toList).toArray⟩)∧Below W.heap.size W w'):=Jh (fun W=>Wm vl W hvs.1)
         generalize A++nm.toList++[61]++Za vl.data.toList++[58]=A6 at *
         generalize A++nm.toList++[61]++Za vl.data.toList=A5 at *
         generalize A++nm.toList++[61]=A4 at *
         generalize A++nm.toList=A3 at *
         generalize Za vl.data.toList=QL at *
         clear hx hvs hft hq2 hcat hcl hlen hne
         go_upto_region 15 with fail
         go_region_held3 (fun W=>W.cell? ⟨w.heap.size,4,none⟩=some (.slice (some ⟨b,o,none⟩) tn tc)∧W.cell? ⟨b,o+k*2+1,none⟩=some (.slice (some ⟨b2,o2,none⟩) mn mc)∧W.cell? ⟨b2,o2+j*2,none⟩=some (.string nm)∧W.cell? ⟨b2,o2+j*2+1,none⟩=some (.string vl)) (first|exact ⟨z4,v1,u0,u1⟩|exact ⟨Z0 b5 z4,Z0 b5 v1,Z0 b5 u0,Z0 b5 u1⟩) (first|(go_at_call 81;((with_reducible refine (HQ.out _).mono ?_);rintro e w5 ⟨rfl,b5⟩;simp only[ZI,ZA] at b5)))
         go_wp2_with fail
         go_roundg (mn - (j+1))
         case measure=>rw[HG2.out];omega
         case rel=>exact ⟨j+1,rfl,hjl,by go_num,by rw[HNE.out],Jh (HBr.out.trans (b5.mono HBr.out.size)),Jh (HBo.out.trans (b5.mono HBo.out.size))⟩
        ·have hjj:¬ ((j:Int)<(mn:Int)):=by omega
         have htk:al.take j=al:=List.take_of_length_le (by have:=HMN.out.1;omega)
         rw[htk]
         have hqt:=Xg tx.data.toList
         have htx:tx.data.toList.length=tx.size:=by rw[Array.length_toList];rfl
         have hts:tx.size≤35184372088832:=by have:=HVS.out;omega
         have HTS:=Lib.hid hts
         have hs6:∀ W,(Op.stringOp .add (⟨(A2++al.flatMap Zl).toArray⟩:ByteArray) ⟨(Za tx.data.toList).toArray⟩).run Tryz.prog W=.ok (.string ⟨(A2++al.flatMap Zl++Za tx.data.toList).toArray⟩) W:=fun W=>by have:=Y5 (A2++al.flatMap Zl) ⟨(Za tx.data.toList).toArray⟩ W (by rw[ZC (Za tx.data.toList)];have:=HVS.out;rw[List.length_append];omega);rw[ZC (Za tx.data.toList)] at this;exact this
         have HQ:=Jh (Wm tx wr hts)
         generalize A2++al.flatMap Zl++Za tx.data.toList=A8 at *
         generalize A2++al.flatMap Zl=A7 at *
         generalize Za tx.data.toList=QL at *
         clear hqt htx hts htk
         go_wp2_with fail
         refine HQ.out.mono ?_
         rintro e w12 ⟨rfl,b12⟩
         go_wp2_with fail
         go_roundg (tn - (k+1))
         case measure=>rw[HG.out];omega
         case rel=>exact ⟨k+1,rfl,hkl,by go_num,by rw[HNX.out],Jh (HBr.out.trans (b12.mono HBr.out.size))⟩
      ·have hkk2:¬ ((k:Int)<(tn:Int)):=by omega
       have hte:A1++(t.take k).flatMap pcL=LL:=by rw[List.take_of_length_le (by have:=HNN.out.2.1;omega)];exact HLN3.out.symm
       rw[hte]
       clear hte
       go_wp2_with fail
       go_ret
       exact ⟨by rw[HLL.out];rfl,HBW.out⟩
end Go.Proofs.YtlgipkemoldckaaGreatDoor
namespace Go.Proofs.YtlgipkemoldckaaGreatDoor
open Go.RowKit
def NdV.val (x:NdV):Value:=.agg #[.int .i64 x.id.n,.int .i64 x.id.r,.string x.kind,.slice x.attrs.a x.attrs.n x.attrs.cap,.slice x.text.a x.text.n x.text.cap,.slice x.kids.a x.kids.n x.kids.cap]
theorem Zf.node6 {D:Nat→Prop} {W:World} {v:Value} {vs:List NdV} (h:Zf D NdV.cells 6 W v vs) {k:Nat} {y:NdV} (hk:vs[k]?=some y):∃ b o c,v=.slice (some ⟨b,o,none⟩) vs.length c ∧
  W.cell? ⟨b,o+k*6,none⟩=some (.int .i64 y.id.n)∧W.cell? ⟨b,o+k*6+1,none⟩=some (.int .i64 y.id.r)∧W.cell? ⟨b,o+k*6+2,none⟩=some (.string y.kind)∧W.cell? ⟨b,o+k*6+3,none⟩=some (.slice y.attrs.a y.attrs.n y.attrs.cap) ∧
  W.cell? ⟨b,o+k*6+4,none⟩=some (.slice y.text.a y.text.n y.text.cap)∧W.cell? ⟨b,o+k*6+5,none⟩=some (.slice y.kids.a y.kids.n y.kids.cap):=by
 obtain ⟨⟨a,c,rfl,_,_,hh⟩,_⟩:=h
 obtain ⟨b,o,rfl,h1⟩:=hh (by intro e;rw[e] at hk;simp at hk)
 have:=h1 k y hk
 exact ⟨b,o,c,rfl,this 0 _ rfl,this 1 _ rfl,this 2 _ rfl,this 3 _ rfl,this 4 _ rfl,this 5 _ rfl⟩
theorem Zf.shp {α:Type} {D:Nat→Prop} {ea:α→List Value} {k:Nat} {W:World} {s:Sl} {l:List α} (h:Zf D ea k W (.slice s.a s.n s.cap) l):s.n=l.length∧l.length≤maxLen:=by
 obtain ⟨⟨a,c,e,h1,h2,_⟩,_⟩:=h
 injection e with _ e2 _
 exact ⟨e2,Nat.le_trans h1 h2⟩
theorem ZN.below {D:Nat→Prop} {W W':World} {u:Value} {P:Pcs} (h:ZN D W u P) (hb:Below W.heap.size W W'):ZN D W' u P:=h.ext (Ext.of_below (S:=fun _=>False) hb) (fun _ _ _ f=>f)
theorem Zf.below {α:Type} {D:Nat→Prop} {ea:α→List Value} {k:Nat} {W W':World} {v:Value} {l:List α} (h:Zf D ea k W v l) (hb:Below W.heap.size W W') (hk:∀ x,0<(ea x).length):Zf D ea k W' v l:=h.ext (Ext.of_below (S:=fun _=>False) hb) (fun _ _ _ f=>f) hk
def T4 (n:Nd):Prop:=∀ (m:Nd) (b:Bool) (D1 D2:Nat→Prop) (x y:NdV) (w:World),(b=true↔n=m)→Zh D1 w x n→Zh D2 w y m →
 Calls Tryz.prog 15 #[x.val,y.val] w fun e w'=>e=.returned (.bool b)∧Below w.heap.size w w'
theorem S4 (xn xr yn yr:Int) (xk yk:ByteArray) (xa xt xs ya yt ys:Sl) (az az':List Atr) (t t':Pcs) (vs vs':List NdV) (l l':List Nd) (D1 D2:Nat→Prop) (b:Bool) (w:World)
  (hb:b=true↔(xn=yn∧xr=yr∧xk=yk∧az=az'∧t=t'∧l=l')) (ha1:Zf D1 Atr.cells 2 w (.slice xa.a xa.n xa.cap) az) (ha2:Zf D2 Atr.cells 2 w (.slice ya.a ya.n ya.cap) az')
  (hp1:ZN D1 w (.slice xt.a xt.n xt.cap) t) (hp2:ZN D2 w (.slice yt.a yt.n yt.cap) t') (hs1:Zf D1 NdV.cells 6 w (.slice xs.a xs.n xs.cap) vs) (hs2:Zf D2 NdV.cells 6 w (.slice ys.a ys.n ys.cap) vs')
  (hn1:Zc D1 w vs l) (hn2:Zc D2 w vs' l') (ih:∀ n∈l,T4 n) :
  Calls Tryz.prog 15 #[.agg #[.int .i64 xn,.int .i64 xr,.string xk,.slice xa.a xa.n xa.cap,.slice xt.a xt.n xt.cap,.slice xs.a xs.n xs.cap],.agg #[.int .i64 yn,.int .i64 yr,.string yk,.slice ya.a ya.n ya.cap,.slice yt.a yt.n yt.cap,.slice ys.a ys.n ys.cap]] w fun e w'=>e=.returned (.bool b)∧Below w.heap.size w w':=by
 have hxn:=hs1.shp
 have hyn:=hs2.shp
 have hl1:=hn1.1
 have hl2:=hn2.1
 unfold maxLen at hxn hyn
 have hB0:Below w.heap.size w ((w.alloc (.cells #[.int .i64 xn,.int .i64 xr,.string xk,.slice xa.a xa.n xa.cap,.slice xt.a xt.n xt.cap,.slice xs.a xs.n xs.cap] 28)).alloc (.cells #[.int .i64 yn,.int .i64 yr,.string yk,.slice ya.a ya.n ya.cap,.slice yt.a yt.n yt.cap,.slice ys.a ys.n ys.cap] 28)):=((Below.refl _ _).alloc (Nat.le_refl _) _).alloc (by simp) _
 have hz1:((w.alloc (.cells #[.int .i64 xn,.int .i64 xr,.string xk,.slice xa.a xa.n xa.cap,.slice xt.a xt.n xt.cap,.slice xs.a xs.n xs.cap] 28)).alloc (.cells #[.int .i64 yn,.int .i64 yr,.string yk,.slice ya.a ya.n ya.cap,.slice yt.a yt.n yt.cap,.slice ys.a ys.n ys.cap] 28)).heap.size=w.heap.size+2:=by simp
 have x0:((w.alloc (.cells #[.int .i64 xn,.int .i64 xr,.string xk,.slice xa.a xa.n xa.cap,.slice xt.a xt.n xt.cap,.slice xs.a xs.n xs.cap] 28)).alloc (.cells #[.int .i64 yn,.int .i64 yr,.string yk,.slice ya.a ya.n ya.cap,.slice yt.a yt.n yt.cap,.slice ys.a ys.n ys.cap] 28)).cell? ⟨w.heap.size,0,none⟩=some (.int .i64 xn):=by go_simp
 have x1:((w.alloc (.cells #[.int .i64 xn,.int .i64 xr,.string xk,.slice xa.a xa.n xa.cap,.slice xt.a xt.n xt.cap,.slice xs.a xs.n xs.cap] 28)).alloc (.cells #[.int .i64 yn,.int .i64 yr,.string yk,.slice ya.a ya.n ya.cap,.slice yt.a yt.n yt.cap,.slice ys.a ys.n ys.cap] 28)).cell? ⟨w.heap.size,1,none⟩=some (.int .i64 xr):=by go_simp
 have x2:((w.alloc (.cells #[.int .i64 xn,.int .i64 xr,.string xk,.slice xa.a xa.n xa.cap,.slice xt.a xt.n xt.cap,.slice xs.a xs.n xs.cap] 28)).alloc (.cells #[.int .i64 yn,.int .i64 yr,.string yk,.slice ya.a ya.n ya.cap,.slice yt.a yt.n yt.cap,.slice ys.a ys.n ys.cap] 28)).cell? ⟨w.heap.size,2,none⟩=some (.string xk):=by go_simp
 have x3:((w.alloc (.cells #[.int .i64 xn,.int .i64 xr,.string xk,.slice xa.a xa.n xa.cap,.slice xt.a xt.n xt.cap,.slice xs.a xs.n xs.cap] 28)).alloc (.cells #[.int .i64 yn,.int .i64 yr,.string yk,.slice ya.a ya.n ya.cap,.slice yt.a yt.n yt.cap,.slice ys.a ys.n ys.cap] 28)).cell? ⟨w.heap.size,3,none⟩=some (.slice xa.a xa.n xa.cap):=by go_simp
 have x4:((w.alloc (.cells #[.int .i64 xn,.int .i64 xr,.string xk,.slice xa.a xa.n xa.cap,.slice xt.a xt.n xt.cap,.slice xs.a xs.n xs.cap] 28)).alloc (.cells #[.int .i64 yn,.int .i64 yr,.string yk,.slice ya.a ya.n ya.cap,.slice yt.a yt.n yt.cap,.slice ys.a ys.n ys.cap] 28)).cell? ⟨w.heap.size,4,none⟩=some (.slice xt.a xt.n xt.cap):=by go_simp
 have x5:((w.alloc (.cells #[.int .i64 xn,.int .i64 xr,.string xk,.slice xa.a xa.n xa.cap,.slice xt.a xt.n xt.cap,.slice xs.a xs.n xs.cap] 28)).alloc (.cells #[.int .i64 yn,.int .i64 yr,.string yk,.slice ya.a ya.n ya.cap,.slice yt.a yt.n yt.cap,.slice ys.a ys.n ys.cap] 28)).cell? ⟨w.heap.size,5,none⟩=some (.slice xs.a xs.n xs.cap):=by go_simp
 have y0:((w.alloc (.cells #[.int .i64 xn,.int .i64 xr,.string xk,.slice xa.a xa.n xa.cap,.slice xt.a xt.n xt.cap,.slice xs.a xs.n xs.cap] 28)).alloc (.cells #[.int .i64 yn,.int .i64 yr,.string yk,.slice ya.a ya.n ya.cap,.slice yt.a yt.n yt.cap,.slice ys.a ys.n ys.cap] 28)).cell? ⟨w.heap.size+1,0,none⟩=some (.int .i64 yn):=by go_simp
 have y1:((w.alloc (.cells #[.int .i64 xn,.int .i64 xr,.string xk,.slice xa.a xa.n xa.cap,.slice xt.a xt.n xt.cap,.slice xs.a xs.n xs.cap] 28)).alloc (.cells #[.int .i64 yn,.int .i64 yr,.string yk,.slice ya.a ya.n ya.cap,.slice yt.a yt.n yt.cap,.slice ys.a ys.n ys.cap] 28)).cell? ⟨w.heap.size+1,1,none⟩=some (.int .i64 yr):=by go_simp
 have y2:((w.alloc (.cells #[.int .i64 xn,.int .i64 xr,.string xk,.slice xa.a xa.n xa.cap,.slice xt.a xt.n xt.cap,.slice xs.a xs.n xs.cap] 28)).alloc (.cells #[.int .i64 yn,.int .i64 yr,.string yk,.slice ya.a ya.n ya.cap,.slice yt.a yt.n yt.cap,.slice ys.a ys.n ys.cap] 28)).cell? ⟨w.heap.size+1,2,none⟩=some (.string yk):=by go_simp
 have y3:((w.alloc (.cells #[.int .i64 xn,.int .i64 xr,.string xk,.slice xa.a xa.n xa.cap,.slice xt.a xt.n xt.cap,.slice xs.a xs.n xs.cap] 28)).alloc (.cells #[.int .i64 yn,.int .i64 yr,.string yk,.slice ya.a ya.n ya.cap,.slice yt.a yt.n yt.cap,.slice ys.a ys.n ys.cap] 28)).cell? ⟨w.heap.size+1,3,none⟩=some (.slice ya.a ya.n ya.cap):=by go_simp
 have y4:((w.alloc (.cells #[.int .i64 xn,.int .i64 xr,.string xk,.slice xa.a xa.n xa.cap,.slice xt.a xt.n xt.cap,.slice xs.a xs.n xs.cap] 28)).alloc (.cells #[.int .i64 yn,.int .i64 yr,.string yk,.slice ya.a ya.n ya.cap,.slice yt.a yt.n yt.cap,.slice ys.a ys.n ys.cap] 28)).cell? ⟨w.heap.size+1,4,none⟩=some (.slice yt.a yt.n yt.cap):=by go_simp
 have y5:((w.alloc (.cells #[.int .i64 xn,.int .i64 xr,.string xk,.slice xa.a xa.n xa.cap,.slice xt.a xt.n xt.cap,.slice xs.a xs.n xs.cap] 28)).alloc (.cells #[.int .i64 yn,.int .i64 yr,.string yk,.slice ya.a ya.n ya.cap,.slice yt.a yt.n yt.cap,.slice ys.a ys.n ys.cap] 28)).cell? ⟨w.heap.size+1,5,none⟩=some (.slice ys.a ys.n ys.cap):=by go_simp
 have H1:=Jh (And.intro ha1 (And.intro hp1 (And.intro hs1 hn1)))
 have H2:=Jh (And.intro ha2 (And.intro hp2 (And.intro hs2 hn2)))
 have IH:=Lib.hid ih
 have HBB:=Lib.hid hb
 have HB0:=Lib.hid hB0
 obtain ⟨sa,hsa⟩:=Je (decide (az=az'))
 obtain ⟨st,hst⟩:=Je (decide (t=t'))
 have HA:Hid (∀ (W:World),Below w.heap.size w W→Calls Tryz.prog 33 #[.slice xa.a xa.n xa.cap,.slice ya.a ya.n ya.cap] W fun e w'=>e=.returned (.bool sa)∧Below W.heap.size W w'):=Jh (fun W g=>by rw[←hsa];exact Tw _ _ az az' W (ha1.1.below g) (ha2.1.below g))
 have HT:Hid (∀ (W:World),Below w.heap.size w W→Calls Tryz.prog 34 #[.slice xt.a xt.n xt.cap,.slice yt.a yt.n yt.cap] W fun e w'=>e=.returned (.bool st)∧Below W.heap.size W w'):=Jh (fun W g=>by rw[←hst];exact Te D1 D2 _ _ t t' W (hp1.below g) (hp2.below g))
 have HSA:=Lib.hid hsa
 have HST:=Lib.hid hst
 have HL:=Jh (And.intro hxn (And.intro hyn (And.intro hl1 hl2)))
 clear ha1 ha2 hp1 hp2 hs1 hs2 hn1 hn2 ih hb hsa hst hB0 hl1 hl2 hxn hyn
 have no:¬ (xn=yn∧xr=yr∧xk=yk∧az=az'∧t=t'∧l=l')→b=false:=fun h=>by
  cases b with
  | false=>rfl
  | true=>exact absurd (HBB.out.1 rfl) h
 have NO:=Lib.hid no
 clear no
 go_enter Tryz.func15,Tryz.ntmps15
 go_upto_region 1 with fail
 generalize ((w.alloc (.cells #[.int .i64 xn,.int .i64 xr,.string xk,.slice xa.a xa.n xa.cap,.slice xt.a xt.n xt.cap,.slice xs.a xs.n xs.cap] 28)).alloc (.cells #[.int .i64 yn,.int .i64 yr,.string yk,.slice ya.a ya.n ya.cap,.slice yt.a yt.n yt.cap,.slice ys.a ys.n ys.cap] 28))=w1 at *
 go_wp2_with fail
 refine (HA.out w1 HB0.out).mono ?_
 rintro e w2 ⟨rfl,b2⟩
 have hB2:=HB0.out.trans (b2.mono HB0.out.size)
 replace x0:=Z0 b2 x0
 replace x1:=Z0 b2 x1
 replace x2:=Z0 b2 x2
 replace x3:=Z0 b2 x3
 replace x4:=Z0 b2 x4
 replace x5:=Z0 b2 x5
 replace y0:=Z0 b2 y0
 replace y1:=Z0 b2 y1
 replace y2:=Z0 b2 y2
 replace y3:=Z0 b2 y3
 replace y4:=Z0 b2 y4
 replace y5:=Z0 b2 y5
 have HB2:=Lib.hid hB2
 have hz2:=b2.size
 clear b2 hB2
 go_upto_region 2 with fail
 go_wp2_with fail
 refine (HT.out w2 HB2.out).mono ?_
 rintro e w3 ⟨rfl,b3⟩
 have hB3:=HB2.out.trans (b3.mono HB2.out.size)
 replace x0:=Z0 b3 x0
 replace x1:=Z0 b3 x1
 replace x2:=Z0 b3 x2
 replace x3:=Z0 b3 x3
 replace x4:=Z0 b3 x4
 replace x5:=Z0 b3 x5
 replace y0:=Z0 b3 y0
 replace y1:=Z0 b3 y1
 replace y2:=Z0 b3 y2
 replace y3:=Z0 b3 y3
 replace y4:=Z0 b3 y4
 replace y5:=Z0 b3 y5
 have HB3:=Lib.hid hB3
 have hz3:=b3.size
 clear b3 hB3
 go_upto_region 3 with fail
 by_cases e1:¬ (xn=yn)
 ·have hbf:=NO.out (fun h=>e1 h.1)
  subst hbf
  go_wp2_with fail
  go_ret
  exact ⟨rfl,HB3.out⟩
 replace e1:=Classical.not_not.1 e1
 subst e1
 by_cases e2:¬ (xr=yr)
 ·have hbf:=NO.out (fun h=>e2 h.2.1)
  subst hbf
  go_wp2_with fail
  go_ret
  exact ⟨rfl,HB3.out⟩
 replace e2:=Classical.not_not.1 e2
 subst e2
 by_cases e3:¬ (xk=yk)
 ·have hbf:=NO.out (fun h=>e3 h.2.2.1)
  have e3b:(xk.toList == yk.toList)=false:=by simpa using fun e=>e3 ((ZT _ _).1 e)
  subst hbf
  clear e3
  go_wp2_with fail
  go_ret
  exact ⟨rfl,HB3.out⟩
 replace e3:=Classical.not_not.1 e3
 subst e3
 cases sa with
 | false =>
  have hbf:=NO.out (fun h=>by have:=HSA.out;rw[decide_eq_false_iff_not] at this;exact this h.2.2.2.1)
  subst hbf
  go_wp2_with fail
  go_ret
  exact ⟨rfl,HB3.out⟩
 | true =>
  cases st with
  | false =>
   have hbf:=NO.out (fun h=>by have:=HST.out;rw[decide_eq_false_iff_not] at this;exact this h.2.2.2.2.1)
   subst hbf
   go_wp2_with fail
   go_ret
   exact ⟨rfl,HB3.out⟩
  | true =>
   have haz:az=az':=by have:=HSA.out;rwa [decide_eq_true_eq] at this
   have htt:t=t':=by have:=HST.out;rwa [decide_eq_true_eq] at this
   have HEQ:=Jh (And.intro haz htt)
   clear haz htt
   by_cases hll:¬ (xs.n=ys.n)
   ·have hbf:=NO.out (fun h=>hll (by rw[HL.out.1.1,HL.out.2.1.1,HL.out.2.2.1,HL.out.2.2.2,h.2.2.2.2.2]))
    have hl9:(((xs.n:Nat):Int) != ((ys.n:Nat):Int))=true:=by simp;omega
    subst hbf
    clear hll
    go_wp2_with fail
    go_ret
    exact ⟨rfl,HB3.out⟩
   replace hll:=Classical.not_not.1 hll
   have hl9:(((xs.n:Nat):Int) != ((ys.n:Nat):Int))=false:=by simp[hll]
   have HLL:=Lib.hid hll
   clear hll
   have hxm:xs.n≤9223372036854775807:=by have:=HL.out.1;omega
   skip
   go_wp2_with fail
   go_loopg [7] xs.n (fun g iv wr=>∃ k:Nat,g=xs.n - k∧k≤xs.n∧iv=.int .i64 k∧Hid (∀ j,j<k→l[j]?=l'[j]?)∧Hid (Below w3.heap.size w3 wr))
   case atStart=>exact ⟨0,by omega,by omega,rfl,Jh (fun j hj=>absurd hj (by omega)),Jh (Below.refl _ _)⟩
   case round =>
    obtain ⟨k,hg,hk,rfl,HP,HB⟩:=hrel
    have HG:=Lib.hid hg
    clear hg
    replace x5:=Z0 HB.out x5
    replace y5:=Z0 HB.out y5
    have HBW:=Jh (HB3.out.trans (HB.out.mono HB3.out.size))
    by_cases hkl:k<xs.n
    ·have hkx:k<vs.length:=by have:=HL.out.1.1;omega
     have hky:k<vs'.length:=by have:=HL.out.2.1.1;have:=HLL.out;omega
     obtain ⟨x,hx⟩:∃ x,vs[k]?=some x:=⟨_,List.getElem?_eq_getElem hkx⟩
     obtain ⟨y,hy⟩:∃ x,vs'[k]?=some x:=⟨_,List.getElem?_eq_getElem hky⟩
     obtain ⟨p,hp⟩:∃ x,l[k]?=some x:=⟨_,List.getElem?_eq_getElem (by have:=HL.out.2.2.1;omega)⟩
     obtain ⟨q,hq⟩:∃ x,l'[k]?=some x:=⟨_,List.getElem?_eq_getElem (by have:=HL.out.2.2.2;omega)⟩
     obtain ⟨ba,oa,ca,ea,u0,u1,u2,u3,u4,u5⟩:=(H1.out.2.2.1.below HBW.out (fun _=>Nat.zero_lt_succ 5)).node6 hx
     obtain ⟨bb,ob,cb,eb,v0,v1,v2,v3,v4,v5⟩:=(H2.out.2.2.1.below HBW.out (fun _=>Nat.zero_lt_succ 5)).node6 hy
     injection ea with ea1 ea2 ea3
     injection eb with eb1 eb2 eb3
     rw[ea1] at x5
     rw[eb1] at y5
     have hNx:=(H1.out.2.2.2.2 k x p hx hp).belowW HBW.out
     have hNy:=(H2.out.2.2.2.2 k y q hy hq).belowW HBW.out
     obtain ⟨sm,hsm⟩:∃ sm:Bool,(sm=true↔p=q):=by
      by_cases e:p=q
      ·exact ⟨true,by simp[e]⟩
      ·exact ⟨false,by simp[e]⟩
     have HC:Hid (∀ (W:World),Below wr.heap.size wr W→Calls Tryz.prog 15 #[x.val,y.val] W fun e w'=>e=.returned (.bool sm)∧Below W.heap.size W w'):=Jh (fun W g=>IH.out p (List.mem_of_getElem? hp) q sm D1 D2 x y W hsm (hNx.belowW g) (hNy.belowW g))
     unfold NdV.val at HC
     have HPQ:=Jh (And.intro hp (And.intro hq hsm))
     clear ea1 ea2 ea3 eb1 eb2 eb3 hx hy hNx hNy hp hq hsm
     have hkk:(k:Int)<(xs.n:Int):=by omega
     have hkq:(k:Int)<(ys.n:Int):=by have:=HLL.out;omega
     go_upto_region 8 with fail
     go_region_held3 (fun W=>W.cell? ⟨w.heap.size,5,none⟩=some (.slice (some ⟨ba,oa,none⟩) xs.n xs.cap)∧W.cell? ⟨w.heap.size+1,5,none⟩=some (.slice (some ⟨bb,ob,none⟩) ys.n ys.cap)∧W.cell? ⟨ba,oa+k*6,none⟩=some (.int .i64 x.id.n)∧W.cell? ⟨ba,oa+k*6+1,none⟩=some (.int .i64 x.id.r)∧W.cell? ⟨ba,oa+k*6+2,none⟩=some (.string x.kind)∧W.cell? ⟨ba,oa+k*6+3,none⟩=some (.slice x.attrs.a x.attrs.n x.attrs.cap)∧W.cell? ⟨ba,oa+k*6+4,none⟩=some (.slice x.text.a x.text.n x.text.cap)∧W.cell? ⟨ba,oa+k*6+5,none⟩=some (.slice x.kids.a x.kids.n x.kids.cap)∧W.cell? ⟨bb,ob+k*6,none⟩=some (.int .i64 y.id.n)∧W.cell? ⟨bb,ob+k*6+1,none⟩=some (.int .i64 y.id.r)∧W.cell? ⟨bb,ob+k*6+2,none⟩=some (.string y.kind)∧W.cell? ⟨bb,ob+k*6+3,none⟩=some (.slice y.attrs.a y.attrs.n y.attrs.cap)∧W.cell? ⟨bb,ob+k*6+4,none⟩=some (.slice y.text.a y.text.n y.text.cap)∧W.cell? ⟨bb,ob+k*6+5,none⟩=some (.slice y.kids.a y.kids.n y.kids.cap)) (first|exact ⟨x5,y5,u0,u1,u2,u3,u4,u5,v0,v1,v2,v3,v4,v5⟩|exact ⟨Z0 b5 x5,Z0 b5 y5,Z0 b5 u0,Z0 b5 u1,Z0 b5 u2,Z0 b5 u3,Z0 b5 u4,Z0 b5 u5,Z0 b5 v0,Z0 b5 v1,Z0 b5 v2,Z0 b5 v3,Z0 b5 v4,Z0 b5 v5⟩) ((go_at_call 15;((with_reducible refine (HC.out _ ?hbw).mono ?_) <;> first|(rintro e w5 ⟨rfl,b5⟩;simp only[ZI,ZA] at b5)|exact (Below.refl _ _).drew)))
     have HB5:=Jh (HBW.out.trans (b5.mono HBW.out.size))
     have HB6:Hid (Below w3.heap.size w3 w5):=Jh (HB.out.trans (b5.mono HB.out.size))
     cases sm with
     | false =>
      have hbf:=NO.out (fun h=>by
       have e1:=HPQ.out.1
       rw[h.2.2.2.2.2,HPQ.out.2.1] at e1
       have:=HPQ.out.2.2.2 (Option.some.inj e1).symm
       cases this)
      subst hbf
      go_wp2_with fail
      go_ret
      exact ⟨rfl,HB5.out⟩
     | true =>
      have HN2:Hid (∀ j,j<k+1→l[j]?=l'[j]?):=Jh (fun j hj=>by
       by_cases hjk:j<k
       ·exact HP.out j hjk
       ·have:j=k:=by omega
        subst this
        rw[HPQ.out.1,HPQ.out.2.1,HPQ.out.2.2.1 rfl])
      go_wp2_with fail
      go_roundg (xs.n - (k+1))
      case measure=>rw[HG.out];omega
      case rel=>exact ⟨k+1,rfl,by omega,by go_num,HN2,HB6⟩
    ·have hll9:l.length=l'.length:=by rw[←HL.out.2.2.1,←HL.out.2.2.2,←HL.out.1.1,←HL.out.2.1.1];exact HLL.out
     have hbt:b=true:=HBB.out.2 ⟨by first|exact trivial|rfl,by first|exact trivial|rfl,by first|exact trivial|rfl,HEQ.out.1,HEQ.out.2,Wv hll9 HP.out (by have:=HL.out.1.1;have:=HL.out.2.2.1;omega)⟩
     have hkk:¬ ((k:Int)<(xs.n:Int)):=by omega
     subst hbt
     clear hll9
     go_wp2_with fail
     go_ret
     exact ⟨rfl,HBW.out⟩
theorem Sm (n:Nd):T4 n:=by
 induction n using Nd.ind with
 | _ i k az t l ih =>
  rintro ⟨i',k',az',t',l'⟩ b D1 D2 x y w hb h1 h2
  obtain ⟨e1,e2,ha,hp,vs,hs,hn⟩:=h1.parts
  obtain ⟨e1',e2',ha',hp',vs',hs',hn'⟩:=h2.parts
  obtain ⟨⟨xn,xr⟩,xk,xa,xt,xs⟩:=x
  obtain ⟨⟨yn,yr⟩,yk,ya,yt,ys⟩:=y
  simp only[Nd.id,Nd.kind,Nd.attrs,Nd.text,Nd.kids] at e1 e2 e1' e2' ha hp hn ha' hp' hn'
  subst e1 e2 e1' e2'
  refine S4 xn xr yn yr xk yk xa xt xs ya yt ys az az' t t' vs vs' l l' D1 D2 b w ?_ ha ha' hp hp' hs hs' hn hn' ih
  rw[hb]
  simp only[Nd.mk.injEq,St.mk.injEq]
  constructor
  ·rintro ⟨⟨h1,h2⟩,h3,h4,h5,h6⟩;exact ⟨h1,h2,h3,h4,h5,h6⟩
  ·rintro ⟨h1,h2,h3,h4,h5,h6⟩;exact ⟨⟨h1,h2⟩,h3,h4,h5,h6⟩
end Go.Proofs.YtlgipkemoldckaaGreatDoor
namespace Go.Proofs.YtlgipkemoldckaaGreatDoor
open Go.RowKit Go.Shelf
theorem Z06 (d:Nat):Lib.repeatL [32,32] d=List.replicate (2*d) (32:UInt8):=by
 induction d with
 | zero=>rfl
 | succ d ih=>rw[show 2*(d+1)=2*d+1+1 by omega,List.replicate_succ,List.replicate_succ,Lib.repeatL,ih];rfl
theorem SO (d:Nat) (w:World) (hd:d≤35184372088832) :
  Calls Tryz.prog 50 #[.string ⟨#[32,32]⟩,.int .i64 d] w fun e w'=>e=.returned (.string ⟨(List.replicate (2*d) (32:UInt8)).toArray⟩)∧Below w.heap.size w w':=by
 have:=Any.strings_Repeat Tryz.repF T5 ⟨#[32,32]⟩ d w (by omega) (by show 2*d≤_;omega)
 rw[show (⟨#[32,32]⟩:ByteArray).data.toList=[32,32] from rfl,Z06] at this
 exact this
theorem XT {d:Nat} {l:List Nd} {k:Nat} {n:Nd} (h:l[k]?=some n):txK d (l.take (k+1))=txK d (l.take k)++txN d n:=by
 have app:∀ (a:List Nd) (n:Nd),txK d (a++[n])=txK d a++txN d n:=fun a n=>by
  induction a with
  | nil=>rw[List.nil_append,txK,txK,txK,List.append_nil,List.nil_append]
  | cons m a ih=>rw[List.cons_append,txK,txK,ih,List.append_assoc]
 rw[List.take_add_one,h,Option.toList_some,app]
theorem Tr (d:Nat) (l:List Nd) (k:Nat):(txK d (l.take k)).length≤(txK d l).length:=by
 have app:∀ (a b:List Nd),txK d (a++b)=txK d a++txK d b:=fun a b=>by
  induction a with
  | nil=>rw[List.nil_append,txK,List.nil_append]
  | cons m a ih=>rw[List.cons_append,txK,txK,ih,List.append_assoc]
 conv=>rhs;rw[←List.take_append_drop k l]
 rw[app,List.length_append]
 omega
theorem XZ {B:Nat} {w w':World} (h:Below B w w'):Ext (fun k=>B≤k) w w':=⟨h.os,h.tape,h.output,h.size,fun k _ hn=>h.block k (by omega)⟩
def S6 (n:Nd):Prop:=∀ (B b d:Nat) (l:List UInt8) (D:Nat→Prop) (x:NdV) (w:World),BdF B b l w→Zh D w x n→(∀ k,D k→k<B)→Tc B w→B≤w.heap.size→l.length+(txN d n).length≤35184372088832 →
 Calls Tryz.prog 28 #[.pointer (some ⟨b,0,none⟩),x.val,.int .i64 d] w fun e w'=>XL B b l (txN d n) w e w'
theorem SR (B b d:Nat) (l:List UInt8) (D:Nat→Prop) (xn xr:Int) (xk:ByteArray) (aa ta sa:Option Addr) (an ac tn tc sn sc:Nat) (az:List Atr) (t:Pcs) (vs:List NdV) (ks:List Nd) (w:World) (hbd:BdF B b l w)
  (ha:Zf D Atr.cells 2 w (.slice aa an ac) az) (hp:ZN D w (.slice ta tn tc) t) (hs:Zf D NdV.cells 6 w (.slice sa sn sc) vs) (hn:Zc D w vs ks) (hD:∀ k,D k→k<B) (ht:Tc B w) (hB:B≤w.heap.size)
  (hbig:l.length+(List.replicate (2*d) (32:UInt8)++(ZP ⟨xn,xr⟩ xk az t++10 :: txK (d+1) ks)).length≤35184372088832) (ih:∀ n∈ks,S6 n) :
  Calls Tryz.prog 28 #[.pointer (some ⟨b,0,none⟩),.agg #[.int .i64 xn,.int .i64 xr,.string xk,.slice aa an ac,.slice ta tn tc,.slice sa sn sc],.int .i64 d] w fun e w'=>XL B b l (List.replicate (2*d) (32:UInt8)++(ZP ⟨xn,xr⟩ xk az t++10 :: txK (d+1) ks)) w e w':=by
 have hsn:sn=vs.length∧vs.length≤9223372036854775807:=by
  obtain ⟨⟨a,c,e,h1,h2,_⟩,_⟩:=hs
  injection e with _ e2 _
  unfold maxLen at h2
  exact ⟨e2,Nat.le_trans h1 h2⟩
 have hsnn:sn≤9223372036854775807:=by omega
 have hB0:Below w.heap.size w (w.alloc (.cells #[.int .i64 xn,.int .i64 xr,.string xk,.slice aa an ac,.slice ta tn tc,.slice sa sn sc] 28)):=(Below.refl _ _).alloc (Nat.le_refl _) _
 have hz1:(w.alloc (.cells #[.int .i64 xn,.int .i64 xr,.string xk,.slice aa an ac,.slice ta tn tc,.slice sa sn sc] 28)).heap.size=w.heap.size+1:=by simp
 have hnb:(w.alloc (.cells #[.int .i64 xn,.int .i64 xr,.string xk,.slice aa an ac,.slice ta tn tc,.slice sa sn sc] 28)).heap[w.heap.size]?=some (.cells #[.int .i64 xn,.int .i64 xr,.string xk,.slice aa an ac,.slice ta tn tc,.slice sa sn sc] 28):=World.alloc_heap_new w _
 have hdd:d≤17592186044416:=by simp only[List.length_append,List.length_replicate] at hbig;omega
 have HZ1:=Jh (And.intro hz1 (And.intro hB hsn))
 have HNB:=Lib.hid hnb
 have HB0:=Jh (hB0.mono hB)
 have HBD:=Jh (hbd.alloc (.cells #[.int .i64 xn,.int .i64 xr,.string xk,.slice aa an ac,.slice ta tn tc,.slice sa sn sc] 28))
 have HT:=Jh (ht.next (hB0.mono hB))
 have HI:=Jh (And.intro ha (And.intro hp (And.intro hs hn)))
 have HDD:=Lib.hid hD
 have HBIG:=Lib.hid hbig
 have HIH:=Lib.hid ih
 have HNE:Hid (w.heap.size≠b):=Jh (by have:=hbd.lt;omega)
 have HT0:Hid (∀ W,Below B w W→Yo W):=Lib.hid ht
 have HKA:Hid (KpO b w (w.alloc (.cells #[.int .i64 xn,.int .i64 xr,.string xk,.slice aa an ac,.slice ta tn tc,.slice sa sn sc] 28))):=Jh (KpO.of_below hB0)
 clear hz1 hB hsn hnb hB0 hbd ht ha hp hs hn hD hbig ih
 generalize hLL:ZP ⟨xn,xr⟩ xk az t=LL at *
 have HLL:=Lib.hid hLL
 clear hLL
 generalize hRR:List.replicate (2*d) (32:UInt8)=RR at *
 have HRR:=Lib.hid hRR
 clear hRR
 go_enter Tryz.func28,Tryz.ntmps28
 go_upto_region 1 with fail
 generalize (w.alloc (.cells #[.int .i64 xn,.int .i64 xr,.string xk,.slice aa an ac,.slice ta tn tc,.slice sa sn sc] 28))=w1 at *
 have hlen:=HBIG.out
 simp only[List.length_append,List.length_cons] at hlen
 go_wp2_with fail
 refine (SO d w1 (by omega)).mono ?_
 rintro e w2 ⟨rfl,b2⟩
 rw[HRR.out]
 have HB2:=Jh (HB0.out.trans (b2.mono (by have:=HZ1.out;omega)))
 have HK2:=Jh (KpO.of_below (b:=b) b2)
 have hz2:=HB2.out.size
 have HP2:=Jh (V3 B b l ⟨RR.toArray⟩ w2 (HBD.out.below b2) (by rw[Yn];omega) (by have:=HZ1.out;omega))
 clear b2 hz2
 go_wp2_with fail
 refine HP2.out.mono ?_
 rintro e w3 ⟨rfl,g1,g2,g3⟩
 try rw[UX] at g1
 have HD3:=Lib.hid g1
 have HB3:=Jh (HB2.out.trans g2)
 have HK3:=Jh (HK2.out.trans g3)
 clear g1 g2 g3 HP2 HB2 HK2 HBD
 have hnb3:=HK3.out.block HNB.out HNE.out (by decide)
 have y0:w3.cell? ⟨w.heap.size,0,none⟩=some (.int .i64 xn):=by rw[Lib.cell_of_heap hnb3];rfl
 have y1:w3.cell? ⟨w.heap.size,1,none⟩=some (.int .i64 xr):=by rw[Lib.cell_of_heap hnb3];rfl
 have y2:w3.cell? ⟨w.heap.size,2,none⟩=some (.string xk):=by rw[Lib.cell_of_heap hnb3];rfl
 have y3:w3.cell? ⟨w.heap.size,3,none⟩=some (.slice aa an ac):=by rw[Lib.cell_of_heap hnb3];rfl
 have y4:w3.cell? ⟨w.heap.size,4,none⟩=some (.slice ta tn tc):=by rw[Lib.cell_of_heap hnb3];rfl
 have y5:w3.cell? ⟨w.heap.size,5,none⟩=some (.slice sa sn sc):=by rw[Lib.cell_of_heap hnb3];rfl
 clear hnb3
 go_upto_region 2 with fail
 have HLINE:Hid (∀ W:World,Below B w W→Calls Tryz.prog 51 #[.agg #[.int .i64 xn,.int .i64 xr,.string xk,.slice aa an ac,.slice ta tn tc,.slice sa sn sc]] W fun e w'=>e=.returned (.string ⟨LL.toArray⟩)∧Below W.heap.size W w'):=Jh (fun W hW=>by
  rw[←HLL.out]
  exact Qv xn xr xk aa ta sa an ac tn tc sn sc az t D W (HI.out.1.ext (XZ hW) (fun q hq _ h=>by have:=HDD.out q hq;omega) (fun _=>Nat.zero_lt_succ 1)) (HI.out.2.1.ext (XZ hW) (fun q hq _ h=>by have:=HDD.out q hq;omega)) (HT0.out W hW) (by rw[HLL.out];omega))
 go_wp2_with fail
 refine (HLINE.out w3 HB3.out).mono ?_
 rintro e w4 ⟨rfl,b4⟩
 have HB4:=Jh (HB3.out.trans (b4.mono (by have:=HB3.out.size;have:=HZ1.out;omega)))
 have HK4:=Jh (HK3.out.trans (KpO.of_below b4))
 have HP4:=Jh (V3 B b (l++RR) ⟨LL.toArray⟩ w4 (HD3.out.below b4) (by rw[Yn,List.length_append];omega) (by have:=HB4.out.size;have:=HZ1.out;omega))
 clear b4
 go_wp2_with fail
 refine HP4.out.mono ?_
 rintro e w5 ⟨rfl,g1,g2,g3⟩
 try rw[UX] at g1
 have HD5:=Lib.hid g1
 have HB5:=Jh (HB4.out.trans g2)
 have HK5:=Jh (HK4.out.trans g3)
 clear g1 g2 g3 HP4 HB4 HK4 HD3 HB3 HK3 HLINE y0 y1 y2 y3 y4 y5
 go_upto_region 3 with fail
 have HP5:=Jh (V3 B b (l++RR++LL) ⟨#[10]⟩ w5 HD5.out (by show _+1≤_;rw[List.length_append,List.length_append];omega) (by have:=HB5.out.size;have:=HZ1.out;omega))
 go_wp2_with fail
 refine HP5.out.mono ?_
 rintro e w6 ⟨rfl,g1,g2,g3⟩
 have HD6:Hid (BdF B b (l++RR++LL++[10]) w6):=Lib.hid g1
 have HB6:=Jh (HB5.out.trans g2)
 have HK6:=Jh (HK5.out.trans g3)
 clear g1 g2 g3 HP5 HB5 HK5 HD5
 have hnb6:=HK6.out.block HNB.out HNE.out (by decide)
 have y5:w6.cell? ⟨w.heap.size,5,none⟩=some (.slice sa sn sc):=by rw[Lib.cell_of_heap hnb6];rfl
 clear hnb6
 have HLL2:Hid (l++(RR++(LL++10 :: txK (d+1) ks))=(l++RR++LL++[10])++txK (d+1) ks):=Jh (by simp)
 have HLEN:Hid ((l++RR++LL++[10]).length+(txK (d+1) ks).length≤35184372088832):=Jh (by simp only[List.length_append,List.length_singleton];omega)
 generalize l++RR++LL++[10]=A0 at *
 clear hlen
 go_wp2_with fail
 go_loopg [21] sn (fun g iv wr=>∃ k:Nat,g=sn - k∧k≤sn∧iv=.int .i64 k∧Hid (BdF B b (A0++txK (d+1) (ks.take k)) wr)∧Hid (Below B w wr)∧Hid (KpO b w1 wr))
 case atStart=>exact ⟨0,by omega,by omega,rfl,Jh (by rw[List.take_zero,txK,List.append_nil];exact HD6.out),HB6,HK6⟩
 case round =>
  obtain ⟨k,hg,hk,rfl,HD,HB,HK⟩:=hrel
  have HG:=Lib.hid hg
  clear hg
  by_cases hkl:k<sn
  ·obtain ⟨⟨⟨zn,zr⟩,zk,⟨a1,a2,a3⟩,⟨b1,b2,b3⟩,⟨c1,c2,c3⟩⟩,hx⟩:∃ x,vs[k]?=some x:=⟨_,List.getElem?_eq_getElem (by have:=HZ1.out;omega)⟩
   obtain ⟨m,hm⟩:∃ x,ks[k]?=some x:=⟨_,List.getElem?_eq_getElem (by have:=HZ1.out;have:=HI.out.2.2.2.1;omega)⟩
   obtain ⟨q,o,c,e5,u0,u1,u2,u3,u4,u5⟩:=(HI.out.2.2.1.ext (XZ HB.out) (fun q hq _ h=>by have:=HDD.out q hq;omega) (fun _=>Nat.zero_lt_succ 5)).node6 hx
   injection e5 with e5 e6 e7
   clear e6 e7
   subst e5
   simp only at u0 u1 u2 u3 u4 u5
   have hnd:=(HI.out.2.2.2.2 k _ m hx hm).ext (XZ HB.out) (fun q hq _ h=>by have:=HDD.out q hq;omega)
   have hkk:(k:Int)<(sn:Int):=by omega
   have hle:=Tr (d+1) ks (k+1)
   rw[XT hm,List.length_append] at hle
   have HW9B:Hid (Below B w (wr.alloc (.cells #[.int .i64 zn,.int .i64 zr,.string zk,.slice a1 a2 a3,.slice b1 b2 b3,.slice c1 c2 c3] 28))):=Jh (HB.out.alloc (by have:=HB.out.size;have:=HZ1.out;omega) _)
   have HC:Hid (Calls Tryz.prog 28 #[.pointer (some ⟨b,0,none⟩),.agg #[.int .i64 zn,.int .i64 zr,.string zk,.slice a1 a2 a3,.slice b1 b2 b3,.slice c1 c2 c3],.int .i64 ((d+1:Nat):Int)] (wr.alloc (.cells #[.int .i64 zn,.int .i64 zr,.string zk,.slice a1 a2 a3,.slice b1 b2 b3,.slice c1 c2 c3] 28)) fun e w'=>XL B b (A0++txK (d+1) (ks.take k)) (txN (d+1) m) (wr.alloc (.cells #[.int .i64 zn,.int .i64 zr,.string zk,.slice a1 a2 a3,.slice b1 b2 b3,.slice c1 c2 c3] 28)) e w'):=Jh (HIH.out m (List.mem_of_getElem? hm) B b (d+1) _ D ⟨⟨zn,zr⟩,zk,⟨a1,a2,a3⟩,⟨b1,b2,b3⟩,⟨c1,c2,c3⟩⟩ _ (HD.out.alloc _) (hnd.belowW ((Below.refl _ _).alloc (Nat.le_refl _) _)) HDD.out (fun W hW=>HT0.out W (HW9B.out.trans hW)) (by rw[World.size_alloc];have:=HB.out.size;have:=HZ1.out;omega) (by have:=HLEN.out;rw[List.length_append];omega))
   have HM:=Lib.hid hm
   have HK9:=Jh (HK.out.alloc (.cells #[.int .i64 zn,.int .i64 zr,.string zk,.slice a1 a2 a3,.slice b1 b2 b3,.slice c1 c2 c3] 28))
   clear hnd hle hm hx
   have z0:(wr.alloc (.cells #[.int .i64 zn,.int .i64 zr,.string zk,.slice a1 a2 a3,.slice b1 b2 b3,.slice c1 c2 c3] 28)).cell? ⟨wr.heap.size,0,none⟩=some (.int .i64 zn):=by go_simp
   have z1:(wr.alloc (.cells #[.int .i64 zn,.int .i64 zr,.string zk,.slice a1 a2 a3,.slice b1 b2 b3,.slice c1 c2 c3] 28)).cell? ⟨wr.heap.size,1,none⟩=some (.int .i64 zr):=by go_simp
   have z2:(wr.alloc (.cells #[.int .i64 zn,.int .i64 zr,.string zk,.slice a1 a2 a3,.slice b1 b2 b3,.slice c1 c2 c3] 28)).cell? ⟨wr.heap.size,2,none⟩=some (.string zk):=by go_simp
   have z3:(wr.alloc (.cells #[.int .i64 zn,.int .i64 zr,.string zk,.slice a1 a2 a3,.slice b1 b2 b3,.slice c1 c2 c3] 28)).cell? ⟨wr.heap.size,3,none⟩=some (.slice a1 a2 a3):=by go_simp
   have z4:(wr.alloc (.cells #[.int .i64 zn,.int .i64 zr,.string zk,.slice a1 a2 a3,.slice b1 b2 b3,.slice c1 c2 c3] 28)).cell? ⟨wr.heap.size,4,none⟩=some (.slice b1 b2 b3):=by go_simp
   have z5:(wr.alloc (.cells #[.int .i64 zn,.int .i64 zr,.string zk,.slice a1 a2 a3,.slice b1 b2 b3,.slice c1 c2 c3] 28)).cell? ⟨wr.heap.size,5,none⟩=some (.slice c1 c2 c3):=by go_simp
   go_upto_region 7 with fail
   generalize wr.alloc (.cells #[.int .i64 zn,.int .i64 zr,.string zk,.slice a1 a2 a3,.slice b1 b2 b3,.slice c1 c2 c3] 28)=w9 at *
   rw[show ((d+1:Nat):Int)=(d:Int)+1 from by omega] at HC
   go_wp2_with fail
   refine HC.out.mono ?_
   rintro e w10 ⟨rfl,g1,g2,g3⟩
   have HD10:Hid (BdF B b (A0++txK (d+1) (ks.take (k+1))) w10):=Jh (by rw[XT HM.out,←List.append_assoc];exact g1)
   have HB10:=Jh (HW9B.out.trans g2)
   have HK10:=Jh (HK9.out.trans g3)
   clear g1 g2 g3 HC
   go_wp2_with fail
   go_roundg (sn - (k+1))
   case measure=>rw[HG.out];omega
   case rel=>exact ⟨k+1,rfl,hkl,by go_num,HD10,HB10,HK10⟩
  ·have hkk:¬ ((k:Int)<(sn:Int)):=by omega
   have HD8:Hid (BdF B b (l++(RR++(LL++10 :: txK (d+1) ks))) wr):=Jh (by have:=HD.out;rw[List.take_of_length_le (by have:=HZ1.out;have:=HI.out.2.2.2.1;omega)] at this;rw[HLL2.out];exact this)
   have HF:Hid (XL B b l (RR++(LL++10 :: txK (d+1) ks)) w (.returned (.tuple #[])) wr):=Jh (⟨rfl,HD8.out,HB.out,HKA.out.trans HK.out⟩)
   go_wp2_with fail
   go_end0
   exact HF.out
theorem Rn (n:Nd):S6 n:=by
 induction n using Nd.ind with
 | _ i k az t ks ih =>
  intro B b d l D x w hbd hn hD ht hB hbig
  obtain ⟨e1,e2,ha,hp,vs,hs,hk⟩:=hn.parts
  obtain ⟨⟨xn,xr⟩,xk,⟨aa,an,ac⟩,⟨ta,tn,tc⟩,⟨sa,sn,sc⟩⟩:=x
  simp only[Nd.id,Nd.kind,Nd.attrs,Nd.text,Nd.kids] at e1 e2 ha hp hk
  subst e1 e2
  rw[txN] at hbig ⊢
  exact SR B b d l D xn xr xk aa ta sa an ac tn tc sn sc az t vs ks w hbd ha hp hs hk hD ht hB hbig ih
theorem XC (n:Nd) (D:Nat→Prop) (x:NdV) (w:World) (hn:Zh D w x n) (hD:∀ k,D k→k<w.heap.size) (ht:Yo w) (hbig:(txN 0 n).length≤35184372088832) :
  Calls Tryz.prog 12 #[x.val] w fun e w'=>e=.returned (.string ⟨(txN 0 n).toArray⟩)∧Below w.heap.size w w':=by
 obtain ⟨⟨xn,xr⟩,xk,⟨aa,an,ac⟩,⟨ta,tn,tc⟩,⟨sa,sn,sc⟩⟩:=x
 unfold NdV.val
 have hB0:Below w.heap.size w ((w.alloc (.cells #[.int .i64 xn,.int .i64 xr,.string xk,.slice aa an ac,.slice ta tn tc,.slice sa sn sc] 28)).alloc (.cells #[.pointer none,.slice none 0 0] 66)):=((Below.refl _ _).alloc (Nat.le_refl _) _).alloc (by simp) _
 have hz1:((w.alloc (.cells #[.int .i64 xn,.int .i64 xr,.string xk,.slice aa an ac,.slice ta tn tc,.slice sa sn sc] 28)).alloc (.cells #[.pointer none,.slice none 0 0] 66)).heap.size=w.heap.size+2:=by simp
 have hbd:BdF w.heap.size (w.heap.size+1) [] ((w.alloc (.cells #[.int .i64 xn,.int .i64 xr,.string xk,.slice aa an ac,.slice ta tn tc,.slice sa sn sc] 28)).alloc (.cells #[.pointer none,.slice none 0 0] 66)):=BdF.fresh (by omega) (by have:=World.alloc_heap_new (w.alloc (.cells #[.int .i64 xn,.int .i64 xr,.string xk,.slice aa an ac,.slice ta tn tc,.slice sa sn sc] 28)) (.cells #[.pointer none,.slice none 0 0] 66);rwa [World.size_alloc] at this)
 have x0:((w.alloc (.cells #[.int .i64 xn,.int .i64 xr,.string xk,.slice aa an ac,.slice ta tn tc,.slice sa sn sc] 28)).alloc (.cells #[.pointer none,.slice none 0 0] 66)).cell? ⟨w.heap.size,0,none⟩=some (.int .i64 xn):=by go_simp
 have x1:((w.alloc (.cells #[.int .i64 xn,.int .i64 xr,.string xk,.slice aa an ac,.slice ta tn tc,.slice sa sn sc] 28)).alloc (.cells #[.pointer none,.slice none 0 0] 66)).cell? ⟨w.heap.size,1,none⟩=some (.int .i64 xr):=by go_simp
 have x2:((w.alloc (.cells #[.int .i64 xn,.int .i64 xr,.string xk,.slice aa an ac,.slice ta tn tc,.slice sa sn sc] 28)).alloc (.cells #[.pointer none,.slice none 0 0] 66)).cell? ⟨w.heap.size,2,none⟩=some (.string xk):=by go_simp
 have x3:((w.alloc (.cells #[.int .i64 xn,.int .i64 xr,.string xk,.slice aa an ac,.slice ta tn tc,.slice sa sn sc] 28)).alloc (.cells #[.pointer none,.slice none 0 0] 66)).cell? ⟨w.heap.size,3,none⟩=some (.slice aa an ac):=by go_simp
 have x4:((w.alloc (.cells #[.int .i64 xn,.int .i64 xr,.string xk,.slice aa an ac,.slice ta tn tc,.slice sa sn sc] 28)).alloc (.cells #[.pointer none,.slice none 0 0] 66)).cell? ⟨w.heap.size,4,none⟩=some (.slice ta tn tc):=by go_simp
 have x5:((w.alloc (.cells #[.int .i64 xn,.int .i64 xr,.string xk,.slice aa an ac,.slice ta tn tc,.slice sa sn sc] 28)).alloc (.cells #[.pointer none,.slice none 0 0] 66)).cell? ⟨w.heap.size,5,none⟩=some (.slice sa sn sc):=by go_simp
 have HC:Hid (Calls Tryz.prog 28 #[.pointer (some ⟨w.heap.size+1,0,none⟩),.agg #[.int .i64 xn,.int .i64 xr,.string xk,.slice aa an ac,.slice ta tn tc,.slice sa sn sc],.int .i64 ((0:Nat):Int)] ((w.alloc (.cells #[.int .i64 xn,.int .i64 xr,.string xk,.slice aa an ac,.slice ta tn tc,.slice sa sn sc] 28)).alloc (.cells #[.pointer none,.slice none 0 0] 66)) fun e w'=>XL w.heap.size (w.heap.size+1) [] (txN 0 n) ((w.alloc (.cells #[.int .i64 xn,.int .i64 xr,.string xk,.slice aa an ac,.slice ta tn tc,.slice sa sn sc] 28)).alloc (.cells #[.pointer none,.slice none 0 0] 66)) e w'):=Jh (Rn n w.heap.size (w.heap.size+1) 0 [] D ⟨⟨xn,xr⟩,xk,⟨aa,an,ac⟩,⟨ta,tn,tc⟩,⟨sa,sn,sc⟩⟩ _ hbd (hn.belowW hB0) hD (fun W hW=>ht.below (hB0.trans hW)) (by omega) (by simpa using hbig))
 have HB0:=Lib.hid hB0
 have HZ1:=Lib.hid hz1
 clear hB0 hz1 hbd hn hD ht hbig
 go_enter Tryz.func12,Tryz.ntmps12
 go_upto_region 2 with fail
 generalize ((w.alloc (.cells #[.int .i64 xn,.int .i64 xr,.string xk,.slice aa an ac,.slice ta tn tc,.slice sa sn sc] 28)).alloc (.cells #[.pointer none,.slice none 0 0] 66))=w1 at *
 rw[show ((0:Nat):Int)=0 from rfl] at HC
 go_wp2_with fail
 refine HC.out.mono ?_
 rintro e w2 ⟨rfl,g1,g2,-⟩
 rw[List.nil_append] at g1
 have HG:=Jh (And.intro g1 g2)
 clear g1 g2 HC
 generalize hT:txN 0 n=T at *
 have HT:=Lib.hid hT
 clear hT
 go_wp2_with fail
 refine (Tf w.heap.size (w.heap.size+1) T w2 HG.out.1 (by have:=HG.out.2.size;have:=HZ1.out;omega)).mono ?_
 rintro e w3 ⟨rfl,-,b3,-⟩
 have HF:=Jh ((HB0.out.trans HG.out.2).trans b3)
 clear b3
 go_wp2_with fail
 go_ret
 exact ⟨by rw[HT.out];rfl,HF.out⟩
end Go.Proofs.YtlgipkemoldckaaGreatDoor
namespace Go.Proofs.YtlgipkemoldckaaGreatDoor
open Go.RowKit Go.Deep
def Tv (n:Nd):Prop:=∀ (d:Nat) (D:Nat→Prop) (x:NdV) (w:World),Zh D w x n→(txN d n).length≤35184372088832 →
 Calls Tryz.prog 30 #[x.val,.string ⟨(List.replicate (2*d) (32:UInt8)).toArray⟩] w fun e w'=>e=.returned (.string ⟨(txN d n).toArray⟩)∧Below w.heap.size w w'
theorem TO (d:Nat) (D:Nat→Prop) (xn xr:Int) (xk:ByteArray) (aa ta sa:Option Addr) (an ac tn tc sn sc:Nat) (az:List Atr) (t:Pcs) (vs:List NdV) (ks:List Nd) (w:World)
  (ha:Zf D Atr.cells 2 w (.slice aa an ac) az) (hp:ZN D w (.slice ta tn tc) t) (hs:Zf D NdV.cells 6 w (.slice sa sn sc) vs) (hn:Zc D w vs ks)
  (hbig:(List.replicate (2*d) (32:UInt8)++(ZP ⟨xn,xr⟩ xk az t++10 :: txK (d+1) ks)).length≤35184372088832) (ih:∀ n∈ks,Tv n) :
  Calls Tryz.prog 30 #[.agg #[.int .i64 xn,.int .i64 xr,.string xk,.slice aa an ac,.slice ta tn tc,.slice sa sn sc],.string ⟨(List.replicate (2*d) (32:UInt8)).toArray⟩] w fun e w'=>e=.returned (.string ⟨(List.replicate (2*d) (32:UInt8)++(ZP ⟨xn,xr⟩ xk az t++10 :: txK (d+1) ks)).toArray⟩)∧Below w.heap.size w w':=by
 have hsn:sn=vs.length∧vs.length≤9223372036854775807:=by
  obtain ⟨⟨a,c,e,h1,h2,_⟩,_⟩:=hs
  injection e with _ e2 _
  unfold maxLen at h2
  exact ⟨e2,Nat.le_trans h1 h2⟩
 have hsnn:sn≤9223372036854775807:=by omega
 have hB0:Below w.heap.size w (w.alloc (.cells #[.int .i64 xn,.int .i64 xr,.string xk,.slice aa an ac,.slice ta tn tc,.slice sa sn sc] 28)):=(Below.refl _ _).alloc (Nat.le_refl _) _
 have hz1:(w.alloc (.cells #[.int .i64 xn,.int .i64 xr,.string xk,.slice aa an ac,.slice ta tn tc,.slice sa sn sc] 28)).heap.size=w.heap.size+1:=by simp
 have x0:(w.alloc (.cells #[.int .i64 xn,.int .i64 xr,.string xk,.slice aa an ac,.slice ta tn tc,.slice sa sn sc] 28)).cell? ⟨w.heap.size,0,none⟩=some (.int .i64 xn):=by go_simp
 have x1:(w.alloc (.cells #[.int .i64 xn,.int .i64 xr,.string xk,.slice aa an ac,.slice ta tn tc,.slice sa sn sc] 28)).cell? ⟨w.heap.size,1,none⟩=some (.int .i64 xr):=by go_simp
 have x2:(w.alloc (.cells #[.int .i64 xn,.int .i64 xr,.string xk,.slice aa an ac,.slice ta tn tc,.slice sa sn sc] 28)).cell? ⟨w.heap.size,2,none⟩=some (.string xk):=by go_simp
 have x3:(w.alloc (.cells #[.int .i64 xn,.int .i64 xr,.string xk,.slice aa an ac,.slice ta tn tc,.slice sa sn sc] 28)).cell? ⟨w.heap.size,3,none⟩=some (.slice aa an ac):=by go_simp
 have x4:(w.alloc (.cells #[.int .i64 xn,.int .i64 xr,.string xk,.slice aa an ac,.slice ta tn tc,.slice sa sn sc] 28)).cell? ⟨w.heap.size,4,none⟩=some (.slice ta tn tc):=by go_simp
 have x5:(w.alloc (.cells #[.int .i64 xn,.int .i64 xr,.string xk,.slice aa an ac,.slice ta tn tc,.slice sa sn sc] 28)).cell? ⟨w.heap.size,5,none⟩=some (.slice sa sn sc):=by go_simp
 have HZ1:=Jh (And.intro hz1 hsn)
 have HB0:=Lib.hid hB0
 have HI:=Jh (And.intro ha (And.intro hp (And.intro hs hn)))
 have HBIG:=Lib.hid hbig
 have HIH:=Lib.hid ih
 have hr2:List.replicate (2*d) (32:UInt8)++[32,32]=List.replicate (2*(d+1)) 32:=by
  rw[show ([32,32]:List UInt8)=List.replicate 2 32 from rfl,List.replicate_append_replicate,show 2*d+2=2*(d+1) by omega]
 have HR2:=Lib.hid hr2
 clear hz1 hsn hB0 ha hp hs hn hbig ih hr2
 generalize hLL:ZP ⟨xn,xr⟩ xk az t=LL at *
 have HLL:=Lib.hid hLL
 clear hLL
 generalize hRR:List.replicate (2*d) (32:UInt8)=RR at *
 have HRR:=Lib.hid hRR
 clear hRR
 go_enter Tryz.func30,Tryz.ntmps30
 go_upto_region 1 with fail
 generalize (w.alloc (.cells #[.int .i64 xn,.int .i64 xr,.string xk,.slice aa an ac,.slice ta tn tc,.slice sa sn sc] 28))=w1 at *
 have hlen:=HBIG.out
 simp only[List.length_append,List.length_cons] at hlen
 have HLINE:Hid (∀ W:World,Below w1.heap.size w1 W→Calls Tryz.prog 52 #[.agg #[.int .i64 xn,.int .i64 xr,.string xk,.slice aa an ac,.slice ta tn tc,.slice sa sn sc]] W fun e w'=>e=.returned (.string ⟨LL.toArray⟩)∧Below W.heap.size W w'):=Jh (fun W hW=>by
  have hb:Below w.heap.size w W:=HB0.out.trans (hW.mono (by have:=HZ1.out;omega))
  rw[←HLL.out]
  exact Rr xn xr xk aa ta sa an ac tn tc sn sc az t D W (HI.out.1.below hb (fun _=>Nat.zero_lt_succ 1)) (HI.out.2.1.below hb) (by rw[HLL.out];omega))
 have hs1:∀ W,(Op.stringOp .add (⟨RR.toArray⟩:ByteArray) ⟨LL.toArray⟩).run Tryz.prog W=.ok (.string ⟨(RR++LL).toArray⟩) W:=fun W=>by have:=Y5 RR ⟨LL.toArray⟩ W (by rw[ZC LL];omega);rw[ZC LL] at this;exact this
 have hs2:∀ W,(Op.stringOp .add (⟨(RR++LL).toArray⟩:ByteArray) ⟨#[10]⟩).run Tryz.prog W=.ok (.string ⟨(RR++LL++[10]).toArray⟩) W:=fun W=>by have:=Y5 (RR++LL) ⟨#[10]⟩ W (by rw[ZB ⟨#[10]⟩];show _+1≤_;rw[List.length_append];omega);rw[show (⟨#[10]⟩:ByteArray).toList=[10] from ZC [10]] at this;exact this
 have hs3:∀ W,(Op.stringOp .add (⟨RR.toArray⟩:ByteArray) ⟨#[32,32]⟩).run Tryz.prog W=.ok (.string ⟨(RR++[32,32]).toArray⟩) W:=fun W=>by have:=Y5 RR ⟨#[32,32]⟩ W (by rw[ZB ⟨#[32,32]⟩];show _+2≤_;omega);rw[show (⟨#[32,32]⟩:ByteArray).toList=[32,32] from ZC [32,32]] at this;exact this
 have hcv:∀ (W:World) (g:Nat),W.cell? ⟨g,0,none⟩=some (.int .u8 10)→(convert 64 9 (.slice (some ⟨g,0,none⟩) 1 1)).run Tryz.prog W=.ok (.string ⟨#[10]⟩) W:=fun W g h=>Ws W 10 g h
 have HLL2:Hid (RR++(LL++10 :: txK (d+1) ks)=(RR++LL++[10])++txK (d+1) ks):=Jh (by simp)
 have HLEN:Hid ((RR++LL++[10]).length+(txK (d+1) ks).length≤35184372088832):=Jh (by simp only[List.length_append,List.length_singleton];omega)
 generalize RR++LL++[10]=A0 at *
 generalize RR++LL=A1 at *
 generalize hR3:RR++[32,32]=R3 at *
 have HR3:=Lib.hid hR3
 clear hlen hR3
 have hb1:Below w1.heap.size w1 w1.drew:=(Below.refl _ _).drew
 have hS0:(fun W:World=>W.cell? ⟨w.heap.size,0,none⟩=some (.int .i64 xn)∧W.cell? ⟨w.heap.size,1,none⟩=some (.int .i64 xr)∧W.cell? ⟨w.heap.size,2,none⟩=some (.string xk)∧W.cell? ⟨w.heap.size,3,none⟩=some (.slice aa an ac)∧W.cell? ⟨w.heap.size,4,none⟩=some (.slice ta tn tc)∧W.cell? ⟨w.heap.size,5,none⟩=some (.slice sa sn sc)) w1.drew:=⟨x0,x1,x2,x3,x4,x5⟩
 go_cut [5] from 7 to 13 (fun v wx=>v=.string ⟨A0.toArray⟩∧Hid (Below w1.heap.size w1 wx))
 case first =>
  refine Zq (fun W:World=>W.cell? ⟨w.heap.size,0,none⟩=some (.int .i64 xn)∧W.cell? ⟨w.heap.size,1,none⟩=some (.int .i64 xr)∧W.cell? ⟨w.heap.size,2,none⟩=some (.string xk)∧W.cell? ⟨w.heap.size,3,none⟩=some (.slice aa an ac)∧W.cell? ⟨w.heap.size,4,none⟩=some (.slice ta tn tc)∧W.cell? ⟨w.heap.size,5,none⟩=some (.slice sa sn sc)) (fun i=>i == 7) (by kernel_rfl) ?_
  refine Zx (i:=0) (d:=some 7) [3,6,7] rfl rfl rfl (by kernel_rfl) (by kernel_rfl) (by kernel_rfl) (by kernel_rfl) (fun _ _ _ h=>h) (.inl ⟨by rfl,fun W hW=>by obtain ⟨q0,q1,q2,q3,q4,q5⟩:=hW;go_simp;try rfl⟩) hS0 ?_
  try simp only[Ja]
  refine Zx (i:=1) (d:=some 8) [2,3,6,7] rfl rfl rfl (by kernel_rfl) (by kernel_rfl) (by kernel_rfl) (by kernel_rfl) (fun _ _ _ h=>h) (.inl ⟨by rfl,fun W hW=>by obtain ⟨q0,q1,q2,q3,q4,q5⟩:=hW;go_simp;try rfl⟩) hS0 ?_
  try simp only[Ja]
  generalize w1.drew=w2 at hb1 hS0 ⊢
  replace x0:=Z0 hb1 x0
  replace x1:=Z0 hb1 x1
  replace x2:=Z0 hb1 x2
  replace x3:=Z0 hb1 x3
  replace x4:=Z0 hb1 x4
  replace x5:=Z0 hb1 x5
  clear hS0
  refine XJ (rs:=[2,4]) (by kernel_rfl) (by simp) (fun i hi=>?_)
  rcases List.mem_cons.1 hi with rfl|hi
  ·skip
   refine Wf (d:=some 9) rfl rfl (by rfl) (w':=w2) (by go_simp;try rfl) ((HLINE.out _ (hb1)).mono ?_)
   rintro e w5 ⟨rfl,b5⟩
   have hS5:(fun W:World=>W.cell? ⟨w.heap.size,0,none⟩=some (.int .i64 xn)∧W.cell? ⟨w.heap.size,1,none⟩=some (.int .i64 xr)∧W.cell? ⟨w.heap.size,2,none⟩=some (.string xk)∧W.cell? ⟨w.heap.size,3,none⟩=some (.slice aa an ac)∧W.cell? ⟨w.heap.size,4,none⟩=some (.slice ta tn tc)∧W.cell? ⟨w.heap.size,5,none⟩=some (.slice sa sn sc)) w5:=⟨Z0 b5 x0,Z0 b5 x1,Z0 b5 x2,Z0 b5 x3,Z0 b5 x4,Z0 b5 x5⟩
   refine ⟨_,rfl,⟨fun _=>hS5,?_⟩⟩
   try simp only[Ja]
   refine Zx (i:=3) (d:=some 10) [6,7] rfl rfl rfl (by kernel_rfl) (by kernel_rfl) (by kernel_rfl) (by kernel_rfl) (fun _ _ _ h=>h) (.inl ⟨by rfl,fun W hW=>by obtain ⟨q0,q1,q2,q3,q4,q5⟩:=hW;go_simp;try rfl⟩) hS5 ?_
   try simp only[Ja]
   have hS6:(fun W:World=>W.cell? ⟨w.heap.size,0,none⟩=some (.int .i64 xn)∧W.cell? ⟨w.heap.size,1,none⟩=some (.int .i64 xr)∧W.cell? ⟨w.heap.size,2,none⟩=some (.string xk)∧W.cell? ⟨w.heap.size,3,none⟩=some (.slice aa an ac)∧W.cell? ⟨w.heap.size,4,none⟩=some (.slice ta tn tc)∧W.cell? ⟨w.heap.size,5,none⟩=some (.slice sa sn sc)) (w5.alloc (.cells #[.int .u8 10] 5)):=⟨Z2 (Z0 b5 x0) _,Z2 (Z0 b5 x1) _,Z2 (Z0 b5 x2) _,Z2 (Z0 b5 x3) _,Z2 (Z0 b5 x4) _,Z2 (Z0 b5 x5) _⟩
   have hcw:=hcv (w5.alloc (.cells #[.int .u8 10] 5)) w5.heap.size (by go_simp)
   refine Zg (i:=4) (d:=some 11) (v:=.slice (some ⟨w5.heap.size,0,none⟩) 1 1) (w':=w5.alloc (.cells #[.int .u8 10] 5)) (by kernel_rfl) rfl rfl (by rfl) (by go_simp;try rfl) (fun _=>hS6) ?_
   try simp only[Ja]
   refine Zg (i:=5) (d:=some 12) (v:=.string ⟨#[10]⟩) (w':=w5.alloc (.cells #[.int .u8 10] 5)) (by kernel_rfl) rfl rfl (by rfl) (by go_simp;try rfl) (fun _=>hS6) ?_
   try simp only[Ja]
   refine Zg (i:=6) (d:=some 13) (v:=.string ⟨A0.toArray⟩) (w':=w5.alloc (.cells #[.int .u8 10] 5)) (by kernel_rfl) rfl rfl (by rfl) (by go_simp;try rfl) (fun _=>hS6) ?_
   try simp only[Ja]
   refine Zg (i:=7) (d:=some 5) (v:=.string ⟨A0.toArray⟩) (w':=w5.alloc (.cells #[.int .u8 10] 5)) (by kernel_rfl) rfl rfl (by rfl) (by go_simp;try rfl) (fun _=>(by rename_i hh;exact absurd hh (by decide))) ?_
   try simp only[Ja]
   refine Zi (by kernel_rfl) ?_ _
   have HF:Hid (Below w1.heap.size w1 (w5.alloc (.cells #[.int .u8 10] 5))):=Jh ((hb1.trans (b5.mono hb1.size)).alloc (by have:=hb1.size;have:=b5.size;omega) _)
   go_wp2_with fail
   go_meet
   exact ⟨rfl,HF⟩
  ·obtain rfl:=List.mem_singleton.1 hi
   have hS3:(fun W:World=>W.cell? ⟨w.heap.size,0,none⟩=some (.int .i64 xn)∧W.cell? ⟨w.heap.size,1,none⟩=some (.int .i64 xr)∧W.cell? ⟨w.heap.size,2,none⟩=some (.string xk)∧W.cell? ⟨w.heap.size,3,none⟩=some (.slice aa an ac)∧W.cell? ⟨w.heap.size,4,none⟩=some (.slice ta tn tc)∧W.cell? ⟨w.heap.size,5,none⟩=some (.slice sa sn sc)) (w2.alloc (.cells #[.int .u8 10] 5)):=⟨Z2 x0 _,Z2 x1 _,Z2 x2 _,Z2 x3 _,Z2 x4 _,Z2 x5 _⟩
   have hb3:Below w1.heap.size w1 (w2.alloc (.cells #[.int .u8 10] 5)):=hb1.alloc hb1.size _
   have hg3:(w2.alloc (.cells #[.int .u8 10] 5)).cell? ⟨w2.heap.size,0,none⟩=some (.int .u8 10):=by go_simp
   have hcw:=hcv _ w2.heap.size hg3
   refine Wu (d:=some 11) (v:=.slice (some ⟨w2.heap.size,0,none⟩) 1 1) (w':=w2.alloc (.cells #[.int .u8 10] 5)) rfl rfl (by rfl) (by go_simp;try rfl) ⟨fun _=>hS3,?_⟩
   try simp only[Ja]
   refine XJ (rs:=[2,5]) (by kernel_rfl) (by simp) (fun i hi=>?_)
   rcases List.mem_cons.1 hi with rfl|hi
   ·skip
    refine Wf (d:=some 9) rfl rfl (by rfl) (w':=w2.alloc (.cells #[.int .u8 10] 5)) (by go_simp;try rfl) ((HLINE.out _ (hb3)).mono ?_)
    rintro e w5 ⟨rfl,b5⟩
    have hS5:(fun W:World=>W.cell? ⟨w.heap.size,0,none⟩=some (.int .i64 xn)∧W.cell? ⟨w.heap.size,1,none⟩=some (.int .i64 xr)∧W.cell? ⟨w.heap.size,2,none⟩=some (.string xk)∧W.cell? ⟨w.heap.size,3,none⟩=some (.slice aa an ac)∧W.cell? ⟨w.heap.size,4,none⟩=some (.slice ta tn tc)∧W.cell? ⟨w.heap.size,5,none⟩=some (.slice sa sn sc)) w5:=⟨Z0 b5 (Z2 x0 _),Z0 b5 (Z2 x1 _),Z0 b5 (Z2 x2 _),Z0 b5 (Z2 x3 _),Z0 b5 (Z2 x4 _),Z0 b5 (Z2 x5 _)⟩
    have hcw5:=hcv w5 w2.heap.size (Z0 b5 hg3)
    refine ⟨_,rfl,⟨fun _=>hS5,?_⟩⟩
    try simp only[Ja]
    refine Zx (i:=3) (d:=some 10) [6,7] rfl rfl rfl (by kernel_rfl) (by kernel_rfl) (by kernel_rfl) (by kernel_rfl) (fun _ _ _ h=>h) (.inl ⟨by rfl,fun W hW=>by obtain ⟨q0,q1,q2,q3,q4,q5⟩:=hW;go_simp;try rfl⟩) hS5 ?_
    try simp only[Ja]
    refine Zg (i:=5) (d:=some 12) (v:=.string ⟨#[10]⟩) (w':=w5) (by kernel_rfl) rfl rfl (by rfl) (by go_simp;try rfl) (fun _=>hS5) ?_
    try simp only[Ja]
    refine Zg (i:=6) (d:=some 13) (v:=.string ⟨A0.toArray⟩) (w':=w5) (by kernel_rfl) rfl rfl (by rfl) (by go_simp;try rfl) (fun _=>hS5) ?_
    try simp only[Ja]
    refine Zg (i:=7) (d:=some 5) (v:=.string ⟨A0.toArray⟩) (w':=w5) (by kernel_rfl) rfl rfl (by rfl) (by go_simp;try rfl) (fun _=>(by rename_i hh;exact absurd hh (by decide))) ?_
    try simp only[Ja]
    refine Zi (by kernel_rfl) ?_ _
    have HF:Hid (Below w1.heap.size w1 (w5)):=Jh (hb3.trans (b5.mono hb3.size))
    go_wp2_with fail
    go_meet
    exact ⟨rfl,HF⟩
   ·obtain rfl:=List.mem_singleton.1 hi
    refine Wu (d:=some 12) (v:=.string ⟨#[10]⟩) (w':=w2.alloc (.cells #[.int .u8 10] 5)) rfl rfl (by rfl) (by go_simp;try rfl) ⟨fun _=>hS3,?_⟩
    try simp only[Ja]
    refine ZR (i:=2) (d:=some 9) (w':=w2.alloc (.cells #[.int .u8 10] 5)) (by kernel_rfl) rfl rfl (by rfl) (by go_simp;try rfl) ((HLINE.out _ (hb3)).mono ?_)
    rintro e w5 ⟨rfl,b5⟩
    have hS5:(fun W:World=>W.cell? ⟨w.heap.size,0,none⟩=some (.int .i64 xn)∧W.cell? ⟨w.heap.size,1,none⟩=some (.int .i64 xr)∧W.cell? ⟨w.heap.size,2,none⟩=some (.string xk)∧W.cell? ⟨w.heap.size,3,none⟩=some (.slice aa an ac)∧W.cell? ⟨w.heap.size,4,none⟩=some (.slice ta tn tc)∧W.cell? ⟨w.heap.size,5,none⟩=some (.slice sa sn sc)) w5:=⟨Z0 b5 (Z2 x0 _),Z0 b5 (Z2 x1 _),Z0 b5 (Z2 x2 _),Z0 b5 (Z2 x3 _),Z0 b5 (Z2 x4 _),Z0 b5 (Z2 x5 _)⟩
    refine ⟨_,rfl,fun _=>hS5,?_⟩
    try simp only[Ja]
    refine Zg (i:=3) (d:=some 10) (v:=.string ⟨A1.toArray⟩) (w':=w5) (by kernel_rfl) rfl rfl (by rfl) (by go_simp;try rfl) (fun _=>hS5) ?_
    try simp only[Ja]
    refine Zg (i:=6) (d:=some 13) (v:=.string ⟨A0.toArray⟩) (w':=w5) (by kernel_rfl) rfl rfl (by rfl) (by go_simp;try rfl) (fun _=>hS5) ?_
    try simp only[Ja]
    refine Zg (i:=7) (d:=some 5) (v:=.string ⟨A0.toArray⟩) (w':=w5) (by kernel_rfl) rfl rfl (by rfl) (by go_simp;try rfl) (fun _=>(by rename_i hh;exact absurd hh (by decide))) ?_
    try simp only[Ja]
    refine Zi (by kernel_rfl) ?_ _
    have HF:Hid (Below w1.heap.size w1 (w5)):=Jh (hb3.trans (b5.mono hb3.size))
    go_wp2_with fail
    go_meet
    exact ⟨rfl,HF⟩
 case rest =>
  obtain ⟨rfl,HB6⟩:=hcut
  have y5:=YT HB6.out (by have:=HZ1.out;omega) x5
  clear x0 x1 x2 x3 x4 hs1 hs2 hcv HLINE
  go_wp2_with fail
  go_loopg [5,6] sn (fun g sv iv wr=>∃ k:Nat,g=sn - k∧k≤sn∧iv=.int .i64 k∧sv=.string ⟨(A0++txK (d+1) (ks.take k)).toArray⟩∧Hid (Below w1.heap.size w1 wr))
  case atStart=>exact ⟨0,by omega,by omega,rfl,by rw[List.take_zero,txK,List.append_nil],HB6⟩
  case round =>
   obtain ⟨k,hg,hk,rfl,rfl,HB⟩:=hrel
   have HG:=Lib.hid hg
   clear hg y5
   have HBW:Hid (Below w.heap.size w wr):=Jh (HB0.out.trans (HB.out.mono (by have:=HZ1.out;omega)))
   have y5:=YT HB.out (by have:=HZ1.out;omega) x5
   by_cases hkl:k<sn
   ·obtain ⟨⟨⟨zn,zr⟩,zk,⟨a1,a2,a3⟩,⟨b1,b2,b3⟩,⟨c1,c2,c3⟩⟩,hx⟩:∃ x,vs[k]?=some x:=⟨_,List.getElem?_eq_getElem (by have:=HZ1.out;omega)⟩
    obtain ⟨m,hm⟩:∃ x,ks[k]?=some x:=⟨_,List.getElem?_eq_getElem (by have:=HZ1.out;have:=HI.out.2.2.2.1;omega)⟩
    obtain ⟨q,o,c,e5,u0,u1,u2,u3,u4,u5⟩:=(HI.out.2.2.1.below HBW.out (fun _=>Nat.zero_lt_succ 5)).node6 hx
    injection e5 with e5 e6 e7
    clear e6 e7
    subst e5
    simp only at u0 u1 u2 u3 u4 u5
    have hnd:=(HI.out.2.2.2.2 k _ m hx hm).belowW HBW.out
    have hkk:(k:Int)<(sn:Int):=by omega
    have hle:=Tr (d+1) ks (k+1)
    rw[XT hm,List.length_append] at hle
    have hlen:(A0++txK (d+1) (ks.take k)).length+(txN (d+1) m).length≤35184372088832:=by have:=HLEN.out;rw[List.length_append];omega
    have HC:Hid (Calls Tryz.prog 30 #[.agg #[.int .i64 zn,.int .i64 zr,.string zk,.slice a1 a2 a3,.slice b1 b2 b3,.slice c1 c2 c3],.string ⟨R3.toArray⟩] wr fun e w'=>e=.returned (.string ⟨(txN (d+1) m).toArray⟩)∧Below wr.heap.size wr w'):=Jh (by
     have:=HIH.out m (List.mem_of_getElem? hm) (d+1) D ⟨⟨zn,zr⟩,zk,⟨a1,a2,a3⟩,⟨b1,b2,b3⟩,⟨c1,c2,c3⟩⟩ wr hnd (by omega)
     rw[←HR2.out] at this
     exact this)
    have HNE:Hid (A0++txK (d+1) (ks.take (k+1))=A0++txK (d+1) (ks.take k)++txN (d+1) m):=Jh (by rw[XT hm,List.append_assoc])
    generalize A0++txK (d+1) (ks.take k)=A2 at *
    generalize txN (d+1) m=TM at *
    have hs4:∀ W,(Op.stringOp .add (⟨A2.toArray⟩:ByteArray) ⟨TM.toArray⟩).run Tryz.prog W=.ok (.string ⟨(A2++TM).toArray⟩) W:=fun W=>by have:=Y5 A2 ⟨TM.toArray⟩ W (by rw[ZC TM];omega);rw[ZC TM] at this;exact this
    generalize A2++TM=A4 at *
    clear hnd hle hm hx hlen
    go_wp2_with fail
    refine HC.out.mono ?_
    rintro e w10 ⟨rfl,b10⟩
    go_wp2_with fail
    go_roundg (sn - (k+1))
    case measure=>rw[HG.out];omega
    case rel=>exact ⟨k+1,rfl,hkl,by go_num,by rw[HNE.out],Jh (HB.out.trans (b10.mono HB.out.size))⟩
   ·have hkk:¬ ((k:Int)<(sn:Int)):=by omega
    have hte:A0++txK (d+1) (ks.take k)=RR++(LL++10 :: txK (d+1) ks):=by rw[List.take_of_length_le (by have:=HZ1.out;have:=HI.out.2.2.2.1;omega),HLL2.out]
    rw[hte]
    obtain ⟨RES,hres⟩:=Je (RR++(LL++10 :: txK (d+1) ks))
    rw[hres]
    have HRES:=Lib.hid hres
    clear hte hres
    go_wp2_with fail
    go_ret
    exact ⟨by rw[HRES.out];rfl,HBW.out⟩
theorem SS (n:Nd):Tv n:=by
 induction n using Nd.ind with
 | _ i k az t ks ih =>
  intro d D x w hn hbig
  obtain ⟨e1,e2,ha,hp,vs,hs,hk⟩:=hn.parts
  obtain ⟨⟨xn,xr⟩,xk,⟨aa,an,ac⟩,⟨ta,tn,tc⟩,⟨sa,sn,sc⟩⟩:=x
  simp only[Nd.id,Nd.kind,Nd.attrs,Nd.text,Nd.kids] at e1 e2 ha hp hk
  subst e1 e2
  rw[txN] at hbig ⊢
  exact TO d D xn xr xk aa ta sa an ac tn tc sn sc az t vs ks w ha hp hs hk hbig ih
theorem TT (n:Nd) (D:Nat→Prop) (x:NdV) (w:World) (hn:Zh D w x n) (hbig:(txN 0 n).length≤35184372088832) :
  Calls Tryz.prog 13 #[x.val] w fun e w'=>e=.returned (.string ⟨(txN 0 n).toArray⟩)∧Below w.heap.size w w':=by
 obtain ⟨⟨xn,xr⟩,xk,⟨aa,an,ac⟩,⟨ta,tn,tc⟩,⟨sa,sn,sc⟩⟩:=x
 unfold NdV.val
 have hB0:Below w.heap.size w (w.alloc (.cells #[.int .i64 xn,.int .i64 xr,.string xk,.slice aa an ac,.slice ta tn tc,.slice sa sn sc] 28)):=(Below.refl _ _).alloc (Nat.le_refl _) _
 have x0:(w.alloc (.cells #[.int .i64 xn,.int .i64 xr,.string xk,.slice aa an ac,.slice ta tn tc,.slice sa sn sc] 28)).cell? ⟨w.heap.size,0,none⟩=some (.int .i64 xn):=by go_simp
 have x1:(w.alloc (.cells #[.int .i64 xn,.int .i64 xr,.string xk,.slice aa an ac,.slice ta tn tc,.slice sa sn sc] 28)).cell? ⟨w.heap.size,1,none⟩=some (.int .i64 xr):=by go_simp
 have x2:(w.alloc (.cells #[.int .i64 xn,.int .i64 xr,.string xk,.slice aa an ac,.slice ta tn tc,.slice sa sn sc] 28)).cell? ⟨w.heap.size,2,none⟩=some (.string xk):=by go_simp
 have x3:(w.alloc (.cells #[.int .i64 xn,.int .i64 xr,.string xk,.slice aa an ac,.slice ta tn tc,.slice sa sn sc] 28)).cell? ⟨w.heap.size,3,none⟩=some (.slice aa an ac):=by go_simp
 have x4:(w.alloc (.cells #[.int .i64 xn,.int .i64 xr,.string xk,.slice aa an ac,.slice ta tn tc,.slice sa sn sc] 28)).cell? ⟨w.heap.size,4,none⟩=some (.slice ta tn tc):=by go_simp
 have x5:(w.alloc (.cells #[.int .i64 xn,.int .i64 xr,.string xk,.slice aa an ac,.slice ta tn tc,.slice sa sn sc] 28)).cell? ⟨w.heap.size,5,none⟩=some (.slice sa sn sc):=by go_simp
 have HC:Hid (Calls Tryz.prog 30 #[.agg #[.int .i64 xn,.int .i64 xr,.string xk,.slice aa an ac,.slice ta tn tc,.slice sa sn sc],.string ⟨#[]⟩] (w.alloc (.cells #[.int .i64 xn,.int .i64 xr,.string xk,.slice aa an ac,.slice ta tn tc,.slice sa sn sc] 28)) fun e w'=>e=.returned (.string ⟨(txN 0 n).toArray⟩)∧Below (w.alloc (.cells #[.int .i64 xn,.int .i64 xr,.string xk,.slice aa an ac,.slice ta tn tc,.slice sa sn sc] 28)).heap.size (w.alloc (.cells #[.int .i64 xn,.int .i64 xr,.string xk,.slice aa an ac,.slice ta tn tc,.slice sa sn sc] 28)) w'):=Jh (SS n 0 D ⟨⟨xn,xr⟩,xk,⟨aa,an,ac⟩,⟨ta,tn,tc⟩,⟨sa,sn,sc⟩⟩ _ (hn.belowW hB0) hbig)
 have HB0:=Lib.hid hB0
 clear hB0 hn hbig
 go_enter Tryz.func13,Tryz.ntmps13
 go_upto_region 1 with fail
 generalize (w.alloc (.cells #[.int .i64 xn,.int .i64 xr,.string xk,.slice aa an ac,.slice ta tn tc,.slice sa sn sc] 28))=w1 at *
 generalize hT:txN 0 n=T at HC
 have HT:=Lib.hid hT
 clear hT
 go_wp2_with fail
 refine HC.out.mono ?_
 rintro e w2 ⟨rfl,b2⟩
 have HF:=Jh (HB0.out.trans (b2.mono HB0.out.size))
 clear b2
 go_wp2_with fail
 go_ret
 exact ⟨by rw[HT.out];rfl,HF.out⟩
end Go.Proofs.YtlgipkemoldckaaGreatDoor
namespace Go.Proofs.YtlgipkemoldckaaGreatDoor
open Go.RowKit
def QY (n:Nd):Prop:=∀ (m:Nat) (D:Nat→Prop) (x:NdV) (w:World),Zh D w x n→m≤1000 →
 Calls Tryz.prog 10 #[x.val,.int .i64 m] w fun e w'=>∃ c:Nat,e=.returned (.int .i64 c)∧1≤c∧c≤m+1∧Below w.heap.size w w'
theorem Tg (m:Nat) (D:Nat→Prop) (xn xr:Int) (xk:ByteArray) (aa ta sa:Option Addr) (an ac tn tc sn sc:Nat) (vs:List NdV) (ks:List Nd) (w:World)
  (hs:Zf D NdV.cells 6 w (.slice sa sn sc) vs) (hn:Zc D w vs ks) (hm:m≤1000) (ih:∀ n∈ks,QY n) :
  Calls Tryz.prog 10 #[.agg #[.int .i64 xn,.int .i64 xr,.string xk,.slice aa an ac,.slice ta tn tc,.slice sa sn sc],.int .i64 m] w fun e w'=>∃ c:Nat,e=.returned (.int .i64 c)∧1≤c∧c≤m+1∧Below w.heap.size w w':=by
 have hsn:sn=vs.length∧vs.length≤9223372036854775807:=by
  obtain ⟨⟨a,c,e,h1,h2,_⟩,_⟩:=hs
  injection e with _ e2 _
  unfold maxLen at h2
  exact ⟨e2,Nat.le_trans h1 h2⟩
 have hsnn:sn≤9223372036854775807:=by omega
 have hB0:Below w.heap.size w (w.alloc (.cells #[.int .i64 xn,.int .i64 xr,.string xk,.slice aa an ac,.slice ta tn tc,.slice sa sn sc] 28)):=(Below.refl _ _).alloc (Nat.le_refl _) _
 have hz1:(w.alloc (.cells #[.int .i64 xn,.int .i64 xr,.string xk,.slice aa an ac,.slice ta tn tc,.slice sa sn sc] 28)).heap.size=w.heap.size+1:=by simp
 have x5:(w.alloc (.cells #[.int .i64 xn,.int .i64 xr,.string xk,.slice aa an ac,.slice ta tn tc,.slice sa sn sc] 28)).cell? ⟨w.heap.size,5,none⟩=some (.slice sa sn sc):=by go_simp
 have HZ1:=Jh (And.intro hz1 hsn)
 have HB0:=Lib.hid hB0
 have HI:=Jh (And.intro hs hn)
 have HIH:=Lib.hid ih
 clear hz1 hsn hB0 hs hn ih
 go_enter Tryz.func10,Tryz.ntmps10
 go_upto_region 1 with fail
 generalize (w.alloc (.cells #[.int .i64 xn,.int .i64 xr,.string xk,.slice aa an ac,.slice ta tn tc,.slice sa sn sc] 28))=w1 at *
 go_wp2_with fail
 go_loopg [5,6] sn (fun g cv iv wr=>∃ (k c:Nat),g=sn - k∧k≤sn∧iv=.int .i64 k∧cv=.int .i64 c∧1≤c∧c≤m+1∧Hid (Below w1.heap.size w1 wr))
 case atStart=>exact ⟨0,1,by omega,by omega,rfl,rfl,by omega,by omega,Jh (Below.refl _ _)⟩
 case round =>
  obtain ⟨k,c,hg,hk,rfl,rfl,hc1,hc2,HB⟩:=hrel
  have HG:=Lib.hid hg
  clear hg
  have HBW:Hid (Below w.heap.size w wr):=Jh (HB0.out.trans (HB.out.mono (by have:=HZ1.out;omega)))
  have y5:=YT HB.out (by have:=HZ1.out;omega) x5
  by_cases hkl:k<sn
  ·by_cases hcm:c≤m
   ·obtain ⟨⟨⟨zn,zr⟩,zk,⟨a1,a2,a3⟩,⟨b1,b2,b3⟩,⟨c1,c2,c3⟩⟩,hx⟩:∃ x,vs[k]?=some x:=⟨_,List.getElem?_eq_getElem (by have:=HZ1.out;omega)⟩
    obtain ⟨n,hn⟩:∃ x,ks[k]?=some x:=⟨_,List.getElem?_eq_getElem (by have:=HZ1.out;have:=HI.out.2.1;omega)⟩
    obtain ⟨q,o,cp,e5,u0,u1,u2,u3,u4,u5⟩:=(HI.out.1.below HBW.out (fun _=>Nat.zero_lt_succ 5)).node6 hx
    injection e5 with e5 e6 e7
    clear e6 e7
    subst e5
    simp only at u0 u1 u2 u3 u4 u5
    have hkk:(k:Int)<(sn:Int):=by omega
    have hcc:(c:Int)≤(m:Int):=by omega
    have HC:Hid (Calls Tryz.prog 10 #[.agg #[.int .i64 zn,.int .i64 zr,.string zk,.slice a1 a2 a3,.slice b1 b2 b3,.slice c1 c2 c3],.int .i64 ((m:Int) - (c:Int))] wr fun e w'=>∃ x:Nat,e=.returned (.int .i64 x)∧1≤x∧x≤m - c+1∧Below wr.heap.size wr w'):=Jh (by
     have:=HIH.out n (List.mem_of_getElem? hn) (m - c) D ⟨⟨zn,zr⟩,zk,⟨a1,a2,a3⟩,⟨b1,b2,b3⟩,⟨c1,c2,c3⟩⟩ wr ((HI.out.2.2 k _ n hx hn).belowW HBW.out) (by omega)
     rw[show ((m - c:Nat):Int)=(m:Int) - (c:Int) by omega] at this
     exact this)
    clear hx hn
    go_wp2_with fail
    refine HC.out.mono ?_
    rintro e w10 ⟨x,rfl,hx1,hx2,b10⟩
    go_wp2_with fail
    go_roundg (sn - (k+1))
    case measure=>rw[HG.out];omega
    case rel=>exact ⟨k+1,c+x,rfl,hkl,by go_num,by go_num,by omega,by omega,Jh (HB.out.trans (b10.mono HB.out.size))⟩
   ·have hkk:(k:Int)<(sn:Int):=by omega
    have hcc:¬ ((c:Int)≤(m:Int)):=by omega
    go_wp2_with fail
    go_ret
    exact ⟨c,rfl,hc1,hc2,HBW.out⟩
  ·have hkk:¬ ((k:Int)<(sn:Int)):=by omega
   go_wp2_with fail
   go_ret
   exact ⟨c,rfl,hc1,hc2,HBW.out⟩
theorem Wl (n:Nd):QY n:=by
 induction n using Nd.ind with
 | _ i k az t ks ih =>
  intro m D x w hn hm
  obtain ⟨e1,e2,ha,hp,vs,hs,hk⟩:=hn.parts
  obtain ⟨⟨xn,xr⟩,xk,⟨aa,an,ac⟩,⟨ta,tn,tc⟩,⟨sa,sn,sc⟩⟩:=x
  exact Tg m D xn xr xk aa ta sa an ac tn tc sn sc vs ks w hs hk hm ih
attribute [local go_sem] Oper.semAt_some
def RSp (ob sb:Nat) (A:World) (k:Nat):Prop:=k=ob∨(k≠sb∧sb≤k∧∃ cur,A.heap[k]?=some (.cells cur 109 (0,0)))
theorem Rb (va:Option Addr) (ca:Nat) (l:List El) (w:World) (hl:Z6 El.cells 4 w (.slice va l.length ca) l) (hln:l.length≤1000) :
  Calls Tryz.prog 45 #[.slice va l.length ca] w fun e w'=>∃ u,e=.returned u∧Own Spn.cells 4 109 w.heap.size w' u (Ye l)∧Below w.heap.size w w':=by
 refine (callsIn_wide (n:=5)).1 ?_
 refine callsIn_of_wp_marks Tryz.func45 rfl trivial ?_ rfl
 simp only[Tryz.ntmps45,List.size_toArray,List.length_cons,List.length_nil,Nat.reduceAdd,Nat.reduceSub,Array.replicate_succ,Array.replicate_zero,List.push_toArray,List.append_toArray,List.nil_append,List.cons_append]
 gi_wp2
 refine ⟨trivial,?_⟩
 refine (callsIn_wide.2 (TD va l.length ca _)).mono ?_
 rintro e w' ⟨rfl,rfl⟩
 gi_wp2
 have hB0:Below w.heap.size w ((w.alloc (.cells #[.slice none 0 0] 106)).alloc (.cells #[.slice va l.length ca] 34)):=((Below.refl _ _).alloc (Nat.le_refl _) _).alloc (by simp) _
 have o0:((w.alloc (.cells #[.slice none 0 0] 106)).alloc (.cells #[.slice va l.length ca] 34)).heap[w.heap.size]?=some (.cells #[.slice none 0 0] 106 (0,0)) :=
  (Below.heap_alloc _ _ _ (by simp)).trans (World.alloc_heap_new w _)
 have s0:((w.alloc (.cells #[.slice none 0 0] 106)).alloc (.cells #[.slice va l.length ca] 34)).cell? ⟨w.heap.size+1,0,none⟩=some (.slice va l.length ca):=by go_simp
 have z0:((w.alloc (.cells #[.slice none 0 0] 106)).alloc (.cells #[.slice va l.length ca] 34)).heap.size=w.heap.size+2:=by simp
 generalize (w.alloc (.cells #[.slice none 0 0] 106)).alloc (.cells #[.slice va l.length ca] 34)=W0 at *
 have hl0:=hl.below hB0
 refine SX (U:=Spn) (by omega) (gf:=91) (lb:=#[.pointer (some ⟨w.heap.size+1,0,none⟩)]) rfl (enters_of Tryz.func91 (by kernel_rfl) rfl)
  (fun x=>#[.agg #[.int .i64 x.blk.n,.int .i64 x.blk.r,.int .i64 x.lo,.int .i64 x.hi]]) (fun _=>rfl) (RSp w.heap.size (W0.heap.size+2)) (·=W0.heap.size+2) (fun W k e=>by rcases e with e|⟨e,e2,_⟩ <;> omega) (fun W W' k hk e=>?_) (fun k e=>by omega) (Ye l)
  (fun pre A=>∃ v,A.heap[w.heap.size]?=some (.cells #[v] 106 (0,0))∧Own Spn.cells 4 109 (W0.heap.size+3) A v pre∧Ext (·=w.heap.size) W0 A)
  (fun pre A A' h hx=>?_)
  (US 4 (by omega) (w.heap.size+1) _ l (RSp w.heap.size (W0.heap.size+2)) W0 hl0 hln s0 (fun A e=>by rcases e with e|⟨e,e2,_⟩ <;> omega) (fun A e=>by rcases e with e|⟨e,e2,_⟩ <;> omega) (fun A k cur hk h e=>?_) (fun hne b o m c e=>?_)) ⟨_,o0,Own.nil,Ext.refl _ _⟩ ?_ ?_
 ·rcases e with e|⟨e,e2,cur,e3⟩
  ·exact .inl e
  ·exact .inr ⟨e,e2,cur,hk.symm.trans e3⟩
 ·obtain ⟨v,h1,h2,h3⟩:=h
  have hlt:=(Array.getElem?_eq_some_iff.1 h1).1
  exact ⟨v,(hx.block _ hlt (by omega)).trans h1,h2.ext hx (fun b hb e=>by have:=(h2.blk b hb).1;omega),h3.andThen hx (fun i hi e=>by omega)⟩
 ·rcases e with e|⟨_,_,cur',e3⟩
  ·omega
  ·rw[h] at e3
   cases e3
 ·cases e
  obtain ⟨_,_,e1,_,_,h4⟩:=hl
  cases e1
  obtain ⟨b',o',e2,h5⟩:=h4 hne
  cases e2
  obtain ⟨x,hx⟩:∃ x,l[0]?=some x:=by
   cases l with
   | nil=>exact absurd rfl hne
   | cons x r=>exact ⟨x,rfl⟩
  have:=Zy (h5 0 x hx 0 _ rfl)
  refine ⟨fun A e=>?_,by omega⟩
  rcases e with e|⟨e,e2,_⟩ <;> omega
 ·rintro lb pre x A ⟨v,ho,hown,hx⟩ hpx hlt
  have hpl:=hpx.length_le
  have hsl:=UB l
  rw[List.length_append,List.length_singleton] at hpl
  have hAsz:=hx.size
  gi_wp2
  refine ⟨(Ext.refl _ _).alloc _,⟨v,?_,hown.alloc _,hx.alloc _⟩,?_⟩
  ·exact (Below.heap_alloc _ _ _ (Array.getElem?_eq_some_iff.1 ho).1).trans ho
  rintro A2 ⟨v2,ho2,hown2,hxA2⟩ hx2
  have hlA:=hx2.size
  rw[World.size_alloc] at hlA
  have b0:A2.cell? ⟨A.heap.size,0,none⟩=some (.int .i64 x.blk.n):=hx2.keep (by go_simp) (by omega)
  have b1:A2.cell? ⟨A.heap.size,1,none⟩=some (.int .i64 x.blk.r):=hx2.keep (by go_simp) (by omega)
  have b2:A2.cell? ⟨A.heap.size,2,none⟩=some (.int .i64 x.lo):=hx2.keep (by go_simp) (by omega)
  have b3:A2.cell? ⟨A.heap.size,3,none⟩=some (.int .i64 x.hi):=hx2.keep (by go_simp) (by omega)
  have hc2:A2.cell? ⟨w.heap.size,0,none⟩=some v2:=by simp[World.cell?,ho2]
  have hs2:=hxA2.size
  have HO2:=Lib.hid ho2
  have HX2:=Lib.hid hxA2
  clear ho ho2 hx hxA2 hx2 hown hl hl0 s0 o0
  obtain ⟨i0,hi,hz0,hz1',hz2⟩:=info_parts Ri
  gi_wp2_with (gi_at_builtin;refine X7 rfl _ _ _ rfl i0 (.agg #[.int .i64 0,.int .i64 0,.int .i64 0,.int .i64 0]) 32 Tryz.underlying106 hi hz0 hz1' hz2 rfl (by omega) Spn.len Spn.one rfl (hown2.alloc _) x A2.heap.size 1 rfl ?_ (by unfold maxLen;omega) (by omega) (by simp;omega) ?_)
  ·intro j u hj
   match j,hj with
   | 0,hj=>simp[Spn.cells] at hj;subst hj;go_simp
   | 1,hj=>simp[Spn.cells] at hj;subst hj;go_simp
   | 2,hj=>simp[Spn.cells] at hj;subst hj;go_simp
   | 3,hj=>simp[Spn.cells] at hj;subst hj;go_simp
   | n+4,hj=>simp[Spn.cells] at hj
  ·intro v' A5 hown5 hx5
   obtain ⟨g5,c5,n5,rfl⟩:∃ g5 c5 n5,v'=.slice (some ⟨g5,0,none⟩) n5 c5:=by
    rcases hown5.eq_slice with ⟨_,e⟩|⟨g5,c5,e,_,_⟩
    ·simp at e
    ·exact ⟨g5,c5,_,e⟩
   have hne:∀ b,v2.ownBlock=some b→W0.heap.size+3≤b:=fun b hb=>by have:=(hown2.blk b hb).1;omega
   have hsp:∀ b,v2.ownBlock=some b→RSp w.heap.size (W0.heap.size+2) A2 b:=fun b hb=>by
    obtain ⟨cur,hcur⟩:=hown2.tag hb
    have:=hne b hb
    exact .inr ⟨by omega,by omega,cur,hcur⟩
   have hlt4:=(Array.getElem?_eq_some_iff.1 HO2.out).1
   have ho5:A5.heap[w.heap.size]?=some (.cells #[v2] 106 (0,0)):=(hx5.block _ (by simp;omega) (fun e=>by have:=hne _ e;omega)).trans ((Below.heap_alloc _ _ _ hlt4).trans HO2.out)
   have hf5:A5.frozen? ⟨w.heap.size,0,none⟩=false:=by simp[World.frozen?,ho5]
   have hc5:A5.cell? ⟨w.heap.size,0,none⟩=some v2:=by simp[World.cell?,ho5]
   have hx6:Ext (·=w.heap.size) A5 (A5.setCell ⟨w.heap.size,0,none⟩ (.slice (some ⟨g5,0,none⟩) n5 c5)):=(Ext.refl (·=w.heap.size) A5).setCell (p:=⟨w.heap.size,0,none⟩) (.inr rfl) (.slice (some ⟨g5,0,none⟩) n5 c5)
   have r1:(A5.setCell ⟨w.heap.size,0,none⟩ (.slice (some ⟨g5,0,none⟩) n5 c5)).heap[w.heap.size]?=some (.cells #[.slice (some ⟨g5,0,none⟩) n5 c5] 106 (0,0)):=heap_setCell_same A5 _ 0 #[v2] _ (.slice (some ⟨g5,0,none⟩) n5 c5) ho5
   have r2:=hown5.ext hx6 (fun b hb e=>by have:=(hown5.blk b hb).1;omega)
   have r3:Ext (·=w.heap.size) W0 (A5.setCell ⟨w.heap.size,0,none⟩ (.slice (some ⟨g5,0,none⟩) n5 c5)):=((HX2.out.alloc _).andThen hx5 (fun i hi e=>by have:=hne _ e;omega)).andThen hx6 (fun i hi e=>e)
   have r4:Ext (RSp w.heap.size (W0.heap.size+2) A2) A2 (A5.setCell ⟨w.heap.size,0,none⟩ (.slice (some ⟨g5,0,none⟩) n5 c5)):=(((Ext.refl (RSp w.heap.size (W0.heap.size+2) A2) A2).alloc _).andThen hx5 (fun i hi e=>hsp i e)).andThen hx6 (fun i hi e=>.inl e)
   have R1:=Lib.hid r1
   have R2:=Lib.hid r2
   have R3:=Lib.hid r3
   have R4:=Lib.hid r4
   clear r1 r2 r3 r4 hx6 hx5 hown5 hown2 ho5 HO2 HX2
   gi_wp2
   exact ⟨⟨_,R1.out,by first|exact R2.out|(rw[z0];exact R2.out),R3.out⟩,R4.out⟩
 ·rintro A ⟨v,ho,hown,hx⟩ hK
  have hc:A.cell? ⟨w.heap.size,0,none⟩=some v:=by simp[World.cell?,ho]
  have HB1:=Jh (Ext.new hB0 hx (fun i hi _ e=>by omega) (by omega))
  have HO:=Lib.hid hown
  clear ho hB0 hx s0 hl0 hl hown
  gi_wp2
  have hx7:Ext (·=W0.heap.size) A (A.putObj W0.heap.size (.deferred none)):=ZQ _ _ _
  have hs7:=HB1.out.size
  refine ⟨by simp,.inl ⟨_,_,rfl,run_takeDeferred hK,?_⟩⟩
  refine ⟨_,results_tmp rfl _ _ _,v,rfl,?_,?_⟩
  ·exact (HO.out.ext hx7 (fun b hb e=>by have:=(HO.out.blk b hb).1;omega)).mono (by omega)
  ·exact Ext.new HB1.out hx7 (fun i hi _ e=>by omega) (by omega)
theorem XK (V:Vw) (b:Bl) (A:List Ch) (hk:Xb V.H) (ha:U1 V.H) (hA:Yf V.H A) (hAl:A.length≤10000):∀ n,UV V b A.length n
 | 0=>by
  intro u m W _ he hnm
  obtain ⟨m',h1,h2⟩:=QI hk ha hA u
  have:=Xf _ _ _ he h1
  omega
 | n+1=>Ql V b A n hA hAl (XK V b A hk ha hA hAl n) (RN V b A.length n (XK V b A hk ha hA hAl n))
theorem Q7 {K U:Type} [DecidableEq K] {l:List (K × U)} {k:K} {v:U} (h:k∉l.map (·.1)):Zw l k v=l++[(k,v)]:=by
 induction l with
 | nil=>rfl
 | cons p r ih =>
  obtain ⟨a,b⟩:=p
  have h1:¬ a=k:=fun e=>h (by rw[←e];simp)
  have h2:k∉r.map (·.1):=fun e=>h (by simp only[List.map_cons];exact List.mem_cons_of_mem _ e)
  simp only[Zw,h1,if_false,ih h2,List.cons_append]
noncomputable def YP (l:List El) (ms:List OpD) (rg:St→List Atr) (h:Zz) (A:List Ch):Vw :=
 ⟨Xr l,rg,fun u=>(YG l u).elim [] (fun s=>YI l ms s.lo s.hi),Yd l h A⟩
noncomputable def XS (l:List El) (ms:List OpD):Pcs:=(Ye l).head?.elim [] (fun s=>YI l ms s.lo s.hi)
theorem RP {C:List Ch} (hn:C.Pairwise (fun a b=>a.block≠b.block)):∃ D:List Ch,D.Perm C∧D.Pairwise (fun a b=>Yh a.block b.block):=by
 have hdec:∀ a b:St,Decidable (Yh a b):=fun _ _=>Classical.propDecidable _
 let le:Ch→Ch→Bool:=fun a b=>@decide (¬ Yh b.block a.block) (Classical.propDecidable _)
 have hle:∀ a b,le a b=true↔¬ Yh b.block a.block:=fun a b=>@decide_eq_true_iff _ (Classical.propDecidable _)
 have hs:=List.pairwise_mergeSort (le:=le) (l:=C) (fun a b c h1 h2=>by
  rw[hle] at *
  intro h3
  rcases YV a.block b.block with h|h|h
  ·exact h2 (Ys h3 h)
  ·rw[h] at h3;exact h2 h3
  ·exact h1 h) (fun a b=>by
  rw[Bool.or_eq_true,hle,hle]
  rcases YV a.block b.block with h|h|h
  ·exact .inl (fun k=>Y0 _ (Ys h k))
  ·exact .inl (by rw[h];exact Y0 _)
  ·exact .inr (fun k=>Y0 _ (Ys h k)))
 have hn2:(C.mergeSort le).Pairwise (fun a b=>a.block≠b.block):=(List.mergeSort_perm C le).symm.pairwise hn (fun h e=>h e.symm)
 refine ⟨_,List.mergeSort_perm C le,(List.pairwise_and_iff.2 ⟨hs,hn2⟩).imp (fun {a b} h=>?_)⟩
 rw[hle] at h
 rcases YV a.block b.block with k|k|k
 ·exact k
 ·exact absurd k h.2
 ·exact absurd k h.1
theorem QP {A C:List Ch} {ks:List St} (g:Gth A (fun s=>s∈ks∨∃ d∈A,d.under=s) C):C.length≤A.length+(ks.length+A.length):=by
 have h1:(C.map Ch.block).Nodup:=List.pairwise_map.2 g.nodup
 have:=h1.length_le_of_subset (l₂:=A.map Ch.block++(ks++A.map Ch.under)) (fun s hs=>by
  obtain ⟨c,hc,rfl⟩:=List.mem_map.1 hs
  rcases g.new c hc with k|⟨_,_,_,k⟩
  ·exact List.mem_append_left _ (List.mem_map.2 ⟨c,k,rfl⟩)
  ·refine List.mem_append_right _ ?_
   rcases k with k|⟨d,k1,k2⟩
   ·exact List.mem_append_left _ k
   ·exact List.mem_append_right _ (List.mem_map.2 ⟨d,k1,k2⟩))
 simpa using this
theorem Qk {l:List El} {h:Zz} {A C:List Ch} (hA:Yf h A) (hk:Xb h) (g:Gth A (fun s=>s∈(ZJ l).map (·.1)∨∃ d∈A,d.under=s) C):∃ D,Yf (Yd l h A) D∧D.length≤A.length+((ZJ l).length+A.length):=by
 have g2:=g.mono (T:=fun s=>Xr l s=true∨∃ d∈A,d.under=s) (fun s=>or_congr (Wh _ _).symm Iff.rfl)
 obtain ⟨D,h1,h2⟩:=RP g.nodup
 refine ⟨D,g2.allOf hA hk h1 h2,?_⟩
 rw[h1.length_eq]
 have:=QP g
 rwa [List.length_map] at this
def BdB (W:World) (b:Bl) (gp:Option Addr):Prop:=b.gv=.pointer gp∧W.heap[b.bb]?=some (.cells #[.slice b.va b.l.length b.ca,.map (some b.pb),.map (some b.kb),.pointer gp,.slice b.vb b.ms.length b.cb] 105 (0,0))
theorem BdB.ext {S:Nat→Prop} {W W':World} {b:Bl} {gp:Option Addr} (h:BdB W b gp) (hx:Ext S W W') (hn:¬ S b.bb):BdB W' b gp:=⟨h.1,(hx.block b.bb (Array.getElem?_eq_some_iff.1 h.2).1 hn).trans h.2⟩
theorem BdB.cells {W:World} {b:Bl} {gp:Option Addr} (h:BdB W b gp):W.cell? ⟨b.bb,0,none⟩=some (.slice b.va b.l.length b.ca)∧W.cell? ⟨b.bb,1,none⟩=some (.map (some b.pb))∧W.cell? ⟨b.bb,2,none⟩=some (.map (some b.kb))∧W.cell? ⟨b.bb,3,none⟩=some (.pointer gp)∧W.cell? ⟨b.bb,4,none⟩=some (.slice b.vb b.ms.length b.cb):=by
 have h:=h.2
 refine ⟨?_,?_,?_,?_,?_⟩ <;> simp[World.cell?,h]
theorem Qm {W:World} {b:Bl} {gp:Option Addr} {rg:St→List Atr} {h:Zz} {A C:List Ch} {F:St→List Ch} {lk:List (St × Sl)} {base:Nat} (hb:BdB W b gp) (hel:Z6 El.cells 4 W (.slice b.va b.l.length b.ca) b.l) (hop:Z6 OpD.cells 26 W (.slice b.vb b.ms.length b.cb) b.ms)
  (hln:b.l.length≤1000∧b.ms.length≤1000) (hA:Yf h A) (hk:Xb h) (hpm:Z4 St.val Spn.val W b.pb (ZJ b.l)) (g:Gth A (fun s=>s∈(ZJ b.l).map (·.1)∨∃ d∈A,d.under=s) C) (hkm:KM base W b.kb F lk) (hF:∀ u,(F u).Perm (Y8 C u)∧(F u).Pairwise Yt)
  (hrg:∀ W',Below W.heap.size W W'→∀ u:St,Calls Tryz.prog 44 #[.pointer gp,.agg #[.int .i64 u.n,.int .i64 u.r]] W' fun e w'=>Vo W' (rg u) e w'):BIs W b (YP b.l b.ms rg h A):=by
 obtain ⟨c0,c1,c2,c3,c4⟩:=hb.cells
 have g2:=g.mono (T:=fun s=>Xr b.l s=true∨∃ d∈A,d.under=s) (fun s=>or_congr (Wh _ _).symm Iff.rfl)
 have hkc:∀ u,Yc (YP b.l b.ms rg h A).H u=F u:=fun u=>Tq (g2.kidsOf hA hk (hF u).1 (hF u).2)
 refine ⟨c0,c1,c2,by rw[hb.1];exact c3,c4,hel,hop,hln,⟨_,hpm,fun u=>rfl⟩,⟨lk,hkm.map,fun u s hs=>?_,fun u hn=>?_⟩,fun W' hW u=>?_,fun u=>rfl,fun u s hs=>?_⟩
 ·rw[hkc];exact (hkm.row u s hs).slice (fun _=>rfl)
 ·rw[hkc];exact hkm.non u hn
 ·rw[hb.1];exact hrg W' hW u
 ·simp only[YP,hs,Option.elim]
theorem R7 (b o j:Nat):(⟨b,o,none⟩:Addr).add j=⟨b,o+j,none⟩:=by unfold Addr.add;split <;> simp_all
theorem SC {P:Program} {α:Type} {ea:α→List Value} {q:Nat} {t e:TypeId} (ht:P.underlying t=some (.slice e)) (hsz:(P.info? e).map (·.size)=some q) (a:Option Addr) (n cap p:Nat) (hn:n≤cap) (hp:p≤n) :
  ∃ a' c',(∀ W,(Instr.slice t (.slice a n cap) (some (.int .i64 (p:Int))) none none).run P W=.ok (.slice a' (n - p) c') W)∧(∀ W (l:List α),l.length=n→Z6 ea q W (.slice a n cap) l→Z6 ea q W (.slice a' (n - p) c') (l.drop p)):=by
 obtain ⟨i,hi,hq⟩:∃ i,P.info? e=some i∧i.size=q:=by
  cases h:P.info? e with
  | none=>rw[h] at hsz;cases hsz
  | some i=>rw[h] at hsz;exact ⟨i,rfl,Option.some.inj hsz⟩
 refine ⟨if cap=p then a else a.map (·.add (p*q)),cap - p,fun W=>?_,fun W l hl h=>?_⟩
 ·simp[Instr.slice,Instr.sliceBounds,Instr.sliceBound,asIntOf,run_underlying ht,sizeOf,typeInfo,hi,hq,hp,hn]
 ·obtain ⟨a2,c2,e2,h1,h2,h3⟩:=h
  cases e2
  refine ⟨_,_,by rw[List.length_drop],by rw[List.length_drop];omega,by omega,fun hne=>?_⟩
  have hlt:p<l.length:=by
   rcases Nat.lt_or_ge p l.length with h|h
   ·exact h
   ·exact absurd (List.drop_eq_nil_of_le (by omega)) hne
  have hl0:l≠[]:=by rintro rfl;simp at hne
  obtain ⟨b,off,rfl,h4⟩:=h3 hl0
  rw[if_neg (by omega)]
  refine ⟨b,off+p*q,by simp[R7],fun i x hi' j u hj=>?_⟩
  rw[List.getElem?_drop] at hi'
  have h5:=h4 (p+i) x hi' j u hj
  rw[Nat.add_mul] at h5
  rw[show off+p*q+i*q+j=off+(p*q+i*q)+j by omega]
  exact h5
theorem RS:Tryz.prog.underlying 106=some (.slice 109):=by kernel_rfl
theorem RE:(Tryz.prog.info? 109).map (·.size)=some 4:=by kernel_rfl
theorem Z6.spcells {w:World} {v:Value} {l:List Spn} (h:Z6 Spn.cells 4 w v l) (hne:l≠[]):∃ b o cap,v=.slice (some ⟨b,o,none⟩) l.length cap∧∀ i (x:Spn),l[i]?=some x →
  w.cell? ⟨b,o+i*4,none⟩=some (.int .i64 x.blk.n)∧w.cell? ⟨b,o+i*4+1,none⟩=some (.int .i64 x.blk.r)∧w.cell? ⟨b,o+i*4+2,none⟩=some (.int .i64 x.lo)∧w.cell? ⟨b,o+i*4+3,none⟩=some (.int .i64 x.hi):=by
 obtain ⟨a,cap,rfl,_,_,h4⟩:=h
 obtain ⟨b,o,rfl,h6⟩:=h4 hne
 exact ⟨b,o,cap,rfl,fun i x hi=>⟨h6 i x hi 0 _ rfl,h6 i x hi 1 _ rfl,h6 i x hi 2 _ rfl,h6 i x hi 3 _ rfl⟩⟩
end Go.Proofs.YtlgipkemoldckaaGreatDoor
