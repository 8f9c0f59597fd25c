/- ViewKinds, part 22 of what the proof leans on (made short by a program). -/
import Derived.Test.YtlgipkemoldckaaGreatDoorVkZ21
set_option linter.unusedSimpArgs false
set_option linter.unusedVariables false
set_option linter.unusedSectionVars false
set_option maxRecDepth 20000
set_option maxHeartbeats 30000000
namespace Go.Proofs.YtlgipkemoldckaaGreatDoor
open Go.RowKit Go.Deep
theorem TC {B:Nat} {w w':World} (h:Below B w w') {b o:Nat} {v:Value} (hb:b<B) (hc:w.cell? ⟨b,o,none⟩=some v):w'.cell? ⟨b,o,none⟩=some v:=by
 have:=h.block b hb
 simp only[World.cell?] at hc ⊢
 rw[this]
 exact hc
theorem RH (l:List UInt8):(⟨l.toArray⟩:ByteArray).data.toList=l:=by simp
theorem SS (s:ByteArray) (ss:List ByteArray):YU (s :: ss)=s.toList++YU ss:=by rw[ByteArray.toList_eq];rfl
theorem RD:YU []=[]:=rfl
theorem Wz {α:Type} {l:List α} {k:Nat} {x:α} (f:α→List UInt8) (h:l[k]?=some x):(l.take (k+1)).flatMap f=(l.take k).flatMap f++f x:=by
 rw[List.take_add_one,h,Option.toList_some,List.flatMap_append]
 simp
theorem Vt {α:Type} (l:List α) (f:α→List UInt8) (k:Nat):((l.take k).flatMap f).length≤(l.flatMap f).length:=by
 conv=>rhs;rw[←List.take_append_drop k l]
 rw[List.flatMap_append,List.length_append]
 omega
theorem UE (s:List UInt8):s.length+2≤(Yn s).length:=by
 have:s.length≤(s.flatMap Y0).length:=by
  induction s with
  | nil=>simp
  | cons c s ih =>
   rw[List.flatMap_cons,List.length_append,List.length_cons]
   have:1≤(Y0 c).length:=by unfold Y0;split <;> simp
   omega
 unfold Yn
 simp only[List.length_cons,List.length_append,List.length_nil]
 omega
theorem Zx.atr2 {D:Nat→Prop} {W:World} {a:Option Addr} {n c:Nat} {l:List Atr} (h:Zx D Atr.cells 2 W (.slice a n c) l) {k:Nat} {y:Atr} (hk:l[k]?=some y):∃ b o,a=some ⟨b,o,none⟩ ∧
  W.cell? ⟨b,o+k*2,none⟩=some (.string y.name)∧W.cell? ⟨b,o+k*2+1,none⟩=some (.string y.value):=by
 obtain ⟨⟨a',c',e,_,_,hh⟩,_⟩:=h
 injection e with e1 _ _
 subst e1
 obtain ⟨b,o,rfl,h1⟩:=hh (by intro e;rw[e] at hk;simp at hk)
 have:=h1 k y hk
 exact ⟨b,o,rfl,this 0 _ rfl,this 1 _ rfl⟩
theorem Z2t (xn xr:Int) (xk:ByteArray) (aa ta sa:Option Addr) (an ac tn tc sn sc:Nat) (az:List Atr) (t:Pcs) (D:Nat→Prop) (w:World) (ha:Zx D Atr.cells 2 w (.slice aa an ac) az) (hp:YJ D w (.slice ta tn tc) t) (ht:Xf w)
  (hbig:(WZ ⟨xn,xr⟩ xk az t).length≤35184372088832) :
  Calls Tryz.prog 51 #[.agg #[.int .i64 xn,.int .i64 xr,.string xk,.slice aa an ac,.slice ta tn tc,.slice sa sn sc]] w fun e w'=>e=.returned (.string ⟨(WZ ⟨xn,xr⟩ xk az t).toArray⟩)∧Below w.heap.size w w':=by
 have hxn:an=az.length∧az.length≤maxLen:=by
  obtain ⟨⟨a,c,e,h1,h2,_⟩,_⟩:=ha
  injection e with _ e2 _
  exact ⟨e2,Nat.le_trans h1 h2⟩
 obtain ⟨at9,ct9,et9,hct,hmt⟩:=hp.shape
 have hxt:tn=t.length:=by injection et9
 have htm:t.length≤maxLen:=Nat.le_trans hct hmt
 unfold maxLen at hxn htm
 have HNN:=Jh (And.intro hxn (And.intro hxt htm))
 have hann:an≤9223372036854775807:=by omega
 have htnn:tn≤9223372036854775807:=by omega
 clear et9 hct hmt hxn hxt htm
 have hB0:Below w.heap.size w ((w.alloc (.cells #[.int .i64 xn,.int .i64 xr,.string xk,.slice aa an ac,.slice ta tn tc,.slice sa sn sc] 28)).alloc (.cells #[.pointer none,.slice none 0 0] 66)):=((Below.refl _ _).alloc (Nat.le_refl _) _).alloc (by simp) _
 have hz1:((w.alloc (.cells #[.int .i64 xn,.int .i64 xr,.string xk,.slice aa an ac,.slice ta tn tc,.slice sa sn sc] 28)).alloc (.cells #[.pointer none,.slice none 0 0] 66)).heap.size=w.heap.size+2:=by simp
 have hbd:BdF (w.heap.size+1) (w.heap.size+1) [] ((w.alloc (.cells #[.int .i64 xn,.int .i64 xr,.string xk,.slice aa an ac,.slice ta tn tc,.slice sa sn sc] 28)).alloc (.cells #[.pointer none,.slice none 0 0] 66)):=BdF.fresh (Nat.le_refl _) (by have:=World.alloc_heap_new (w.alloc (.cells #[.int .i64 xn,.int .i64 xr,.string xk,.slice aa an ac,.slice ta tn tc,.slice sa sn sc] 28)) (.cells #[.pointer none,.slice none 0 0] 66);rwa [World.size_alloc] at this)
 have x0:((w.alloc (.cells #[.int .i64 xn,.int .i64 xr,.string xk,.slice aa an ac,.slice ta tn tc,.slice sa sn sc] 28)).alloc (.cells #[.pointer none,.slice none 0 0] 66)).cell? ⟨w.heap.size,0,none⟩=some (.int .i64 xn):=by go_simp
 have x1:((w.alloc (.cells #[.int .i64 xn,.int .i64 xr,.string xk,.slice aa an ac,.slice ta tn tc,.slice sa sn sc] 28)).alloc (.cells #[.pointer none,.slice none 0 0] 66)).cell? ⟨w.heap.size,1,none⟩=some (.int .i64 xr):=by go_simp
 have x2:((w.alloc (.cells #[.int .i64 xn,.int .i64 xr,.string xk,.slice aa an ac,.slice ta tn tc,.slice sa sn sc] 28)).alloc (.cells #[.pointer none,.slice none 0 0] 66)).cell? ⟨w.heap.size,2,none⟩=some (.string xk):=by go_simp
 have x3:((w.alloc (.cells #[.int .i64 xn,.int .i64 xr,.string xk,.slice aa an ac,.slice ta tn tc,.slice sa sn sc] 28)).alloc (.cells #[.pointer none,.slice none 0 0] 66)).cell? ⟨w.heap.size,3,none⟩=some (.slice aa an ac):=by go_simp
 have x4:((w.alloc (.cells #[.int .i64 xn,.int .i64 xr,.string xk,.slice aa an ac,.slice ta tn tc,.slice sa sn sc] 28)).alloc (.cells #[.pointer none,.slice none 0 0] 66)).cell? ⟨w.heap.size,4,none⟩=some (.slice ta tn tc):=by go_simp
 have HA:=Lib.hid ha
 have HP:=Lib.hid hp
 have HTB:Hid (∀ W,Below (w.heap.size+1) ((w.alloc (.cells #[.int .i64 xn,.int .i64 xr,.string xk,.slice aa an ac,.slice ta tn tc,.slice sa sn sc] 28)).alloc (.cells #[.pointer none,.slice none 0 0] 66)) W→Xf W):=Jh (fun W hW=>ht.below (hB0.trans (hW.mono (by omega))))
 have HZ1:=Lib.hid hz1
 have HB0:=Lib.hid hB0
 have HBD:=Lib.hid hbd
 have HBIG:=Lib.hid hbig
 clear ha hp ht hB0 hbd hbig hz1
 go_enter Tryz.func51,Tryz.ntmps51
 go_upto_region 3 with fail
 generalize ((w.alloc (.cells #[.int .i64 xn,.int .i64 xr,.string xk,.slice aa an ac,.slice ta tn tc,.slice sa sn sc] 28)).alloc (.cells #[.pointer none,.slice none 0 0] 66))=w1 at *
 have HLN:Hid (WZ ⟨xn,xr⟩ xk az t=xk.toList++(idL ⟨xn,xr⟩++(az.flatMap XT++t.flatMap pcL))):=Lib.hid rfl
 have hk3:xk.toList.length≤35184372088832:=by have:=HBIG.out;rw[HLN.out] at this;simp only[List.length_append] at this;omega
 have HP3:=Jh (Vl (w.heap.size+1) (w.heap.size+1) w1.heap.size [] [xk] (0,0) (w1.alloc (.cells #[.string xk] 9)) (HBD.out.alloc _) (World.alloc_heap_new w1 _) (by rw[SS,RD];simp only[List.length_append,List.length_nil];omega) (by have:=HZ1.out;simp;omega) (by simp))
 clear hk3
 go_wp2_with fail
 refine HP3.out.mono ?_
 rintro e w3 ⟨rfl,g1,g2,-⟩
 have HB3:Hid (Below (w.heap.size+1) w1 w3):=Jh (((Below.refl _ _).alloc (by have:=HZ1.out;omega) _).trans g2)
 have HD3:Hid (BdF (w.heap.size+1) (w.heap.size+1) xk.toList w3):=Jh (by rw[SS,RD,List.append_nil,List.nil_append] at g1;exact g1)
 clear g1 g2 HP3
 have y0:=TC HB3.out (by omega) x0
 have y1:=TC HB3.out (by omega) x1
 go_upto_region 4 with fail
 go_cut [20] from 17 to 20 (fun v wx=>v=.bool (!decide ((⟨xn,xr⟩:St)=⟨0,0⟩))∧wx=w3)
 case first =>
  by_cases e1:xn=0
  ·by_cases e2:xr=0
   ·subst e1
    subst e2
    go_wp2_with fail
    go_meet
    exact ⟨rfl,rfl⟩
   ·subst e1
    go_wp2_with fail
    go_meet
    exact ⟨by simp[e2],rfl⟩
  ·go_wp2_with fail
   go_meet
   exact ⟨by simp[e1],rfl⟩
 case rest =>
  obtain ⟨rfl,hw⟩:=hcut
  subst wc
  obtain ⟨sb,hsb⟩:=Je ((!decide ((⟨xn,xr⟩:St)=⟨0,0⟩)))
  rw[hsb]
  have HSB:=Lib.hid hsb
  clear hsb
  go_upto_if 20 with fail
  go_cut [] from 21 to 26 (fun wx=>Hid (BdF (w.heap.size+1) (w.heap.size+1) (xk.toList++idL ⟨xn,xr⟩) wx)∧Hid (Below (w.heap.size+1) w1 wx))
  case first=>as_aux_lemma =>
   cases sb with
   | false =>
    have hid0:idL ⟨xn,xr⟩=[]:=by
     have:=HSB.out
     simp only[Bool.not_eq_false',decide_eq_true_eq] at this
     unfold idL
     rw[if_pos this]
    go_wp2_with fail
    go_meet
    exact ⟨by rw[hid0,List.append_nil];exact HD3,HB3⟩
   | true =>
    have hid1:idL ⟨xn,xr⟩=32 :: 35 :: stL ⟨xn,xr⟩:=by
     have:=HSB.out
     simp only[Bool.not_eq_true',decide_eq_false_iff_not] at this
     unfold idL
     rw[if_neg this]
    have HI1:=Lib.hid hid1
    have hk5:xk.toList.length+(2+(stL ⟨xn,xr⟩).length)≤35184372088832:=by have:=HBIG.out;rw[HLN.out,hid1] at this;simp only[List.length_append,List.length_cons] at this;omega
    have HK5:=Lib.hid hk5
    clear hid1 hk5
    go_wp2_with fail
    refine (Z2e xn xr w3 (HTB.out w3 HB3.out)).mono ?_
    rintro e w4 ⟨rfl,b4⟩
    have hz4:=b4.size
    have hz3:=HB3.out.size
    have hcat:YU [⟨#[32,35]⟩,⟨(stL ⟨xn,xr⟩).toArray⟩]=32 :: 35 :: stL ⟨xn,xr⟩:=by simp[YU]
    have HP5:=Jh (Vl (w.heap.size+1) (w.heap.size+1) w4.heap.size xk.toList [⟨#[32,35]⟩,⟨(stL ⟨xn,xr⟩).toArray⟩] (0,0) (w4.alloc (.cells #[.string ⟨#[32,35]⟩,.string ⟨(stL ⟨xn,xr⟩).toArray⟩] 9)) ((HD3.out.below b4).alloc _) (World.alloc_heap_new w4 _) (by have:=HK5.out;rw[hcat];simp only[List.length_cons];omega) (by have:=HZ1.out;simp;omega) (by simp))
    have HB4:Hid (Below (w.heap.size+1) w1 w4):=Jh (HB3.out.trans (b4.mono (by have:=HZ1.out;omega)))
    clear b4
    go_wp2_with fail
    refine HP5.out.mono ?_
    rintro e w5 ⟨rfl,g1,g2,-⟩
    have HB5:Hid (Below (w.heap.size+1) w1 w5):=Jh ((HB4.out.alloc (by have:=HZ1.out;omega) _).trans g2)
    have HD5:Hid (BdF (w.heap.size+1) (w.heap.size+1) (xk.toList++idL ⟨xn,xr⟩) w5):=Jh (by rw[HI1.out];rw[hcat] at g1;exact g1)
    clear g1 g2 HP5
    go_wp2_with fail
    go_meet
    exact ⟨HD5,HB5⟩
  case rest =>
   obtain ⟨HD6,HB6⟩:=hcut
   clear HD3 HB3 HSB
   have y3:=TC HB6.out (by omega) x3
   have y4:=TC HB6.out (by omega) x4
   have y4a:=x4
   clear x0 x1 x2 x3 x4 y0 y1
   have HLN2:Hid (WZ ⟨xn,xr⟩ xk az t=(xk.toList++idL ⟨xn,xr⟩)++(az.flatMap XT++t.flatMap pcL)):=Jh (by rw[HLN.out];simp only[List.append_assoc])
   generalize hLL:WZ ⟨xn,xr⟩ xk az t=LL at *
   have HLL:=Lib.hid hLL
   clear hLL
   generalize xk.toList++idL ⟨xn,xr⟩=A0 at *
   clear HLN HBD
   go_wp2_with fail
   go_loopg [30] an (fun g iv wr=>∃ k:Nat,g=an - k∧k≤an∧iv=.int .i64 k∧Hid (BdF (w.heap.size+1) (w.heap.size+1) (A0++(az.take k).flatMap XT) wr)∧Hid (Below (w.heap.size+1) w1 wr))
   case atStart=>exact ⟨0,by omega,by omega,rfl,Jh (by simpa using HD6.out),HB6⟩
   case round =>
    obtain ⟨k,hg,hk,rfl,HD,HB⟩:=hrel
    have HG:=Lib.hid hg
    clear hg
    have HBW:Hid (Below w.heap.size w wr):=Jh (HB0.out.trans (HB.out.mono (by have:=HZ1.out;omega)))
    by_cases hkl:k<an
    ·obtain ⟨⟨nm,vl⟩,hx⟩:∃ x,az[k]?=some x:=⟨_,List.getElem?_eq_getElem (by have:=HNN.out.1;omega)⟩
     obtain ⟨b,o,rfl,u0,u1⟩:=(HA.out.ext (Ext.of_below (S:=fun _=>False) HBW.out) (fun _ _ _ f=>f) (fun _=>Nat.zero_lt_succ 1)).atr2 hx
     have hkk:(k:Int)<(an:Int):=by omega
     have hft:=Vt az XT (k+1)
     rw[Wz XT hx,List.length_append] at hft
     have hq2:=UE vl.data.toList
     have hcat:YU [⟨#[32]⟩,nm,⟨#[61]⟩,⟨(Yn vl.data.toList).toArray⟩]=XT ⟨nm,vl⟩:=by simp[YU,XT,ByteArray.toList_eq]
     have hla:(Yn vl.data.toList).length≤(XT ⟨nm,vl⟩).length:=by rw[←hcat];simp[YU];omega
     have hvs:vl.size≤35184372088832∧A0.length+((az.take k).flatMap XT).length+(XT ⟨nm,vl⟩).length≤35184372088832:=by
      have h1:=HBIG.out
      rw[HLN2.out] at h1
      simp only[List.length_append] at h1
      have h2:vl.data.toList.length=vl.size:=by rw[Array.length_toList];rfl
      omega
     have HX:=Lib.hid hx
     have HVS:=Lib.hid hvs
     have HCAT:=Lib.hid hcat
     clear hx hvs hft hq2 hla hcat
     have z0:(wr.alloc (.cells #[.string nm,.string vl] 73)).cell? ⟨wr.heap.size,0,none⟩=some (.string nm):=by go_simp
     have z1:(wr.alloc (.cells #[.string nm,.string vl] 73)).cell? ⟨wr.heap.size,1,none⟩=some (.string vl):=by go_simp
     have HD9:=Jh (HD.out.alloc (.cells #[.string nm,.string vl] 73))
     have HB9:Hid (Below (w.heap.size+1) w1 (wr.alloc (.cells #[.string nm,.string vl] 73))):=Jh (HB.out.alloc (by have:=HB.out.size;have:=HZ1.out;omega) _)
     go_upto_region 9 with fail
     have hza:=World.size_alloc wr (.cells #[.string nm,.string vl] 73)
     have HZA:=Lib.hid hza
     clear hza
     generalize (wr.alloc (.cells #[.string nm,.string vl] 73))=w9 at *
     have hS0:(fun W:World=>W.cell? ⟨wr.heap.size,0,none⟩=some (.string nm)∧W.cell? ⟨wr.heap.size,1,none⟩=some (.string vl)) w9.drew:=⟨z0,z1⟩
     refine Zf (fun W:World=>W.cell? ⟨wr.heap.size,0,none⟩=some (.string nm)∧W.cell? ⟨wr.heap.size,1,none⟩=some (.string vl)) (fun i=>i == 7) (by kernel_rfl) ?_
     refine Yf (i:=0) (d:=some 34) [7] rfl rfl rfl (by kernel_rfl) (by kernel_rfl) (by kernel_rfl) (by kernel_rfl) (fun _ _ _ h=>h) (.inl ⟨by rfl,fun W hW=>by obtain ⟨q0,q1⟩:=hW;go_simp;try rfl⟩) hS0 ?_
     try simp only[Ja]
     refine Yf (i:=1) (d:=some 35) [2,6,7] rfl rfl rfl (by kernel_rfl) (by kernel_rfl) (by kernel_rfl) (by kernel_rfl) (fun _ _ _ h=>h) (.inl ⟨by rfl,fun W hW=>by obtain ⟨q0,q1⟩:=hW;go_simp;try rfl⟩) hS0 ?_
     try simp only[Ja]
     refine Yf (i:=2) (d:=some 36) [6,7] rfl rfl rfl (by kernel_rfl) (by kernel_rfl) (by kernel_rfl) (by kernel_rfl) (fun _ _ _ h=>h) (.inl ⟨by rfl,fun W hW=>by obtain ⟨q0,q1⟩:=hW;go_simp;try rfl⟩) hS0 ?_
     try simp only[Ja]
     refine Yf (i:=3) (d:=some 37) [4,5,6,7] rfl rfl rfl (by kernel_rfl) (by kernel_rfl) (by kernel_rfl) (by kernel_rfl) (fun _ _ _ h=>h) (.inl ⟨by rfl,fun W hW=>by obtain ⟨q0,q1⟩:=hW;go_simp;try rfl⟩) hS0 ?_
     try simp only[Ja]
     refine Yf (i:=4) (d:=some 38) [5,6,7] rfl rfl rfl (by kernel_rfl) (by kernel_rfl) (by kernel_rfl) (by kernel_rfl) (fun _ _ _ h=>h) (.inl ⟨by rfl,fun W hW=>by obtain ⟨q0,q1⟩:=hW;go_simp;try rfl⟩) hS0 ?_
     try simp only[Ja]
     refine ZB (i:=5) (d:=some 39) (f:=79) (args:=#[.string vl]) (w':=w9.drew) (by kernel_rfl) rfl rfl (by rfl) (by go_simp;try rfl) ?_
     refine (U3 vl w9.drew HVS.out.1).mono ?_
     rintro e w5 ⟨rfl,b5⟩
     simp only[Y4,ZU] at b5
     have hz5:=b5.size
     have HB5:Hid (Below (w.heap.size+1) w1 w5):=Jh (HB9.out.trans (b5.mono (by have:=HB.out.size;have:=HZA.out;have:=HZ1.out;omega)))
     have HD5:=Jh (HD9.out.below b5)
     refine ⟨_,rfl,fun _=>⟨Z0 b5 z0,Z0 b5 z1⟩,?_⟩
     try simp only[Ja]
     refine Zl (i:=6) (d:=some 40) (v:=.slice (some ⟨w5.heap.size,0,none⟩) 4 4) (w':=w5.alloc (.cells #[.string ⟨#[32]⟩,.string nm,.string ⟨#[61]⟩,.string ⟨(Yn vl.data.toList).toArray⟩] 9)) (by kernel_rfl) rfl rfl (by rfl) (by go_simp;try rfl) (fun _=>⟨Z1 (Z0 b5 z0) _,Z1 (Z0 b5 z1) _⟩) ?_
     try simp only[Ja]
     refine ZB (i:=7) (d:=some 41) (f:=77) (args:=#[.slice (some ⟨w5.heap.size,0,none⟩) 4 4,.pointer (some ⟨w.heap.size+1,0,none⟩)]) (w':=w5.alloc (.cells #[.string ⟨#[32]⟩,.string nm,.string ⟨#[61]⟩,.string ⟨(Yn vl.data.toList).toArray⟩] 9)) (by kernel_rfl) rfl rfl (by rfl) (by go_simp;try rfl) ?_
     refine (Vl (w.heap.size+1) (w.heap.size+1) w5.heap.size (A0++(az.take k).flatMap XT) [⟨#[32]⟩,nm,⟨#[61]⟩,⟨(Yn vl.data.toList).toArray⟩] (0,0) _ (HD5.out.alloc _) (World.alloc_heap_new w5 _) (by rw[HCAT.out,List.length_append];have:=HVS.out.2;omega) (by rw[World.size_alloc];have:=HB5.out.size;have:=HZ1.out;omega) (by simp)).mono ?_
     rintro e w6 ⟨rfl,g1,g2,-⟩
     have HD6b:Hid (BdF (w.heap.size+1) (w.heap.size+1) (A0++(az.take (k+1)).flatMap XT) w6):=Jh (by rw[Wz XT HX.out,←HCAT.out,←List.append_assoc];exact g1)
     have HB6b:Hid (Below (w.heap.size+1) w1 w6):=Jh ((HB5.out.alloc (by have:=HB5.out.size;have:=HZ1.out;omega) _).trans g2)
     refine ⟨_,rfl,fun _=>(by rename_i hh;exact absurd hh (by decide)),?_⟩
     try simp only[Ja]
     refine Zd (by kernel_rfl) ?_ _
     clear g1 g2 b5 z0 z1 HD9 HB9 HD5 HB5 hS0 hz5
     go_wp2_with fail
     go_roundg (an - (k+1))
     case measure=>rw[HG.out];omega
     case rel=>exact ⟨k+1,rfl,hkl,by go_num,HD6b,HB6b⟩
    ·have hkk:¬ ((k:Int)<(an:Int)):=by omega
     have HD7:Hid (BdF (w.heap.size+1) (w.heap.size+1) (A0++az.flatMap XT) wr):=Jh (by have:=HD.out;rwa [List.take_of_length_le (by have:=HNN.out.1;omega)] at this)
     have z4:=TC HB.out (by omega) y4a
     have HLN3:Hid (LL=(A0++az.flatMap XT)++t.flatMap pcL):=Jh (by rw[HLN2.out];simp only[List.append_assoc])
     generalize A0++az.flatMap XT=A1 at *
     have HB7:=Lib.hid HB.out
     clear HD HB HG HLN2 HD6 HB6 y3 y4
     obtain ⟨w7,hw7⟩:∃ w7,w7=wr:=⟨_,rfl⟩
     subst hw7
     go_wp2_with fail
     go_loopg [46] tn (fun g iv wr=>∃ k:Nat,g=tn - k∧k≤tn∧iv=.int .i64 k∧Hid (BdF (w.heap.size+1) (w.heap.size+1) (A1++(t.take k).flatMap pcL) wr)∧Hid (Below (w.heap.size+1) w1 wr))
     case atStart=>exact ⟨0,by omega,by omega,rfl,Jh (by simpa using HD7.out),HB7⟩
     case round =>
      obtain ⟨k,hg,hk,rfl,HD,HB⟩:=hrel
      have HG:=Lib.hid hg
      clear hg
      have HBW:Hid (Below w.heap.size w wr):=Jh (HB0.out.trans (HB.out.mono (by have:=HZ1.out;omega)))
      by_cases hkl:k<tn
      ·obtain ⟨⟨tx,al⟩,hx⟩:∃ x,t[k]?=some x:=⟨_,List.getElem?_eq_getElem (by have:=HNN.out.2.1;omega)⟩
       obtain ⟨b,o,c5,ms,e5,-,-,u0,u1,hsl⟩:=HP.out.at hx
       injection e5 with e5 e6 e7
       clear e6 e7
       subst e5
       obtain ⟨ma,mn,mc⟩:=ms
       replace u0:=Z0 HBW.out u0
       replace u1:=Z0 HBW.out u1
       have hmn:mn=al.length∧al.length≤9223372036854775807:=by obtain ⟨a,c,e,h1,h2,_⟩:=hsl;injection e with _ e2 _;unfold maxLen at h2;exact ⟨e2,Nat.le_trans h1 h2⟩
       have HSL:=Lib.hid hsl
       have hmnn:mn≤9223372036854775807:=by omega
       have HMN:=Lib.hid hmn
       have hkk2:(k:Int)<(tn:Int):=by omega
       have hft:=Vt t pcL (k+1)
       rw[Wz pcL hx,List.length_append] at hft
       have hpc:pcL (tx,al)=32 :: (al.flatMap Wf++Yn tx.data.toList):=by unfold pcL;simp only[ByteArray.toList_eq]
       have hvs:A1.length+((t.take k).flatMap pcL).length+(1+(al.flatMap Wf).length+(Yn tx.data.toList).length)≤35184372088832:=by
        have h1:=HBIG.out
        rw[HLN3.out] at h1
        rw[hpc] at hft
        simp only[List.length_append,List.length_cons] at h1 hft
        omega
       have HX:=Lib.hid hx
       have HVS:=Lib.hid hvs
       have HPC:=Lib.hid hpc
       clear hx hvs hft hpc hsl hmn
       have HPB9:Hid ((wr.alloc (.cells #[.string tx,.slice ma mn mc] 75)).heap[wr.heap.size]?=some (.cells #[.string tx,.slice ma mn mc] 75)):=Jh (World.alloc_heap_new wr _)
       have HD9:=Jh (HD.out.alloc (.cells #[.string tx,.slice ma mn mc] 75))
       have HB9:Hid (Below (w.heap.size+1) w1 (wr.alloc (.cells #[.string tx,.slice ma mn mc] 75))):=Jh (HB.out.alloc (by have:=HB.out.size;have:=HZ1.out;omega) _)
       obtain ⟨wo,hwo⟩:∃ wo,wo=wr:=⟨_,rfl⟩
       subst hwo
       have HWO:=Lib.hid HB.out.size
       go_upto_region 14 with fail
       generalize wo.alloc (.cells #[.string tx,.slice ma mn mc] 75)=w9 at *
       have HP14:=Jh (Vl (w.heap.size+1) (w.heap.size+1) w9.heap.size _ [⟨#[32]⟩] (0,0) (w9.alloc (.cells #[.string ⟨#[32]⟩] 9)) (HD9.out.alloc _) (World.alloc_heap_new w9 _) (by have:=HVS.out;show _+1≤_;rw[List.length_append];omega) (by rw[World.size_alloc];have:=HB9.out.size;have:=HZ1.out;omega) (by simp))
       go_wp2_with fail
       refine HP14.out.mono ?_
       rintro e w10 ⟨rfl,g1,g2,g3⟩
       have HD10:Hid (BdF (w.heap.size+1) (w.heap.size+1) (A1++(t.take k).flatMap pcL++[32]) w10):=Lib.hid g1
       have HB10:Hid (Below (w.heap.size+1) w1 w10):=Jh ((HB9.out.alloc (by have:=HB9.out.size;have:=HZ1.out;omega) _).trans g2)
       have HPB10:Hid (w10.heap[wo.heap.size]?=some (.cells #[.string tx,.slice ma mn mc] 75)):=Jh ((((KpO.refl (w.heap.size+1) w9).alloc _).trans g3).block HPB9.out (by have:=HWO.out;have:=HZ1.out;omega) (by decide))
       have zp1:w10.cell? ⟨wo.heap.size,1,none⟩=some (.slice ma mn mc):=by rw[Lib.cell_of_heap HPB10.out];rfl
       clear g1 g2 g3 HP14 HD9 HB9 HPB9 u0 u1 HD HB
       generalize hA2:A1++(t.take k).flatMap pcL++[32]=A2 at *
       have HA2:=Lib.hid hA2
       clear hA2
       have HVA:Hid (A2.length+(al.flatMap Wf).length+(Yn tx.data.toList).length≤35184372088832):=Jh (by have:=HVS.out;rw[←HA2.out];simp only[List.length_append,List.length_singleton];omega)
       go_wp2_with fail
       go_loopg [56] mn (fun g iv wr=>∃ j:Nat,g=mn - j∧j≤mn∧iv=.int .i64 j∧Hid (BdF (w.heap.size+1) (w.heap.size+1) (A2++(al.take j).flatMap Wf) wr)∧Hid (Below (w.heap.size+1) w1 wr)∧Hid (wr.heap[wo.heap.size]?=some (.cells #[.string tx,.slice ma mn mc] 75)))
       case atStart=>exact ⟨0,by omega,by omega,rfl,Jh (by simpa using HD10.out),HB10,HPB10⟩
       case round =>
        obtain ⟨j,hg2,hj,rfl,HD,HB,HPB⟩:=hrel
        have HG2:=Lib.hid hg2
        clear hg2
        have HBW2:Hid (Below w.heap.size w wr):=Jh (HB0.out.trans (HB.out.mono (by have:=HZ1.out;omega)))
        by_cases hjl:j<mn
        ·obtain ⟨⟨nm,vl⟩,hx⟩:∃ x,al[j]?=some x:=⟨_,List.getElem?_eq_getElem (by have:=HMN.out.1;omega)⟩
         obtain ⟨b2,o2,rfl,u0,u1⟩:=(show Zx (fun _=>True) Atr.cells 2 wr (.slice ma mn mc) al from ⟨HSL.out.below HBW2.out,fun _ _ _ _ _ _=>trivial⟩).atr2 hx
         have hjj:(j:Int)<(mn:Int):=by omega
         have hft:=Vt al Wf (j+1)
         rw[Wz Wf hx,List.length_append] at hft
         have hq2:=UE vl.data.toList
         have hcat:YU [nm,⟨#[61]⟩,⟨(Yn vl.data.toList).toArray⟩,⟨#[58]⟩]=Wf ⟨nm,vl⟩:=by simp[YU,Wf,ByteArray.toList_eq]
         have hla:(Yn vl.data.toList).length≤(Wf ⟨nm,vl⟩).length:=by rw[←hcat];simp[YU];omega
         have hvs:vl.size≤35184372088832∧A2.length+((al.take j).flatMap Wf).length+(Wf ⟨nm,vl⟩).length≤35184372088832:=by
          have h1:=HVA.out
          have h2:vl.data.toList.length=vl.size:=by rw[Array.length_toList];rfl
          omega
         have HX2:=Lib.hid hx
         have HVS2:=Lib.hid hvs
         have HCAT:=Lib.hid hcat
         clear hx hvs hft hq2 hla hcat
         have z0:(wr.alloc (.cells #[.string nm,.string vl] 73)).cell? ⟨wr.heap.size,0,none⟩=some (.string nm):=by go_simp
         have z1:(wr.alloc (.cells #[.string nm,.string vl] 73)).cell? ⟨wr.heap.size,1,none⟩=some (.string vl):=by go_simp
         have HD9:=Jh (HD.out.alloc (.cells #[.string nm,.string vl] 73))
         have HB9:Hid (Below (w.heap.size+1) w1 (wr.alloc (.cells #[.string nm,.string vl] 73))):=Jh (HB.out.alloc (by have:=HB.out.size;have:=HZ1.out;omega) _)
         have HPB9:Hid ((wr.alloc (.cells #[.string nm,.string vl] 73)).heap[wo.heap.size]?=some (.cells #[.string tx,.slice (some ⟨b2,o2,none⟩) mn mc] 75)):=Jh (((KpO.refl (w.heap.size+1) wr).alloc _).block HPB.out (by have:=HWO.out;have:=HZ1.out;omega) (by decide))
         go_upto_region 18 with fail
         have hza:=World.size_alloc wr (.cells #[.string nm,.string vl] 73)
         have HZA:=Lib.hid hza
         clear hza
         generalize (wr.alloc (.cells #[.string nm,.string vl] 73))=w9 at *
         have hS0:(fun W:World=>W.cell? ⟨wr.heap.size,0,none⟩=some (.string nm)∧W.cell? ⟨wr.heap.size,1,none⟩=some (.string vl)) w9.drew:=⟨z0,z1⟩
         refine Zf (fun W:World=>W.cell? ⟨wr.heap.size,0,none⟩=some (.string nm)∧W.cell? ⟨wr.heap.size,1,none⟩=some (.string vl)) (fun i=>i == 7) (by kernel_rfl) ?_
         refine Yf (i:=0) (d:=some 60) [7] rfl rfl rfl (by kernel_rfl) (by kernel_rfl) (by kernel_rfl) (by kernel_rfl) (fun _ _ _ h=>h) (.inl ⟨by rfl,fun W hW=>by obtain ⟨q0,q1⟩:=hW;go_simp;try rfl⟩) hS0 ?_
         try simp only[Ja]
         refine Yf (i:=1) (d:=some 61) [2,6,7] rfl rfl rfl (by kernel_rfl) (by kernel_rfl) (by kernel_rfl) (by kernel_rfl) (fun _ _ _ h=>h) (.inl ⟨by rfl,fun W hW=>by obtain ⟨q0,q1⟩:=hW;go_simp;try rfl⟩) hS0 ?_
         try simp only[Ja]
         refine Yf (i:=2) (d:=some 62) [6,7] rfl rfl rfl (by kernel_rfl) (by kernel_rfl) (by kernel_rfl) (by kernel_rfl) (fun _ _ _ h=>h) (.inl ⟨by rfl,fun W hW=>by obtain ⟨q0,q1⟩:=hW;go_simp;try rfl⟩) hS0 ?_
         try simp only[Ja]
         refine Yf (i:=3) (d:=some 63) [4,5,6,7] rfl rfl rfl (by kernel_rfl) (by kernel_rfl) (by kernel_rfl) (by kernel_rfl) (fun _ _ _ h=>h) (.inl ⟨by rfl,fun W hW=>by obtain ⟨q0,q1⟩:=hW;go_simp;try rfl⟩) hS0 ?_
         try simp only[Ja]
         refine Yf (i:=4) (d:=some 64) [5,6,7] rfl rfl rfl (by kernel_rfl) (by kernel_rfl) (by kernel_rfl) (by kernel_rfl) (fun _ _ _ h=>h) (.inl ⟨by rfl,fun W hW=>by obtain ⟨q0,q1⟩:=hW;go_simp;try rfl⟩) hS0 ?_
         try simp only[Ja]
         refine ZB (i:=5) (d:=some 65) (f:=79) (args:=#[.string vl]) (w':=w9.drew) (by kernel_rfl) rfl rfl (by rfl) (by go_simp;try rfl) ?_
         refine (U3 vl w9.drew HVS2.out.1).mono ?_
         rintro e w5 ⟨rfl,b5⟩
         simp only[Y4,ZU] at b5
         have hz5:=b5.size
         have HB5:Hid (Below (w.heap.size+1) w1 w5):=Jh (HB9.out.trans (b5.mono (by have:=HB.out.size;have:=HZA.out;have:=HZ1.out;omega)))
         have HD5:=Jh (HD9.out.below b5)
         have HPB5:=Jh ((KpO.of_below (b:=w.heap.size+1) b5).block HPB9.out (by have:=HWO.out;have:=HZ1.out;omega) (by decide))
         refine ⟨_,rfl,fun _=>⟨Z0 b5 z0,Z0 b5 z1⟩,?_⟩
         try simp only[Ja]
         refine Zl (i:=6) (d:=some 66) (v:=.slice (some ⟨w5.heap.size,0,none⟩) 4 4) (w':=w5.alloc (.cells #[.string nm,.string ⟨#[61]⟩,.string ⟨(Yn vl.data.toList).toArray⟩,.string ⟨#[58]⟩] 9)) (by kernel_rfl) rfl rfl (by rfl) (by go_simp;try rfl) (fun _=>⟨Z1 (Z0 b5 z0) _,Z1 (Z0 b5 z1) _⟩) ?_
         try simp only[Ja]
         refine ZB (i:=7) (d:=some 67) (f:=77) (args:=#[.slice (some ⟨w5.heap.size,0,none⟩) 4 4,.pointer (some ⟨w.heap.size+1,0,none⟩)]) (w':=w5.alloc (.cells #[.string nm,.string ⟨#[61]⟩,.string ⟨(Yn vl.data.toList).toArray⟩,.string ⟨#[58]⟩] 9)) (by kernel_rfl) rfl rfl (by rfl) (by go_simp;try rfl) ?_
         refine (Vl (w.heap.size+1) (w.heap.size+1) w5.heap.size (A2++(al.take j).flatMap Wf) [nm,⟨#[61]⟩,⟨(Yn vl.data.toList).toArray⟩,⟨#[58]⟩] (0,0) _ (HD5.out.alloc _) (World.alloc_heap_new w5 _) (by rw[HCAT.out,List.length_append];have:=HVS2.out.2;omega) (by rw[World.size_alloc];have:=HB5.out.size;have:=HZ1.out;omega) (by simp)).mono ?_
         rintro e w6 ⟨rfl,g1,g2,g3⟩
         have HD6b:Hid (BdF (w.heap.size+1) (w.heap.size+1) (A2++(al.take (j+1)).flatMap Wf) w6):=Jh (by rw[Wz Wf HX2.out,←HCAT.out,←List.append_assoc];exact g1)
         have HB6b:Hid (Below (w.heap.size+1) w1 w6):=Jh ((HB5.out.alloc (by have:=HB5.out.size;have:=HZ1.out;omega) _).trans g2)
         have HPB6:Hid (w6.heap[wo.heap.size]?=some (.cells #[.string tx,.slice (some ⟨b2,o2,none⟩) mn mc] 75)):=Jh ((((KpO.refl (w.heap.size+1) w5).alloc _).trans g3).block HPB5.out (by have:=HWO.out;have:=HZ1.out;omega) (by decide))
         refine ⟨_,rfl,fun _=>(by rename_i hh;exact absurd hh (by decide)),?_⟩
         try simp only[Ja]
         refine Zd (by kernel_rfl) ?_ _
         clear g1 g2 g3 b5 z0 z1 HD9 HB9 HD5 HB5 hS0 hz5 HPB9 HPB5
         go_wp2_with fail
         go_roundg (mn - (j+1))
         case measure=>rw[HG2.out];omega
         case rel=>exact ⟨j+1,rfl,hjl,by go_num,HD6b,HB6b,HPB6⟩
        ·have hjj:¬ ((j:Int)<(mn:Int)):=by omega
         have HD7:Hid (BdF (w.heap.size+1) (w.heap.size+1) (A2++al.flatMap Wf) wr):=Jh (by have:=HD.out;rwa [List.take_of_length_le (by have:=HMN.out.1;omega)] at this)
         have zt:wr.cell? ⟨wo.heap.size,0,none⟩=some (.string tx):=by rw[Lib.cell_of_heap HPB.out];rfl
         have hqt:=UE tx.data.toList
         have htx:tx.data.toList.length=tx.size:=by rw[Array.length_toList];rfl
         have hts:tx.size≤35184372088832:=by have:=HVA.out;omega
         have HTS:=Lib.hid hts
         clear hqt htx hts
         go_wp2_with fail
         refine (U3 tx wr HTS.out).mono ?_
         rintro e w12 ⟨rfl,b12⟩
         have hcat:YU [⟨(Yn tx.data.toList).toArray⟩]=Yn tx.data.toList:=by simp[YU]
         have hz12:=b12.size
         have HB12:Hid (Below (w.heap.size+1) w1 w12):=Jh (HB.out.trans (b12.mono (by have:=HB.out.size;have:=HZ1.out;omega)))
         have HP20:=Jh (Vl (w.heap.size+1) (w.heap.size+1) w12.heap.size _ [⟨(Yn tx.data.toList).toArray⟩] (0,0) (w12.alloc (.cells #[.string ⟨(Yn tx.data.toList).toArray⟩] 9)) ((HD7.out.below b12).alloc _) (World.alloc_heap_new w12 _) (by have:=HVA.out;rw[hcat,List.length_append];omega) (by rw[World.size_alloc];have:=HB12.out.size;have:=HZ1.out;omega) (by simp))
         rw[hcat] at HP20
         clear hcat b12
         go_wp2_with fail
         refine HP20.out.mono ?_
         rintro e w13 ⟨rfl,g1,g2,-⟩
         have HD13:Hid (BdF (w.heap.size+1) (w.heap.size+1) (A1++(t.take (k+1)).flatMap pcL) w13):=Jh (by rw[Wz pcL HX.out,HPC.out];rw[←HA2.out] at g1;simp only[List.append_assoc,List.cons_append,List.nil_append,List.singleton_append] at g1 ⊢;exact g1)
         have HB13:Hid (Below (w.heap.size+1) w1 w13):=Jh ((HB12.out.alloc (by have:=HB12.out.size;have:=HZ1.out;omega) _).trans g2)
         clear g1 g2 HP20
         go_wp2_with fail
         go_roundg (tn - (k+1))
         case measure=>rw[HG.out];omega
         case rel=>exact ⟨k+1,rfl,hkl,by go_num,HD13,HB13⟩
      ·have hkk2:¬ ((k:Int)<(tn:Int)):=by omega
       have HD8:Hid (BdF (w.heap.size+1) (w.heap.size+1) LL wr):=Jh (by have:=HD.out;rwa [List.take_of_length_le (by have:=HNN.out.2.1;omega),←HLN3.out] at this)
       go_wp2_with fail
       refine (Q8 (w.heap.size+1) (w.heap.size+1) LL wr HD8.out (by have:=HB.out.size;have:=HZ1.out;omega)).mono ?_
       rintro e w20 ⟨rfl,-,b20,-⟩
       have HB20:=Jh ((HB0.out.trans (HB.out.mono (by have:=HZ1.out;omega))).trans (b20.mono (by omega)))
       clear b20
       go_wp2_with fail
       go_ret
       exact ⟨by rw[HLL.out];rfl,HB20.out⟩
end Go.Proofs.YtlgipkemoldckaaGreatDoor
namespace Go.Proofs.YtlgipkemoldckaaGreatDoor
open Go.RowKit Go.Shelf
theorem Z3R (d:Nat):Lib.repeatL [32,32] d=List.replicate (2*d) (32:UInt8):=by
 induction d with
 | zero=>rfl
 | succ d ih=>rw[show 2*(d+1)=2*d+1+1 by omega,List.replicate_succ,List.replicate_succ,Lib.repeatL,ih];rfl
theorem QU (d:Nat) (w:World) (hd:d≤35184372088832) :
  Calls Tryz.prog 50 #[.string ⟨#[32,32]⟩,.int .i64 d] w fun e w'=>e=.returned (.string ⟨(List.replicate (2*d) (32:UInt8)).toArray⟩)∧Below w.heap.size w w':=by
 have:=Any.strings_Repeat Tryz.repF RA ⟨#[32,32]⟩ d w (by omega) (by show 2*d≤_;omega)
 rw[show (⟨#[32,32]⟩:ByteArray).data.toList=[32,32] from rfl,Z3R] at this
 exact this
theorem Rt {d:Nat} {l:List Nd} {k:Nat} {n:Nd} (h:l[k]?=some n):txK d (l.take (k+1))=txK d (l.take k)++txN d n:=by
 have app:∀ (a:List Nd) (n:Nd),txK d (a++[n])=txK d a++txN d n:=fun a n=>by
  induction a with
  | nil=>rw[List.nil_append,txK,txK,txK,List.append_nil,List.nil_append]
  | cons m a ih=>rw[List.cons_append,txK,txK,ih,List.append_assoc]
 rw[List.take_add_one,h,Option.toList_some,app]
theorem Z3J (d:Nat) (l:List Nd) (k:Nat):(txK d (l.take k)).length≤(txK d l).length:=by
 have app:∀ (a b:List Nd),txK d (a++b)=txK d a++txK d b:=fun a b=>by
  induction a with
  | nil=>rw[List.nil_append,txK,List.nil_append]
  | cons m a ih=>rw[List.cons_append,txK,txK,ih,List.append_assoc]
 conv=>rhs;rw[←List.take_append_drop k l]
 rw[app,List.length_append]
 omega
theorem VB {B:Nat} {w w':World} (h:Below B w w'):Ext (fun k=>B≤k) w w':=⟨h.os,h.tape,h.output,h.size,fun k _ hn=>h.block k (by omega)⟩
def QI (n:Nd):Prop:=∀ (B b d:Nat) (l:List UInt8) (D:Nat→Prop) (x:NdV) (w:World),BdF B b l w→Zv D w x n→(∀ k,D k→k<B)→Ry B w→B≤w.heap.size→l.length+(txN d n).length≤35184372088832 →
 Calls Tryz.prog 28 #[.pointer (some ⟨b,0,none⟩),x.val,.int .i64 d] w fun e w'=>Vo B b l (txN d n) w e w'
theorem Z0N (B b d:Nat) (l:List UInt8) (D:Nat→Prop) (xn xr:Int) (xk:ByteArray) (aa ta sa:Option Addr) (an ac tn tc sn sc:Nat) (az:List Atr) (t:Pcs) (vs:List NdV) (ks:List Nd) (w:World) (hbd:BdF B b l w)
  (ha:Zx D Atr.cells 2 w (.slice aa an ac) az) (hp:YJ D w (.slice ta tn tc) t) (hs:Zx D NdV.cells 6 w (.slice sa sn sc) vs) (hn:Zc D w vs ks) (hD:∀ k,D k→k<B) (ht:Ry B w) (hB:B≤w.heap.size)
  (hbig:l.length+(List.replicate (2*d) (32:UInt8)++(WZ ⟨xn,xr⟩ xk az t++10 :: txK (d+1) ks)).length≤35184372088832) (ih:∀ n∈ks,QI n) :
  Calls Tryz.prog 28 #[.pointer (some ⟨b,0,none⟩),.agg #[.int .i64 xn,.int .i64 xr,.string xk,.slice aa an ac,.slice ta tn tc,.slice sa sn sc],.int .i64 d] w fun e w'=>Vo B b l (List.replicate (2*d) (32:UInt8)++(WZ ⟨xn,xr⟩ xk az t++10 :: txK (d+1) ks)) w e w':=by
 have hsn:sn=vs.length∧vs.length≤9223372036854775807:=by
  obtain ⟨⟨a,c,e,h1,h2,_⟩,_⟩:=hs
  injection e with _ e2 _
  unfold maxLen at h2
  exact ⟨e2,Nat.le_trans h1 h2⟩
 have hsnn:sn≤9223372036854775807:=by omega
 have hB0:Below w.heap.size w (w.alloc (.cells #[.int .i64 xn,.int .i64 xr,.string xk,.slice aa an ac,.slice ta tn tc,.slice sa sn sc] 28)):=(Below.refl _ _).alloc (Nat.le_refl _) _
 have hz1:(w.alloc (.cells #[.int .i64 xn,.int .i64 xr,.string xk,.slice aa an ac,.slice ta tn tc,.slice sa sn sc] 28)).heap.size=w.heap.size+1:=by simp
 have hnb:(w.alloc (.cells #[.int .i64 xn,.int .i64 xr,.string xk,.slice aa an ac,.slice ta tn tc,.slice sa sn sc] 28)).heap[w.heap.size]?=some (.cells #[.int .i64 xn,.int .i64 xr,.string xk,.slice aa an ac,.slice ta tn tc,.slice sa sn sc] 28):=World.alloc_heap_new w _
 have hdd:d≤17592186044416:=by simp only[List.length_append,List.length_replicate] at hbig;omega
 have HZ1:=Jh (And.intro hz1 (And.intro hB hsn))
 have HNB:=Lib.hid hnb
 have HB0:=Jh (hB0.mono hB)
 have HBD:=Jh (hbd.alloc (.cells #[.int .i64 xn,.int .i64 xr,.string xk,.slice aa an ac,.slice ta tn tc,.slice sa sn sc] 28))
 have HT:=Jh (ht.next (hB0.mono hB))
 have HI:=Jh (And.intro ha (And.intro hp (And.intro hs hn)))
 have HDD:=Lib.hid hD
 have HBIG:=Lib.hid hbig
 have HIH:=Lib.hid ih
 have HNE:Hid (w.heap.size≠b):=Jh (by have:=hbd.lt;omega)
 have HT0:Hid (∀ W,Below B w W→Xf W):=Lib.hid ht
 have HKA:Hid (KpO b w (w.alloc (.cells #[.int .i64 xn,.int .i64 xr,.string xk,.slice aa an ac,.slice ta tn tc,.slice sa sn sc] 28))):=Jh (KpO.of_below hB0)
 clear hz1 hB hsn hnb hB0 hbd ht ha hp hs hn hD hbig ih
 generalize hLL:WZ ⟨xn,xr⟩ xk az t=LL at *
 have HLL:=Lib.hid hLL
 clear hLL
 generalize hRR:List.replicate (2*d) (32:UInt8)=RR at *
 have HRR:=Lib.hid hRR
 clear hRR
 go_enter Tryz.func28,Tryz.ntmps28
 go_upto_region 1 with fail
 generalize (w.alloc (.cells #[.int .i64 xn,.int .i64 xr,.string xk,.slice aa an ac,.slice ta tn tc,.slice sa sn sc] 28))=w1 at *
 have hlen:=HBIG.out
 simp only[List.length_append,List.length_cons] at hlen
 go_wp2_with fail
 refine (QU d w1 (by omega)).mono ?_
 rintro e w2 ⟨rfl,b2⟩
 rw[HRR.out]
 have HB2:=Jh (HB0.out.trans (b2.mono (by have:=HZ1.out;omega)))
 have HK2:=Jh (KpO.of_below (b:=b) b2)
 have hz2:=HB2.out.size
 have HP2:=Jh (T2 B b l ⟨RR.toArray⟩ w2 (HBD.out.below b2) (by rw[VV];omega) (by have:=HZ1.out;omega))
 clear b2 hz2
 go_wp2_with fail
 refine HP2.out.mono ?_
 rintro e w3 ⟨rfl,g1,g2,g3⟩
 try rw[RH] at g1
 have HD3:=Lib.hid g1
 have HB3:=Jh (HB2.out.trans g2)
 have HK3:=Jh (HK2.out.trans g3)
 clear g1 g2 g3 HP2 HB2 HK2 HBD
 have hnb3:=HK3.out.block HNB.out HNE.out (by decide)
 have y0:w3.cell? ⟨w.heap.size,0,none⟩=some (.int .i64 xn):=by rw[Lib.cell_of_heap hnb3];rfl
 have y1:w3.cell? ⟨w.heap.size,1,none⟩=some (.int .i64 xr):=by rw[Lib.cell_of_heap hnb3];rfl
 have y2:w3.cell? ⟨w.heap.size,2,none⟩=some (.string xk):=by rw[Lib.cell_of_heap hnb3];rfl
 have y3:w3.cell? ⟨w.heap.size,3,none⟩=some (.slice aa an ac):=by rw[Lib.cell_of_heap hnb3];rfl
 have y4:w3.cell? ⟨w.heap.size,4,none⟩=some (.slice ta tn tc):=by rw[Lib.cell_of_heap hnb3];rfl
 have y5:w3.cell? ⟨w.heap.size,5,none⟩=some (.slice sa sn sc):=by rw[Lib.cell_of_heap hnb3];rfl
 clear hnb3
 go_upto_region 2 with fail
 have HLINE:Hid (∀ W:World,Below B w W→Calls Tryz.prog 51 #[.agg #[.int .i64 xn,.int .i64 xr,.string xk,.slice aa an ac,.slice ta tn tc,.slice sa sn sc]] W fun e w'=>e=.returned (.string ⟨LL.toArray⟩)∧Below W.heap.size W w'):=Jh (fun W hW=>by
  rw[←HLL.out]
  exact Z2t xn xr xk aa ta sa an ac tn tc sn sc az t D W (HI.out.1.ext (VB hW) (fun q hq _ h=>by have:=HDD.out q hq;omega) (fun _=>Nat.zero_lt_succ 1)) (HI.out.2.1.ext (VB hW) (fun q hq _ h=>by have:=HDD.out q hq;omega)) (HT0.out W hW) (by rw[HLL.out];omega))
 go_wp2_with fail
 refine (HLINE.out w3 HB3.out).mono ?_
 rintro e w4 ⟨rfl,b4⟩
 have HB4:=Jh (HB3.out.trans (b4.mono (by have:=HB3.out.size;have:=HZ1.out;omega)))
 have HK4:=Jh (HK3.out.trans (KpO.of_below b4))
 have HP4:=Jh (T2 B b (l++RR) ⟨LL.toArray⟩ w4 (HD3.out.below b4) (by rw[VV,List.length_append];omega) (by have:=HB4.out.size;have:=HZ1.out;omega))
 clear b4
 go_wp2_with fail
 refine HP4.out.mono ?_
 rintro e w5 ⟨rfl,g1,g2,g3⟩
 try rw[RH] at g1
 have HD5:=Lib.hid g1
 have HB5:=Jh (HB4.out.trans g2)
 have HK5:=Jh (HK4.out.trans g3)
 clear g1 g2 g3 HP4 HB4 HK4 HD3 HB3 HK3 HLINE y0 y1 y2 y3 y4 y5
 go_upto_region 3 with fail
 have HP5:=Jh (T2 B b (l++RR++LL) ⟨#[10]⟩ w5 HD5.out (by show _+1≤_;rw[List.length_append,List.length_append];omega) (by have:=HB5.out.size;have:=HZ1.out;omega))
 go_wp2_with fail
 refine HP5.out.mono ?_
 rintro e w6 ⟨rfl,g1,g2,g3⟩
 have HD6:Hid (BdF B b (l++RR++LL++[10]) w6):=Lib.hid g1
 have HB6:=Jh (HB5.out.trans g2)
 have HK6:=Jh (HK5.out.trans g3)
 clear g1 g2 g3 HP5 HB5 HK5 HD5
 have hnb6:=HK6.out.block HNB.out HNE.out (by decide)
 have y5:w6.cell? ⟨w.heap.size,5,none⟩=some (.slice sa sn sc):=by rw[Lib.cell_of_heap hnb6];rfl
 clear hnb6
 have HLL2:Hid (l++(RR++(LL++10 :: txK (d+1) ks))=(l++RR++LL++[10])++txK (d+1) ks):=Jh (by simp)
 have HLEN:Hid ((l++RR++LL++[10]).length+(txK (d+1) ks).length≤35184372088832):=Jh (by simp only[List.length_append,List.length_singleton];omega)
 generalize l++RR++LL++[10]=A0 at *
 clear hlen
 go_wp2_with fail
 go_loopg [21] sn (fun g iv wr=>∃ k:Nat,g=sn - k∧k≤sn∧iv=.int .i64 k∧Hid (BdF B b (A0++txK (d+1) (ks.take k)) wr)∧Hid (Below B w wr)∧Hid (KpO b w1 wr))
 case atStart=>exact ⟨0,by omega,by omega,rfl,Jh (by rw[List.take_zero,txK,List.append_nil];exact HD6.out),HB6,HK6⟩
 case round =>
  obtain ⟨k,hg,hk,rfl,HD,HB,HK⟩:=hrel
  have HG:=Lib.hid hg
  clear hg
  by_cases hkl:k<sn
  ·obtain ⟨⟨⟨zn,zr⟩,zk,⟨a1,a2,a3⟩,⟨b1,b2,b3⟩,⟨c1,c2,c3⟩⟩,hx⟩:∃ x,vs[k]?=some x:=⟨_,List.getElem?_eq_getElem (by have:=HZ1.out;omega)⟩
   obtain ⟨m,hm⟩:∃ x,ks[k]?=some x:=⟨_,List.getElem?_eq_getElem (by have:=HZ1.out;have:=HI.out.2.2.2.1;omega)⟩
   obtain ⟨q,o,c,e5,u0,u1,u2,u3,u4,u5⟩:=(HI.out.2.2.1.ext (VB HB.out) (fun q hq _ h=>by have:=HDD.out q hq;omega) (fun _=>Nat.zero_lt_succ 5)).node6 hx
   injection e5 with e5 e6 e7
   clear e6 e7
   subst e5
   simp only at u0 u1 u2 u3 u4 u5
   have hnd:=(HI.out.2.2.2.2 k _ m hx hm).ext (VB HB.out) (fun q hq _ h=>by have:=HDD.out q hq;omega)
   have hkk:(k:Int)<(sn:Int):=by omega
   have hle:=Z3J (d+1) ks (k+1)
   rw[Rt hm,List.length_append] at hle
   have HW9B:Hid (Below B w (wr.alloc (.cells #[.int .i64 zn,.int .i64 zr,.string zk,.slice a1 a2 a3,.slice b1 b2 b3,.slice c1 c2 c3] 28))):=Jh (HB.out.alloc (by have:=HB.out.size;have:=HZ1.out;omega) _)
   have HC:Hid (Calls Tryz.prog 28 #[.pointer (some ⟨b,0,none⟩),.agg #[.int .i64 zn,.int .i64 zr,.string zk,.slice a1 a2 a3,.slice b1 b2 b3,.slice c1 c2 c3],.int .i64 ((d+1:Nat):Int)] (wr.alloc (.cells #[.int .i64 zn,.int .i64 zr,.string zk,.slice a1 a2 a3,.slice b1 b2 b3,.slice c1 c2 c3] 28)) fun e w'=>Vo B b (A0++txK (d+1) (ks.take k)) (txN (d+1) m) (wr.alloc (.cells #[.int .i64 zn,.int .i64 zr,.string zk,.slice a1 a2 a3,.slice b1 b2 b3,.slice c1 c2 c3] 28)) e w'):=Jh (HIH.out m (List.mem_of_getElem? hm) B b (d+1) _ D ⟨⟨zn,zr⟩,zk,⟨a1,a2,a3⟩,⟨b1,b2,b3⟩,⟨c1,c2,c3⟩⟩ _ (HD.out.alloc _) (hnd.belowW ((Below.refl _ _).alloc (Nat.le_refl _) _)) HDD.out (fun W hW=>HT0.out W (HW9B.out.trans hW)) (by rw[World.size_alloc];have:=HB.out.size;have:=HZ1.out;omega) (by have:=HLEN.out;rw[List.length_append];omega))
   have HM:=Lib.hid hm
   have HK9:=Jh (HK.out.alloc (.cells #[.int .i64 zn,.int .i64 zr,.string zk,.slice a1 a2 a3,.slice b1 b2 b3,.slice c1 c2 c3] 28))
   clear hnd hle hm hx
   have z0:(wr.alloc (.cells #[.int .i64 zn,.int .i64 zr,.string zk,.slice a1 a2 a3,.slice b1 b2 b3,.slice c1 c2 c3] 28)).cell? ⟨wr.heap.size,0,none⟩=some (.int .i64 zn):=by go_simp
   have z1:(wr.alloc (.cells #[.int .i64 zn,.int .i64 zr,.string zk,.slice a1 a2 a3,.slice b1 b2 b3,.slice c1 c2 c3] 28)).cell? ⟨wr.heap.size,1,none⟩=some (.int .i64 zr):=by go_simp
   have z2:(wr.alloc (.cells #[.int .i64 zn,.int .i64 zr,.string zk,.slice a1 a2 a3,.slice b1 b2 b3,.slice c1 c2 c3] 28)).cell? ⟨wr.heap.size,2,none⟩=some (.string zk):=by go_simp
   have z3:(wr.alloc (.cells #[.int .i64 zn,.int .i64 zr,.string zk,.slice a1 a2 a3,.slice b1 b2 b3,.slice c1 c2 c3] 28)).cell? ⟨wr.heap.size,3,none⟩=some (.slice a1 a2 a3):=by go_simp
   have z4:(wr.alloc (.cells #[.int .i64 zn,.int .i64 zr,.string zk,.slice a1 a2 a3,.slice b1 b2 b3,.slice c1 c2 c3] 28)).cell? ⟨wr.heap.size,4,none⟩=some (.slice b1 b2 b3):=by go_simp
   have z5:(wr.alloc (.cells #[.int .i64 zn,.int .i64 zr,.string zk,.slice a1 a2 a3,.slice b1 b2 b3,.slice c1 c2 c3] 28)).cell? ⟨wr.heap.size,5,none⟩=some (.slice c1 c2 c3):=by go_simp
   go_upto_region 7 with fail
   generalize wr.alloc (.cells #[.int .i64 zn,.int .i64 zr,.string zk,.slice a1 a2 a3,.slice b1 b2 b3,.slice c1 c2 c3] 28)=w9 at *
   rw[show ((d+1:Nat):Int)=(d:Int)+1 from by omega] at HC
   go_wp2_with fail
   refine HC.out.mono ?_
   rintro e w10 ⟨rfl,g1,g2,g3⟩
   have HD10:Hid (BdF B b (A0++txK (d+1) (ks.take (k+1))) w10):=Jh (by rw[Rt HM.out,←List.append_assoc];exact g1)
   have HB10:=Jh (HW9B.out.trans g2)
   have HK10:=Jh (HK9.out.trans g3)
   clear g1 g2 g3 HC
   go_wp2_with fail
   go_roundg (sn - (k+1))
   case measure=>rw[HG.out];omega
   case rel=>exact ⟨k+1,rfl,hkl,by go_num,HD10,HB10,HK10⟩
  ·have hkk:¬ ((k:Int)<(sn:Int)):=by omega
   have HD8:Hid (BdF B b (l++(RR++(LL++10 :: txK (d+1) ks))) wr):=Jh (by have:=HD.out;rw[List.take_of_length_le (by have:=HZ1.out;have:=HI.out.2.2.2.1;omega)] at this;rw[HLL2.out];exact this)
   have HF:Hid (Vo B b l (RR++(LL++10 :: txK (d+1) ks)) w (.returned (.tuple #[])) wr):=Jh (⟨rfl,HD8.out,HB.out,HKA.out.trans HK.out⟩)
   go_wp2_with fail
   go_end0
   exact HF.out
theorem Z1K (n:Nd):QI n:=by
 induction n using Nd.ind with
 | _ i k az t ks ih =>
  intro B b d l D x w hbd hn hD ht hB hbig
  obtain ⟨e1,e2,ha,hp,vs,hs,hk⟩:=hn.parts
  obtain ⟨⟨xn,xr⟩,xk,⟨aa,an,ac⟩,⟨ta,tn,tc⟩,⟨sa,sn,sc⟩⟩:=x
  simp only[Nd.id,Nd.kind,Nd.attrs,Nd.text,Nd.kids] at e1 e2 ha hp hk
  subst e1 e2
  rw[txN] at hbig ⊢
  exact Z0N B b d l D xn xr xk aa ta sa an ac tn tc sn sc az t vs ks w hbd ha hp hs hk hD ht hB hbig ih
theorem Z0I (n:Nd) (D:Nat→Prop) (x:NdV) (w:World) (hn:Zv D w x n) (hD:∀ k,D k→k<w.heap.size) (ht:Xf w) (hbig:(txN 0 n).length≤35184372088832) :
  Calls Tryz.prog 12 #[x.val] w fun e w'=>e=.returned (.string ⟨(txN 0 n).toArray⟩)∧Below w.heap.size w w':=by
 obtain ⟨⟨xn,xr⟩,xk,⟨aa,an,ac⟩,⟨ta,tn,tc⟩,⟨sa,sn,sc⟩⟩:=x
 unfold NdV.val
 have hB0:Below w.heap.size w ((w.alloc (.cells #[.int .i64 xn,.int .i64 xr,.string xk,.slice aa an ac,.slice ta tn tc,.slice sa sn sc] 28)).alloc (.cells #[.pointer none,.slice none 0 0] 66)):=((Below.refl _ _).alloc (Nat.le_refl _) _).alloc (by simp) _
 have hz1:((w.alloc (.cells #[.int .i64 xn,.int .i64 xr,.string xk,.slice aa an ac,.slice ta tn tc,.slice sa sn sc] 28)).alloc (.cells #[.pointer none,.slice none 0 0] 66)).heap.size=w.heap.size+2:=by simp
 have hbd:BdF w.heap.size (w.heap.size+1) [] ((w.alloc (.cells #[.int .i64 xn,.int .i64 xr,.string xk,.slice aa an ac,.slice ta tn tc,.slice sa sn sc] 28)).alloc (.cells #[.pointer none,.slice none 0 0] 66)):=BdF.fresh (by omega) (by have:=World.alloc_heap_new (w.alloc (.cells #[.int .i64 xn,.int .i64 xr,.string xk,.slice aa an ac,.slice ta tn tc,.slice sa sn sc] 28)) (.cells #[.pointer none,.slice none 0 0] 66);rwa [World.size_alloc] at this)
 have x0:((w.alloc (.cells #[.int .i64 xn,.int .i64 xr,.string xk,.slice aa an ac,.slice ta tn tc,.slice sa sn sc] 28)).alloc (.cells #[.pointer none,.slice none 0 0] 66)).cell? ⟨w.heap.size,0,none⟩=some (.int .i64 xn):=by go_simp
 have x1:((w.alloc (.cells #[.int .i64 xn,.int .i64 xr,.string xk,.slice aa an ac,.slice ta tn tc,.slice sa sn sc] 28)).alloc (.cells #[.pointer none,.slice none 0 0] 66)).cell? ⟨w.heap.size,1,none⟩=some (.int .i64 xr):=by go_simp
 have x2:((w.alloc (.cells #[.int .i64 xn,.int .i64 xr,.string xk,.slice aa an ac,.slice ta tn tc,.slice sa sn sc] 28)).alloc (.cells #[.pointer none,.slice none 0 0] 66)).cell? ⟨w.heap.size,2,none⟩=some (.string xk):=by go_simp
 have x3:((w.alloc (.cells #[.int .i64 xn,.int .i64 xr,.string xk,.slice aa an ac,.slice ta tn tc,.slice sa sn sc] 28)).alloc (.cells #[.pointer none,.slice none 0 0] 66)).cell? ⟨w.heap.size,3,none⟩=some (.slice aa an ac):=by go_simp
 have x4:((w.alloc (.cells #[.int .i64 xn,.int .i64 xr,.string xk,.slice aa an ac,.slice ta tn tc,.slice sa sn sc] 28)).alloc (.cells #[.pointer none,.slice none 0 0] 66)).cell? ⟨w.heap.size,4,none⟩=some (.slice ta tn tc):=by go_simp
 have x5:((w.alloc (.cells #[.int .i64 xn,.int .i64 xr,.string xk,.slice aa an ac,.slice ta tn tc,.slice sa sn sc] 28)).alloc (.cells #[.pointer none,.slice none 0 0] 66)).cell? ⟨w.heap.size,5,none⟩=some (.slice sa sn sc):=by go_simp
 have HC:Hid (Calls Tryz.prog 28 #[.pointer (some ⟨w.heap.size+1,0,none⟩),.agg #[.int .i64 xn,.int .i64 xr,.string xk,.slice aa an ac,.slice ta tn tc,.slice sa sn sc],.int .i64 ((0:Nat):Int)] ((w.alloc (.cells #[.int .i64 xn,.int .i64 xr,.string xk,.slice aa an ac,.slice ta tn tc,.slice sa sn sc] 28)).alloc (.cells #[.pointer none,.slice none 0 0] 66)) fun e w'=>Vo w.heap.size (w.heap.size+1) [] (txN 0 n) ((w.alloc (.cells #[.int .i64 xn,.int .i64 xr,.string xk,.slice aa an ac,.slice ta tn tc,.slice sa sn sc] 28)).alloc (.cells #[.pointer none,.slice none 0 0] 66)) e w'):=Jh (Z1K n w.heap.size (w.heap.size+1) 0 [] D ⟨⟨xn,xr⟩,xk,⟨aa,an,ac⟩,⟨ta,tn,tc⟩,⟨sa,sn,sc⟩⟩ _ hbd (hn.belowW hB0) hD (fun W hW=>ht.below (hB0.trans hW)) (by omega) (by simpa using hbig))
 have HB0:=Lib.hid hB0
 have HZ1:=Lib.hid hz1
 clear hB0 hz1 hbd hn hD ht hbig
 go_enter Tryz.func12,Tryz.ntmps12
 go_upto_region 2 with fail
 generalize ((w.alloc (.cells #[.int .i64 xn,.int .i64 xr,.string xk,.slice aa an ac,.slice ta tn tc,.slice sa sn sc] 28)).alloc (.cells #[.pointer none,.slice none 0 0] 66))=w1 at *
 rw[show ((0:Nat):Int)=0 from rfl] at HC
 go_wp2_with fail
 refine HC.out.mono ?_
 rintro e w2 ⟨rfl,g1,g2,-⟩
 rw[List.nil_append] at g1
 have HG:=Jh (And.intro g1 g2)
 clear g1 g2 HC
 generalize hT:txN 0 n=T at *
 have HT:=Lib.hid hT
 clear hT
 go_wp2_with fail
 refine (Q8 w.heap.size (w.heap.size+1) T w2 HG.out.1 (by have:=HG.out.2.size;have:=HZ1.out;omega)).mono ?_
 rintro e w3 ⟨rfl,-,b3,-⟩
 have HF:=Jh ((HB0.out.trans HG.out.2).trans b3)
 clear b3
 go_wp2_with fail
 go_ret
 exact ⟨by rw[HT.out];rfl,HF.out⟩
end Go.Proofs.YtlgipkemoldckaaGreatDoor
namespace Go.Proofs.YtlgipkemoldckaaGreatDoor
open Go.RowKit
def YB:List El:=[⟨⟨1,0⟩,0,false⟩,⟨⟨2,0⟩,97,false⟩]
theorem Qp:ZY YB=[⟨⟨0,0⟩,0,0⟩,⟨⟨1,0⟩,1,2⟩]:=by rfl
theorem Qz:XA YB []=[]:=by
 rw[XA,Qp]
 simp only[List.head?_cons,Option.elim]
 rw[Yb,if_neg (by simp[YB])]
 rfl
theorem RU:XO YB:=by
 unfold XO YB
 refine List.pairwise_cons.2 ⟨fun y hy=>?_,List.pairwise_singleton _ _⟩
 rw[List.mem_singleton.1 hy]
 decide
abbrev noH:Zk:=fun _=>none
theorem Z3e:Zo noH []:=⟨fun c=>by simp[noH],List.Pairwise.nil⟩
theorem Z1Q:ZZ noH:=fun k c h=>by simp[noH] at h
theorem Z2v:XI noH:=fun u=>⟨0,rfl⟩
theorem U5 (s:St):X6 YB s=true↔s=⟨1,0⟩:=by
 rw[V8]
 constructor
 ·rintro ⟨x,hx,hb,rfl⟩
  simp only[YB,List.mem_cons,List.not_mem_nil,or_false] at hx
  rcases hx with rfl|rfl
  ·rfl
  ·simp[Yg] at hb
 ·rintro rfl
  exact ⟨⟨⟨1,0⟩,0,false⟩,by simp[YB],by decide,rfl⟩
theorem TP (s:St):Y6 YB noH [] s=if s=⟨1,0⟩ then some (ZE ⟨1,0⟩) else none:=by
 by_cases h:s=⟨1,0⟩
 ·subst h
  rw[if_pos rfl,V6 rfl ⟨by decide,.inl ((U5 _).2 rfl)⟩]
 ·rw[if_neg h]
  refine WC rfl (fun hc=>?_)
  rcases hc.2 with h1|⟨d,hd,_⟩
  ·exact h ((U5 _).1 h1)
  ·simp at hd
theorem Z1t:Zo (Y6 YB noH []) [ZE ⟨1,0⟩]:=by
 refine ⟨fun c=>?_,List.pairwise_singleton _ _⟩
 rw[TP,List.mem_singleton]
 constructor
 ·rintro rfl;rfl
 ·intro h
  split at h
  ·exact (Option.some.inj h).symm
  ·cases h
theorem Z12:Yl (Y6 YB noH []) ⟨0,0⟩=[ZE ⟨1,0⟩]:=by
 refine Tr ⟨fun c=>?_,List.pairwise_singleton _ _⟩
 rw[TP,List.mem_singleton]
 constructor
 ·rintro rfl;exact ⟨rfl,rfl⟩
 ·rintro ⟨h,_⟩
  split at h
  ·exact (Option.some.inj h).symm
  ·cases h
theorem Z1b (rg:St→List Atr) (n:Nat):((Ye YB [] rg noH []).tree (XA YB []) (n+1)).kids=[(Ye YB [] rg noH []).nd ⟨1,0⟩ ((Ye YB [] rg noH []).row n ⟨1,0⟩)]:=by
 rw[Vw.tree,Qz,if_pos rfl,List.nil_append,Nd.kids,Vw.row_succ]
 rw[show (Ye YB [] rg noH []).H=Y6 YB noH [] from rfl,Z12,List.flatMap_cons,List.flatMap_nil,List.append_nil,Vw.one]
 rw[if_pos (show (Ye YB [] rg noH []).live (ZE ⟨1,0⟩).block=true from (U5 _).2 rfl)]
 rfl
def Z0f:ByteArray:=⟨#[100,111,99]⟩
theorem Z35:txN 0 (.mk ⟨0,0⟩ Z0f [] [] [])=[100,111,99,10]:=by
 simp[txN,WZ,idL,txK,ByteArray.toList_eq,Z0f]
theorem Z1z (w:World) (ht:Xf w):Calls Tryz.prog 11 #[] w fun e w'=>e=.returned (.bool true)∧Below w.heap.size w w':=by
 have hB0:Below w.heap.size w (w.alloc (.cells #[.int .i64 1,.int .i64 0,.int .i64 0,.bool false,.int .i64 2,.int .i64 0,.int .i64 97,.bool false] 46)):=(Below.refl _ _).alloc (Nat.le_refl _) _
 have hsl:Z5 El.cells 4 (w.alloc (.cells #[.int .i64 1,.int .i64 0,.int .i64 0,.bool false,.int .i64 2,.int .i64 0,.int .i64 97,.bool false] 46)) (.slice (some ⟨w.heap.size,0,none⟩) YB.length 2) YB:=by
  refine ⟨some ⟨w.heap.size,0,none⟩,2,rfl,by decide,by decide,fun _=>⟨w.heap.size,0,rfl,fun i x hi j u hj=>?_⟩⟩
  have hh:=World.alloc_heap_new w (.cells #[.int .i64 1,.int .i64 0,.int .i64 0,.bool false,.int .i64 2,.int .i64 0,.int .i64 97,.bool false] 46)
  rw[Lib.cell_of_heap hh]
  match i,hi with
  | 0,hi =>
   cases hi
   match j,hj with
   | 0,hj=>exact hj
   | 1,hj=>exact hj
   | 2,hj=>exact hj
   | 3,hj=>exact hj
   | j+4,hj=>simp[El.cells] at hj
  | 1,hi =>
   cases hi
   match j,hj with
   | 0,hj=>exact hj
   | 1,hj=>exact hj
   | 2,hj=>exact hj
   | 3,hj=>exact hj
   | j+4,hj=>simp[El.cells] at hj
  | i+2,hi=>simp[YB] at hi
 have HC:=Jh (SK (some ⟨w.heap.size,0,none⟩) none none none 2 0 0 YB [] [] (fun _=>[]) noH _ hsl (by decide) RU ⟨none,0,rfl,Nat.le_refl _,Nat.zero_le _,fun h=>absurd rfl h⟩ (by decide) Z3e Z1Q Z2v rfl
  ⟨none,0,rfl,Nat.le_refl _,Nat.zero_le _,fun h=>absurd rfl h⟩ (by decide) (fun W' _ u=>(Z2V u.n u.r W').mono fun e w' ⟨he,hb⟩=>⟨_,he,Own.nil,by simp,hb⟩))
 have HB0:=Lib.hid hB0
 have HT:=Lib.hid ht
 clear hB0 hsl ht
 go_enter Tryz.func11,Tryz.ntmps11
 go_wp2_with fail
 generalize w.alloc (.cells #[.int .i64 1,.int .i64 0,.int .i64 0,.bool false,.int .i64 2,.int .i64 0,.int .i64 97,.bool false] 46)=w1 at *
 refine HC.out.mono ?_
 rintro e w2 ⟨x,n,rfl,hn,hnd,b2⟩
 have hn2:=hn _ Z1t
 obtain ⟨n,rfl⟩:∃ m,n=m+1:=⟨n - 1,by simp at hn2;omega⟩
 obtain ⟨-,-,-,-,vs,hsv,hvk⟩:=hnd.parts
 rw[Z1b] at hvk
 obtain ⟨y,rfl⟩:∃ y,vs=[y]:=by
  have:=hvk.1
  match vs,this with
  | [y],_=>exact ⟨y,rfl⟩
 have hy:=(hvk.2 0 y _ rfl rfl).parts.1
 obtain ⟨⟨xn,xr⟩,xk,⟨aa,an,ac⟩,⟨ta,tn,tc⟩,⟨sa,sn,sc⟩⟩:=x
 obtain ⟨q,o,c,e5,u0,u1,-,-,-,-⟩:=hsv.node6 (k:=0) rfl
 injection e5 with e5 e6 e7
 have e6:sn=1:=e6
 subst e5 e6 e7
 rw[hy] at u0 u1
 have v0:w2.cell? ⟨q,o,none⟩=some (.int .i64 1):=u0
 have v1:w2.cell? ⟨q,o+1,none⟩=some (.int .i64 0):=u1
 have hB2:=HB0.out.trans (b2.mono HB0.out.size)
 have hB3:=hB2.alloc (by have:=hB2.size;omega) (.cells #[.int .i64 xn,.int .i64 xr,.string xk,.slice aa an ac,.slice ta tn tc,.slice (some ⟨q,o,none⟩) 1 sc] 28)
 replace v0:=Z1 v0 (.cells #[.int .i64 xn,.int .i64 xr,.string xk,.slice aa an ac,.slice ta tn tc,.slice (some ⟨q,o,none⟩) 1 sc] 28)
 replace v1:=Z1 v1 (.cells #[.int .i64 xn,.int .i64 xr,.string xk,.slice aa an ac,.slice ta tn tc,.slice (some ⟨q,o,none⟩) 1 sc] 28)
 have x5:(w2.alloc (.cells #[.int .i64 xn,.int .i64 xr,.string xk,.slice aa an ac,.slice ta tn tc,.slice (some ⟨q,o,none⟩) 1 sc] 28)).cell? ⟨w2.heap.size,5,none⟩=some (.slice (some ⟨q,o,none⟩) 1 sc):=by go_simp
 have HB3:=Lib.hid hB3
 have hrd:∀ W,Below w.heap.size w W→Calls Tryz.prog 12 #[.agg #[.int .i64 0,.int .i64 0,.string ⟨#[100,111,99]⟩,.slice none 0 0,.slice none 0 0,.slice none 0 0]] W fun e w'=>e=.returned (.string ⟨#[100,111,99,10]⟩)∧Below W.heap.size W w':=fun W hW=>by
  have hnod:Zv (fun _=>False) W ⟨⟨0,0⟩,Z0f,Z2,Z2,Z2⟩ (.mk ⟨0,0⟩ Z0f [] [] []):=Zv.make rfl rfl Yq Vs Yq Zc.nil
  have:=Z0I _ _ _ W hnod (fun _ h=>h.elim) (HT.out.below hW) (by rw[Z35];simp)
  rw[Z35] at this
  exact this
 have HR:=Lib.hid hrd
 clear hrd u0 u1 hB2 hB3 hy hvk hsv hnd hn hn2 b2
 go_upto_region 2 with fail
 generalize w2.alloc (.cells #[.int .i64 xn,.int .i64 xr,.string xk,.slice aa an ac,.slice ta tn tc,.slice (some ⟨q,o,none⟩) 1 sc] 28)=w3 at *
 go_wp2_with fail
 refine (HR.out w3 HB3.out).mono ?_
 rintro e w4 ⟨rfl,b4⟩
 have HB4:=Jh (HB3.out.trans (b4.mono HB3.out.size))
 clear b4
 go_wp2_with fail
 go_ret
 exact ⟨rfl,HB4.out⟩
theorem Vw.row_mem {V:Vw} {n:Nat} {b:St} {k:Nd} (h:k∈V.row (n+1) b):∃ c∈Yl V.H b,(V.live c.block=true∧k=V.nd c.block (V.row n c.block))∨(V.live c.block=false∧k∈V.row n c.block):=by
 rw[Vw.row,List.mem_flatMap] at h
 obtain ⟨c,hc,hk⟩:=h
 refine ⟨c,hc,?_⟩
 by_cases hl:V.live c.block=true
 ·rw[if_pos hl,List.mem_singleton] at hk
  exact .inl ⟨hl,hk⟩
 ·rw[if_neg hl] at hk
  exact .inr ⟨by simpa using hl,hk⟩
def UO (gt:St→Option ByteArray) (rg:St→List Atr) (i:St) (k:ByteArray) (a:List Atr):Prop :=
 k=(match gt i with|some s=>if s=⟨#[]⟩ then Zs else s|none=>Zs)∧a=(rg i).filter (fun x=>decide (x.name≠ZV∧x.value≠⟨#[]⟩))
inductive WT (gt:St→Option ByteArray) (rg:St→List Atr):Nd→Prop
 | mk (i:St) (k:ByteArray) (a:List Atr) (t:Pcs) (l:List Nd):(i≠⟨0,0⟩→UO gt rg i k a)→(∀ n∈l,WT gt rg n)→WT gt rg (.mk i k a t l)
theorem Z2k (l:List Atr):(ZX l).2=l.filter (fun x=>decide (x.name≠ZV∧x.value≠⟨#[]⟩)):=by
 have:∀ (l:List Atr) (p:ByteArray × List Atr),(l.foldl ZI p).2=p.2++l.filter (fun x=>decide (x.name≠ZV∧x.value≠⟨#[]⟩)):=by
  intro l
  induction l with
  | nil=>intro p;simp
  | cons a l ih =>
   intro p
   rw[List.foldl_cons,ih,List.filter_cons]
   unfold ZI
   by_cases h1:a.value=⟨#[]⟩
   ·simp[h1]
   ·by_cases h2:a.name=ZV
    ·simp[h1,h2]
    ·simp[h1,h2]
 have:=this l (Zs,[])
 simpa [ZX] using this
theorem Z2E {l:List Atr} (hr:l.Pairwise (fun a c=>a.name.toList<c.name.toList)):(ZX l).1=(match (l.find? (fun x=>decide (x.name=ZV))) with|some x=>if x.value=⟨#[]⟩ then Zs else x.value|none=>Zs):=by
 have none1:∀ (l:List Atr) (p:ByteArray × List Atr),(∀ x∈l,x.name≠ZV)→(l.foldl ZI p).1=p.1:=by
  intro l
  induction l with
  | nil=>intro p _;rfl
  | cons a l ih =>
   intro p h
   rw[List.foldl_cons,ih _ (fun x hx=>h x (List.mem_cons_of_mem _ hx))]
   have:=h a (by simp)
   unfold ZI
   by_cases h1:a.value=⟨#[]⟩
   ·simp[h1]
   ·simp[h1,this]
 have:∀ (l:List Atr) (p:ByteArray × List Atr),l.Pairwise (fun a c=>a.name.toList<c.name.toList)→(l.foldl ZI p).1=(match (l.find? (fun x=>decide (x.name=ZV))) with|some x=>if x.value=⟨#[]⟩ then p.1 else x.value|none=>p.1):=by
  intro l
  induction l with
  | nil=>intro p _;rfl
  | cons a l ih =>
   intro p h
   rw[List.pairwise_cons] at h
   rw[List.foldl_cons]
   by_cases h2:a.name=ZV
   ·have hno:∀ x∈l,x.name≠ZV:=fun x hx e=>by
     have:=h.1 x hx
     rw[h2,e] at this
     exact List.lt_irrefl _ this
    rw[none1 l _ hno,List.find?_cons_of_pos (by simpa using h2)]
    unfold ZI
    by_cases h1:a.value=⟨#[]⟩
    ·simp[h1]
    ·simp[h1,h2]
   ·rw[ih _ h.2,List.find?_cons_of_neg (by simpa using h2)]
    have e:(ZI p a).1=p.1:=by
     unfold ZI
     by_cases h1:a.value=⟨#[]⟩
     ·simp[h1]
     ·simp[h1,h2]
    rw[e]
 exact this l (Zs,[]) hr
theorem Qf {vs:List (Pl × Wr)} {s:St} {l:List Atr} (h:XE vs s l) (gt:St→Option ByteArray) (rg:St→List Atr) (hg:gt s=(Z3 vs ⟨s,ZV⟩).map Wr.value) (hr:rg s=l):UO gt rg s (ZX (rg s)).1 (ZX (rg s)).2:=by
 refine ⟨?_,Z2k _⟩
 rw[hr,Z2E h.rising,hg]
 cases hf:l.find? (fun x=>decide (x.name=ZV)) with
 | some x =>
  have h1:=List.mem_of_find?_eq_some hf
  have h2:x.name=ZV:=by simpa using List.find?_some hf
  obtain ⟨y,hy,hv⟩:=(h.mem x).1 h1
  rw[h2] at hy
  rw[hy]
  simp only[Option.map_some,hv]
 | none =>
  cases hy:Z3 vs ⟨s,ZV⟩ with
  | none=>rfl
  | some y =>
   exfalso
   have:=(h.mem ⟨ZV,y.value⟩).2 ⟨y,hy,rfl⟩
   rw[List.find?_eq_none] at hf
   exact hf _ this (by simp)
theorem UM {V:Vw} {gt:St→Option ByteArray} (hk:∀ s,UO gt V.regs s (ZX (V.regs s)).1 (ZX (V.regs s)).2):∀ n b,∀ k∈V.row n b,WT gt V.regs k
 | 0,b,k,h=>by simp[Vw.row] at h
 | n+1,b,k,h=>by
  obtain ⟨c,hc,hh⟩:=Vw.row_mem h
  rcases hh with ⟨hl,rfl⟩|⟨hl,hk2⟩
  ·exact .mk _ _ _ _ _ (fun _=>hk _) (fun m hm=>UM hk n _ m hm)
  ·exact UM hk n _ k hk2
theorem Z0b {V:Vw} {gt:St→Option ByteArray} (hk:∀ s,UO gt V.regs s (ZX (V.regs s)).1 (ZX (V.regs s)).2) (first:Pcs) (n:Nat):WT gt V.regs (V.tree first n):=by
 refine .mk _ _ _ _ _ (fun h=>absurd rfl h) (fun k h=>?_)
 rw[List.mem_append] at h
 rcases h with h|h
 ·split at h
  ·simp at h
  ·rw[List.mem_singleton] at h
   rw[h]
   exact .mk _ _ _ _ _ (fun h=>absurd rfl h) (fun m hm=>by simp at hm)
 ·exact UM hk n _ k h
end Go.Proofs.YtlgipkemoldckaaGreatDoor
