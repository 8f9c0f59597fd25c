/- ViewKinds, part 17 of what the proof leans on (made short by a program). -/
import Derived.Test.YtlgipkemoldckaaGreatDoorVkZ16
set_option linter.unusedSimpArgs false
set_option linter.unusedVariables false
set_option linter.unusedSectionVars false
set_option maxRecDepth 20000
set_option maxHeartbeats 30000000
namespace Go.Proofs.YtlgipkemoldckaaGreatDoor
open Go.RowKit
theorem NdB.setKids {W:World} {b:Nat} {id:St} {kind:ByteArray} {x y z:Sl} (h:NdB W b id kind x y z) (x':Sl):NdB (W.setCell ⟨b,5,none⟩ (.slice x'.a x'.n x'.cap)) b id kind x y x':=by
 have h:=show W.heap[b]?=_ from h
 show (World.heap _)[b]?=_
 simp only[World.setCell,Array.getElem?_modify,if_true,h]
 rfl
theorem Yq {α:Type} {D:Nat→Prop} {ea:α→List Value} {k:Nat} {W:World}:Zx D ea k W (.slice Z2.a Z2.n Z2.cap) [] :=
 ⟨⟨none,0,rfl,Nat.le_refl _,Nat.zero_le _,fun h=>absurd rfl h⟩,fun b o n c e h=>absurd rfl h⟩
theorem Vs {D:Nat→Prop} {W:World}:YJ D W (.slice Z2.a Z2.n Z2.cap) []:=⟨[],Yq,rfl,fun j x h=>by simp at h⟩
theorem SK (va vk vb gp:Option Addr) (ca ck cb:Nat) (l:List El) (A:List Ch) (ms:List OpD) (rg:St→List Atr) (h:Zk) (w:World)
  (hl:Z5 El.cells 4 w (.slice va l.length ca) l) (hln:l.length≤990) (hul:XO l) (hv:Z5 Ch.cells 5 w (.slice vk A.length ck) A) (hAl:A.length≤1000) (hA:Zo h A) (hk:ZZ h) (ha:XI h) (h0:h ⟨0,0⟩=none)
  (hm:Z5 OpD.cells 26 w (.slice vb ms.length cb) ms) (hml:ms.length≤1000)
  (hrg:∀ W',Below w.heap.size w W'→∀ u:St,Calls Tryz.prog 44 #[.pointer gp,.agg #[.int .i64 u.n,.int .i64 u.r]] W' fun e w'=>XQ W' (rg u) e w') :
  Calls Tryz.prog 27 #[.slice va l.length ca,.slice vk A.length ck,.pointer gp,.slice vb ms.length cb] w fun e w'=>∃ (x:NdV) (n:Nat),e=.returned (.agg #[.int .i64 x.id.n,.int .i64 x.id.r,.string x.kind,.slice x.attrs.a x.attrs.n x.attrs.cap,.slice x.text.a x.text.n x.text.cap,.slice x.kids.a x.kids.n x.kids.cap]) ∧
   (∀ A':List Ch,Zo (Y6 l h A) A'→A'.length+1≤n)∧Zv (fun k=>w.heap.size≤k) w' x ((Ye l ms rg h A).tree (XA l ms) n)∧Below w.heap.size w w':=by
 have hmm:=@run_makeMap Tryz.prog
 have hz1:((((w.alloc (.cells #[.int .i64 0,.int .i64 0,.string ⟨#[]⟩,.slice none 0 0,.slice none 0 0,.slice none 0 0] 28)).alloc (.map #[] 0)).alloc (.map #[] 0)).alloc (.cells #[.slice va l.length ca,.map (some (w.heap.size+1)),.map (some (w.heap.size+1+1)),.pointer gp,.slice vb ms.length cb] 105)).heap.size=w.heap.size+4:=by simp
 have hB0:Below w.heap.size w ((((w.alloc (.cells #[.int .i64 0,.int .i64 0,.string ⟨#[]⟩,.slice none 0 0,.slice none 0 0,.slice none 0 0] 28)).alloc (.map #[] 0)).alloc (.map #[] 0)).alloc (.cells #[.slice va l.length ca,.map (some (w.heap.size+1)),.map (some (w.heap.size+1+1)),.pointer gp,.slice vb ms.length cb] 105)):=((((Below.refl _ _).alloc (Nat.le_refl _) _).alloc (by simp) _).alloc (by simp;omega) _).alloc (by simp;omega) _
 have hrb:NdB ((((w.alloc (.cells #[.int .i64 0,.int .i64 0,.string ⟨#[]⟩,.slice none 0 0,.slice none 0 0,.slice none 0 0] 28)).alloc (.map #[] 0)).alloc (.map #[] 0)).alloc (.cells #[.slice va l.length ca,.map (some (w.heap.size+1)),.map (some (w.heap.size+1+1)),.pointer gp,.slice vb ms.length cb] 105)) w.heap.size ⟨0,0⟩ ⟨#[]⟩ Z2 Z2 Z2:=(X8 w).ext ((((Ext.refl (fun _=>False) _).alloc _).alloc _).alloc _) (fun f=>f)
 have hpm:Z6 St.val Spn.val ((((w.alloc (.cells #[.int .i64 0,.int .i64 0,.string ⟨#[]⟩,.slice none 0 0,.slice none 0 0,.slice none 0 0] 28)).alloc (.map #[] 0)).alloc (.map #[] 0)).alloc (.cells #[.slice va l.length ca,.map (some (w.heap.size+1)),.map (some (w.heap.size+1+1)),.pointer gp,.slice vb ms.length cb] 105)) (w.heap.size+1) []:=by
  have:=((Z6.made (ek:=St.val) (ev:=Spn.val) (w.alloc (.cells #[.int .i64 0,.int .i64 0,.string ⟨#[]⟩,.slice none 0 0,.slice none 0 0,.slice none 0 0] 28))).alloc (.map #[] 0)).alloc (.cells #[.slice va l.length ca,.map (some (w.heap.size+1)),.map (some (w.heap.size+1+1)),.pointer gp,.slice vb ms.length cb] 105)
  rwa [World.size_alloc] at this
 have hkm:Z6 St.val Sl.val ((((w.alloc (.cells #[.int .i64 0,.int .i64 0,.string ⟨#[]⟩,.slice none 0 0,.slice none 0 0,.slice none 0 0] 28)).alloc (.map #[] 0)).alloc (.map #[] 0)).alloc (.cells #[.slice va l.length ca,.map (some (w.heap.size+1)),.map (some (w.heap.size+1+1)),.pointer gp,.slice vb ms.length cb] 105)) (w.heap.size+1+1) []:=by
  have:=(Z6.made (ek:=St.val) (ev:=Sl.val) ((w.alloc (.cells #[.int .i64 0,.int .i64 0,.string ⟨#[]⟩,.slice none 0 0,.slice none 0 0,.slice none 0 0] 28)).alloc (.map #[] 0))).alloc (.cells #[.slice va l.length ca,.map (some (w.heap.size+1)),.map (some (w.heap.size+1+1)),.pointer gp,.slice vb ms.length cb] 105)
  rwa [World.size_alloc,World.size_alloc] at this
 have hbd:BdB ((((w.alloc (.cells #[.int .i64 0,.int .i64 0,.string ⟨#[]⟩,.slice none 0 0,.slice none 0 0,.slice none 0 0] 28)).alloc (.map #[] 0)).alloc (.map #[] 0)).alloc (.cells #[.slice va l.length ca,.map (some (w.heap.size+1)),.map (some (w.heap.size+1+1)),.pointer gp,.slice vb ms.length cb] 105)) ⟨w.heap.size+1+1+1,w.heap.size+1,w.heap.size+1+1,va,ca,vb,cb,.pointer gp,l,ms⟩ gp:=by
  have:=World.alloc_heap_new (((w.alloc (.cells #[.int .i64 0,.int .i64 0,.string ⟨#[]⟩,.slice none 0 0,.slice none 0 0,.slice none 0 0] 28)).alloc (.map #[] 0)).alloc (.map #[] 0)) (.cells #[.slice va l.length ca,.map (some (w.heap.size+1)),.map (some (w.heap.size+1+1)),.pointer gp,.slice vb ms.length cb] 105)
  rw[World.size_alloc,World.size_alloc,World.size_alloc] at this
  exact ⟨rfl,this⟩
 have hl1:=hl.below hB0
 have hv1:=hv.below hB0
 have hm1:=hm.below hB0
 have HRG:=Jh (fun W (hW:Below w.heap.size w W)=>hrg W hW)
 have hnd:A.Pairwise (fun a b=>a.block≠b.block):=hA.2.imp (fun {a b} h e=>by rw[e] at h;exact Zm _ h)
 have hA0:∀ c∈A,c.block≠⟨0,0⟩:=fun c hc e=>by have:=(hA.1 c).1 hc;rw[e,h0] at this;cases this
 have HP0:=Jh (And.intro hnd hA0)
 have HHK:=Jh (And.intro hA (And.intro hk (And.intro ha h0)))
 have HIN:=Jh (And.intro hl1 (And.intro hv1 hm1))
 have HI0:=Jh (And.intro hl (And.intro hv hm))
 have HB0:=Lib.hid hB0
 have HRB:=Lib.hid hrb
 have HPM:=Lib.hid hpm
 have HKM:=Lib.hid hkm
 have HBD:=Lib.hid hbd
 have HZ1:=Lib.hid hz1
 have HUL:=Lib.hid hul
 clear hnd hA0 hA hk ha h0 hl hv hm hrg hl1 hv1 hm1 hB0 hrb hpm hkm hbd hz1 hul
 go_enter Tryz.func27,Tryz.ntmps27
 go_upto_region 2 with fail
 generalize ((((w.alloc (.cells #[.int .i64 0,.int .i64 0,.string ⟨#[]⟩,.slice none 0 0,.slice none 0 0,.slice none 0 0] 28)).alloc (.map #[] 0)).alloc (.map #[] 0)).alloc (.cells #[.slice va l.length ca,.map (some (w.heap.size+1)),.map (some (w.heap.size+1+1)),.pointer gp,.slice vb ms.length cb] 105))=w1 at *
 obtain ⟨pb,kb,bb,hpb,hkb,hbb⟩:∃ pb kb bb,w.heap.size+1=pb∧w.heap.size+1+1=kb∧w.heap.size+1+1+1=bb:=⟨_,_,_,rfl,rfl,rfl⟩
 have hord:w.heap.size<pb∧pb<kb∧kb<bb∧bb<w1.heap.size:=by have:=HZ1.out;omega
 rw[hbb,hkb,hpb] at HBD ⊢
 rw[hkb] at HKM
 rw[hpb] at HPM
 obtain ⟨ho1,ho2,ho3,ho4⟩:=hord
 clear hpb hkb hbb HZ1 hmm
 go_wp2_with fail
 refine (Z27 va ca l w1 HIN.out.1 (by omega)).mono ?_
 rintro e w2 ⟨u,rfl,hown,b2⟩
 obtain ⟨n0,R,hP⟩:=Xq l
 have hR:ZJ l=R.map (fun s=>(s.blk,s)):=by unfold ZJ;rw[hP];rfl
 have hnk:=Tg HUL.out
 have hRl:R.length≤l.length:=by have:=UP l;rw[hP] at this;simp at this;omega
 rw[hP] at hown
 rcases hown.eq_slice with ⟨_,e⟩|⟨gb,cs,rfl,hg1,hg2⟩
 ·cases e
 obtain ⟨_,_,e,hcs1,hcs2,-⟩:=hown.slice (fun _=>rfl)
 cases e
 unfold maxLen at hcs2
 obtain ⟨a1,c1,hsl,hS1⟩:=Z0U (P:=Tryz.prog) (ea:=Spn.cells) Z1D Z1n (some ⟨gb,0,none⟩) (R.length+1) cs 1 hcs1 (by omega)
 have hsl2:∀ W,(Instr.slice 106 (.slice (some ⟨gb,0,none⟩) (R.length+1) cs) (some (.int .i64 1)) none none).run Tryz.prog W=.ok (.slice a1 R.length c1) W:=hsl
 have hz2:=b2.size
 have HS1:Hid (∀ W,Ext (·=pb) w2 W→Z5 Spn.cells 4 W (.slice a1 R.length c1) R):=Jh (fun W hW=>hS1 W (⟨⟨0,0⟩,0,n0⟩ :: R) rfl ((hown.ext hW (fun j hj e=>by have:=(hown.blk j hj).1;omega)).slice (fun _=>rfl)))
 have HOW:=Lib.hid hown
 have HPR:=Jh (And.intro hP hR)
 have HNK:=Lib.hid hnk
 have HB2:=Jh (HB0.out.trans (b2.mono HB0.out.size))
 have HPM2:=Jh (HPM.out.below b2)
 have HKM2:=Jh (HKM.out.below b2)
 have HBD2:=Jh (HBD.out.ext (Ext.of_below (S:=fun _=>False) b2) (fun f=>f))
 have HRB2:=Jh (HRB.out.ext (Ext.of_below (S:=fun _=>False) b2) (fun f=>f))
 clear hsl hS1 hown hP hR hnk b2 HB0 HPM HKM HBD HRB HIN HUL
 have hlen0:∀ (s:Spn) (r:List Spn),(s :: r).length=r.length+1:=fun _ _=>rfl
 simp only[hlen0]
 clear hlen0
 go_wp2_with fail
 go_loopg [27] R.length (fun g iv wx=>∃ k:Nat,g=R.length - k∧k≤R.length∧iv=.int .i64 k∧Hid (Z6 St.val Spn.val wx pb ((ZJ l).take k))∧Hid (Ext (·=pb) w2 wx))
 case atStart=>exact ⟨0,rfl,Nat.zero_le _,rfl,HPM2,Jh (Ext.refl _ _)⟩
 case round =>
  obtain ⟨k,hg,hk,rfl,HM,HX⟩:=hrel
  have HG:=Lib.hid hg
  have hwz:=HX.out.size
  clear hg
  have hbd:=HBD2.out.ext HX.out (fun e=>by (try simp only at e);omega)
  by_cases hlt:k<R.length
  ·obtain ⟨x,hx⟩:∃ x,R[k]?=some x:=⟨_,List.getElem?_eq_getElem hlt⟩
   have hkk:(k:Int)<(R.length:Int):=by omega
   have hk0:(0:Int)≤(k:Int):=by omega
   obtain ⟨ba,oa,ca1,e1,hcs⟩:=(HS1.out _ HX.out).spcells (by intro e;rw[e] at hlt;simp at hlt)
   cases e1
   obtain ⟨y0,y1,y2,y3⟩:=hcs k _ hx
   have hpk:(ZJ l)[k]?=some (x.blk,x):=by rw[HPR.out.2,List.getElem?_map,hx];rfl
   have hfr:x.blk∉((ZJ l).take k).map (·.1):=by
    intro hm
    have hnd:=HNK.out
    have hkl:=(List.getElem?_eq_some_iff.1 hpk).1
    rw[←List.take_append_drop k (ZJ l),List.map_append,List.nodup_append] at hnd
    refine hnd.2.2 _ hm x.blk (List.mem_map.2 ⟨(x.blk,x),?_,rfl⟩) rfl
    exact List.mem_iff_getElem?.2 ⟨0,by rw[List.getElem?_drop];exact hpk⟩
   have hst:Zw ((ZJ l).take k) x.blk x=(ZJ l).take (k+1):=by rw[Z2N hfr,List.take_add_one,hpk];rfl
   have HST:=Lib.hid hst
   obtain ⟨⟨xn,xr⟩,xlo,xhi⟩:=x
   simp only at y0 y1 y2 y3
   clear hx hcs hpk hfr hst
   go_upto_region 6 with fail
   have hsb:SpB (wr.alloc (.cells #[.int .i64 xn,.int .i64 xr,.int .i64 xlo,.int .i64 xhi] 109)) wr.heap.size ⟨xn,xr⟩ xlo xhi:=World.alloc_heap_new wr _
   have hm4:=HM.out.alloc (.cells #[.int .i64 xn,.int .i64 xr,.int .i64 xlo,.int .i64 xhi] 109)
   have hx4:=Jh (HX.out.alloc (.cells #[.int .i64 xn,.int .i64 xr,.int .i64 xlo,.int .i64 xhi] 109))
   obtain ⟨d0,d1,d2,d3,d4⟩:=(hbd.ext ((Ext.refl (fun _=>False) wr).alloc (.cells #[.int .i64 xn,.int .i64 xr,.int .i64 xlo,.int .i64 xhi] 109)) (fun f=>f)).cells
   clear y0 y1 y2 y3 hbd d0 d2 d3 d4
   generalize wr.alloc (.cells #[.int .i64 xn,.int .i64 xr,.int .i64 xlo,.int .i64 xhi] 109)=w4 at *
   obtain ⟨s0,s1,s2,s3,-⟩:=hsb.cells
   have hupd:(Instr.mapUpdate 102 (.map (some pb)) (.agg #[.int .i64 xn,.int .i64 xr]) (.agg #[.int .i64 xn,.int .i64 xr,.int .i64 xlo,.int .i64 xhi])).run Tryz.prog w4.drew=.ok () (Zp w4.drew pb (Zr ((ZJ l).take k) ⟨xn,xr⟩) (St.val ⟨xn,xr⟩) (Spn.val ⟨⟨xn,xr⟩,xlo,xhi⟩)):=hm4.drew.update ZN Sb ⟨xn,xr⟩ _
   have hS0:(fun W:World=>W.cell? ⟨bb,1,none⟩=some (.map (some pb))∧W.cell? ⟨wr.heap.size,0,none⟩=some (.int .i64 xn)∧W.cell? ⟨wr.heap.size,1,none⟩=some (.int .i64 xr)∧W.cell? ⟨wr.heap.size,2,none⟩=some (.int .i64 xlo)∧W.cell? ⟨wr.heap.size,3,none⟩=some (.int .i64 xhi)) w4.drew:=⟨d1,s0,s1,s2,s3⟩
   refine Zf (fun W:World=>W.cell? ⟨bb,1,none⟩=some (.map (some pb))∧W.cell? ⟨wr.heap.size,0,none⟩=some (.int .i64 xn)∧W.cell? ⟨wr.heap.size,1,none⟩=some (.int .i64 xr)∧W.cell? ⟨wr.heap.size,2,none⟩=some (.int .i64 xlo)∧W.cell? ⟨wr.heap.size,3,none⟩=some (.int .i64 xhi)) (fun i=>i == 7) (by kernel_rfl) ?_
   refine JR 0 31 _ rfl rfl hS0 (fun W hW=>by obtain ⟨q0,q1,q2,q3,q4⟩:=hW;go_simp;try rfl) ?_
   try simp only[Ja]
   refine JR 1 32 _ rfl rfl hS0 (fun W hW=>by obtain ⟨q0,q1,q2,q3,q4⟩:=hW;go_simp;try rfl) ?_
   try simp only[Ja]
   refine JR 2 33 _ rfl rfl hS0 (fun W hW=>by obtain ⟨q0,q1,q2,q3,q4⟩:=hW;go_simp;try rfl) ?_
   try simp only[Ja]
   refine JR 3 34 (.map (some pb)) rfl rfl hS0 (fun W hW=>by obtain ⟨q0,q1,q2,q3,q4⟩:=hW;go_simp;try rfl) ?_
   try simp only[Ja]
   refine JR 4 35 _ rfl rfl hS0 (fun W hW=>by obtain ⟨q0,q1,q2,q3,q4⟩:=hW;go_simp;try rfl) ?_
   try simp only[Ja]
   refine JR 5 36 (.agg #[.int .i64 xn,.int .i64 xr]) rfl rfl hS0 (fun W hW=>by obtain ⟨q0,q1,q2,q3,q4⟩:=hW;go_simp;try rfl) ?_
   try simp only[Ja]
   refine JR 6 37 (.agg #[.int .i64 xn,.int .i64 xr,.int .i64 xlo,.int .i64 xhi]) rfl rfl hS0 (fun W hW=>by obtain ⟨q0,q1,q2,q3,q4⟩:=hW;go_simp;try rfl) ?_
   try simp only[Ja]
   refine Zh (i:=7) (d:=none) (w':=Zp w4.drew pb (Zr ((ZJ l).take k) ⟨xn,xr⟩) (St.val ⟨xn,xr⟩) (Spn.val ⟨⟨xn,xr⟩,xlo,xhi⟩)) (by kernel_rfl) rfl rfl (by rfl) (by go_simp;try rw[hupd]) (fun h=>by cases h) ?_
   try simp only[Ja]
   refine Zd (by kernel_rfl) ?_ _
   have HM5:=Jh (hm4.drew.put ⟨xn,xr⟩ (⟨⟨xn,xr⟩,xlo,xhi⟩:Spn))
   have HX5:=Jh (Ext.trans (⟨hx4.out.os,hx4.out.tape,hx4.out.output,hx4.out.size,hx4.out.block⟩:Ext (·=pb) w2 w4.drew) (Xr w4.drew pb (Zr ((ZJ l).take k) ⟨xn,xr⟩) (St.val ⟨xn,xr⟩) (Spn.val ⟨⟨xn,xr⟩,xlo,xhi⟩)))
   clear hS0 hupd hm4 hx4 hsb s0 s1 s2 s3 d1
   generalize Zp w4.drew pb (Zr ((ZJ l).take k) ⟨xn,xr⟩) (St.val ⟨xn,xr⟩) (Spn.val ⟨⟨xn,xr⟩,xlo,xhi⟩)=w5 at *
   go_wp2_with fail
   go_roundg (R.length - (k+1))
   case measure=>rw[HG.out];omega
   case rel=>exact ⟨k+1,rfl,hlt,by go_num,by rw[←HST.out];exact HM5,HX5⟩
  ·obtain rfl:k=R.length:=by omega
   have hkk:¬ (R.length:Int)<(R.length:Int):=by omega
   have hpr:(ZJ l).length=R.length:=by rw[HPR.out.2,List.length_map]
   rw[←hpr,List.take_length] at HM
   have HPL:=Lib.hid hpr
   clear hpr hlt hk
   obtain ⟨-,d1,d2,-,-⟩:=hbd.cells
   have HBD3:=Lib.hid hbd
   have HB3:=Jh (Ext.new HB2.out HX.out (fun i hi _ e=>by omega) HB2.out.size)
   have hkm3:=HKM2.out.ext HX.out (fun e=>by (try simp only at e);omega)
   have HRB3:=Jh (HRB2.out.ext HX.out (fun e=>by (try simp only at e);omega))
   have HOW3:=Jh (HOW.out.ext HX.out (fun j hj e=>by have:=(HOW.out.blk j hj).1;omega))
   have HKM3:=Lib.hid hkm3
   clear hbd hkm3 HBD2 HKM2 HRB2 HS1 HPM2
   go_wp2_with fail
   refine (Z1O bb kb pb vk ck A (ZJ l) wr d1 d2 HM.out (by rw[HPL.out];omega) HKM3.out (HI0.out.2.1.below HB3.out) hAl HP0.out.1 HP0.out.2 (by omega)).mono ?_
   rintro e w5 ⟨rfl,C,F,lk,g,hkm5,hF,hx5⟩
   have hz5:=hx5.size
   have hb5:=Ext.new HB3.out hx5 (fun i hi _ e=>by (try simp only at e);omega) HB3.out.size
   have hbd5:=HBD3.out.ext hx5 (fun e=>by (try simp only at e);omega)
   have hpm5:=HM.out.ext hx5 (fun e=>by (try simp only at e);omega)
   obtain ⟨D,hD,hDl⟩:=RT HHK.out.1 HHK.out.2.1 g
   rw[HPL.out] at hDl
   have hbi:=Z2u (b:=⟨bb,pb,kb,va,ca,vb,cb,.pointer gp,l,ms⟩) hbd5 (HI0.out.1.below hb5) (HI0.out.2.2.below hb5) ⟨by show l.length≤1000;omega,hml⟩ HHK.out.1 HHK.out.2.1 hpm5 g hkm5 hF (fun W hW=>HRG.out W (hb5.trans (hW.mono hb5.size)))
   have HBI:=Lib.hid hbi
   have HB5:=Lib.hid hb5
   have HDD:=Lib.hid hD
   have HRB5:=Jh (HRB3.out.ext hx5 (fun e=>by (try simp only at e);omega))
   have HOW5:=Jh (HOW3.out.ext hx5 (fun j hj e=>by have:=(HOW3.out.blk j hj).1;(try simp only at e);omega))
   have hw5:w1.heap.size≤w5.heap.size:=by omega
   clear g hkm5 hF hx5 hb5 hbd5 hpm5 hbi hD HM HX HKM3 HRB3 HOW3 HBD3 HB3 HP0 HRG HNK HPL d1 d2 hkk
   go_upto_region 10 with fail
   have hdn:NdB (w5.alloc (.cells #[.int .i64 0,.int .i64 0,.string ⟨#[100,111,99]⟩,.slice none 0 0,.slice none 0 0,.slice none 0 0] 28)) w5.heap.size ⟨0,0⟩ ⟨#[100,111,99]⟩ Z2 Z2 Z2:=World.alloc_heap_new w5 _
   have hb6:Below w5.heap.size w5 (w5.alloc (.cells #[.int .i64 0,.int .i64 0,.string ⟨#[100,111,99]⟩,.slice none 0 0,.slice none 0 0,.slice none 0 0] 28)):=(Below.refl _ _).alloc (Nat.le_refl _) _
   have hz6:(w5.alloc (.cells #[.int .i64 0,.int .i64 0,.string ⟨#[100,111,99]⟩,.slice none 0 0,.slice none 0 0,.slice none 0 0] 28)).heap.size=w5.heap.size+1:=by simp
   have how6:=HOW5.out.alloc (.cells #[.int .i64 0,.int .i64 0,.string ⟨#[100,111,99]⟩,.slice none 0 0,.slice none 0 0,.slice none 0 0] 28)
   generalize w5.alloc (.cells #[.int .i64 0,.int .i64 0,.string ⟨#[100,111,99]⟩,.slice none 0 0,.slice none 0 0,.slice none 0 0] 28)=w6 at *
   have HZ6:=Lib.hid hz6
   have hz6l:w5.heap.size<w6.heap.size:=by omega
   obtain ⟨ba,oa,ca1,e1,hcs⟩:=(how6.slice (fun _=>rfl)).spcells (by simp)
   cases e1
   obtain ⟨y0,y1,y2,y3⟩:=hcs 0 _ rfl
   simp only[Nat.zero_mul,Nat.add_zero,Nat.zero_add] at y0 y1 y2 y3
   have y2b:w6.cell? ⟨gb,2,none⟩=some (.int .i64 0):=y2
   have hsl6:=HI0.out.1.below (HB5.out.trans (hb6.mono HB5.out.size))
   have hop6:=HI0.out.2.2.below (HB5.out.trans (hb6.mono HB5.out.size))
   have HSL6:=Lib.hid hsl6
   have HOP6:=Lib.hid hop6
   have HDN:=Lib.hid hdn
   have HB6:=Lib.hid hb6
   have hRn:(0:Int)<((R.length+1:Nat):Int):=by omega
   clear hz6 how6 hcs hsl6 hop6 hdn hb6 y2 HOW5 HOW
   go_wp2_with fail
   refine (S5 va vb ca cb l ms 0 0 0 n0 w6 HSL6.out HOP6.out (by omega) hml).mono ?_
   rintro e w7 ⟨q,rfl,hq,b7⟩
   have hfp:XA l ms=Yb l ms 0 n0:=by unfold XA;rw[HPR.out.1];rfl
   rw[←hfp] at hq
   obtain ⟨F0,hF0⟩:=Je (XA l ms)
   rw[hF0] at hq
   have HF0:=Lib.hid hF0
   obtain ⟨qa,qc,rfl,hq1,hq2⟩:=hq.out.shape
   have HQ:=Lib.hid hq.out.toD
   have hz7:=b7.size
   have HD7:=Jh (HDN.out.ext (Ext.of_below (S:=fun _=>False) b7) (fun f=>f))
   have HB7:=Jh (HB6.out.trans (b7.mono (Nat.le_of_lt hz6l)))
   clear hfp hF0 hq b7 y0 y1 y2b y3 hRn HSL6 HOP6 HDN HB6
   obtain ⟨B,hBe⟩:∃ B,B=w7.heap.size:=⟨_,rfl⟩
   have hB1:w5.heap.size<B:=by omega
   have hB2:B≤w7.heap.size:=by omega
   clear hBe
   by_cases hF:F0=[]
   ·subst hF
    simp only[List.length_nil]
    go_upto_region 13 with fail
    have HB8:=Lib.hid HB7.out
    have HND8:=Lib.hid HD7.out
    have HOK8:=Jh (Own.nil:Own NdV.cells 6 28 B w7 Z2.val [])
    have HNS8:=Jh (Zc.nil:Zc (fun j=>w.heap.size<j∧j≠w5.heap.size∧¬ Z2.val.ownBlock=some j) w7 [] [])
    have hlv:([]:List NdV).length≤1:=by first|exact Nat.zero_le _|exact Nat.le_refl _
    generalize w7=w8 at *
    have hz8:=HB8.out.size
    have hrow:=Vr (Ye l ms rg h A) ⟨bb,pb,kb,va,ca,vb,cb,.pointer gp,l,ms⟩ D (WI HHK.out.2.1) (Wy HHK.out.2.2.1 HHK.out.2.2.2) HDD.out (by omega) (D.length+1) ⟨0,0⟩ 0 w8 (HBI.out.below HB8.out) (YO HHK.out.2.2.2) (by omega)
    have hrl:=Vw.row_le (V:=Ye l ms rg h A) (n:=D.length+1) (b:=⟨0,0⟩) (m:=0) HDD.out (YO HHK.out.2.2.2)
    have HROW:=Lib.hid hrow
    clear hrow
    obtain ⟨-,-,-,-,-,d5,-⟩:=HND8.out.cells
    simp only[Z2] at d5
    have HS:Hid (∀ W,Below w8.heap.size w8 W→W.cell? ⟨w5.heap.size,5,none⟩=some (.slice none 0 0)):=Jh (fun W hW=>Z0 hW d5)
    have hS0:(fun W:World=>W.cell? ⟨w5.heap.size,5,none⟩=some (.slice none 0 0)) w8.drew:=d5
    have hb8d:Below w8.heap.size w8 w8.drew:=(Below.refl _ _).drew
    refine Zf (fun W:World=>W.cell? ⟨w5.heap.size,5,none⟩=some (.slice none 0 0)) (fun i=>i == 7) (by kernel_rfl) ?_
    refine JR 0 59 _ rfl rfl hS0 (fun W hW=>by have q0:=hW;go_simp;try rfl) ?_
    try simp only[Ja]
    refine JR 1 60 (.slice none 0 0) rfl rfl hS0 (fun W hW=>by have q0:=hW;go_simp;try rfl) ?_
    try simp only[Ja]
    refine JR 2 61 _ rfl rfl hS0 (fun W hW=>by have q0:=hW;go_simp;try rfl) ?_
    try simp only[Ja]
    refine JR 3 62 (.agg #[.int .i64 0,.int .i64 0]) rfl rfl hS0 (fun W hW=>by have q0:=hW;go_simp;try rfl) ?_
    try simp only[Ja]
    refine ZB (i:=4) (d:=some 63) (w':=w8.drew) (by kernel_rfl) rfl rfl (by rfl) (by go_simp;try rfl) (((Vr (Ye l ms rg h A) ⟨bb,pb,kb,va,ca,vb,cb,.pointer gp,l,ms⟩ D (WI HHK.out.2.1) (Wy HHK.out.2.2.1 HHK.out.2.2.2) HDD.out (by omega) (D.length+1) ⟨0,0⟩ 0 w8.drew ((HBI.out.below HB8.out).below hb8d) (YO HHK.out.2.2.2) (by omega))).mono ?_)
    rintro e w9 ⟨v9,us,rfl,hown9,hn9,b9⟩
    have hb9:Below w8.heap.size w8 w9:=hb8d.trans b9
    have hul:us.length≤D.length:=by rw[hn9.1];exact hrl
    have hz9:=hb9.size
    have hok9:=HOK8.out.ext (Ext.of_below (S:=fun _=>False) hb9) (fun _ _ f=>f)
    have hS9:=HS.out _ hb9
    obtain ⟨⟨ga,gn,gc⟩,rfl⟩:=hown9.sl20
    obtain ⟨i0,hi,hz0,hz1,hz2'⟩:=info_parts Xc
    obtain ⟨v10,w10,hr10,hown10,hx10,hfr10⟩:=XF (P:=Tryz.prog) 26 26 i0 (.agg #[.int .i64 0,.int .i64 0,.string ⟨#[]⟩,.slice none 0 0,.slice none 0 0,.slice none 0 0]) 104 YN hi hz0 hz1 hz2' rfl (by omega) NdV.len NdV.one hok9 hown9 (by unfold maxLen;omega) (by omega) (by omega)
    obtain ⟨⟨g8,n8,c8⟩,rfl⟩:=hown10.sl20
    have hblk:∀ j,(Sl.val Z2).ownBlock=some j→B≤j∧j<w8.heap.size:=fun j hj=>HOK8.out.blk j hj
    have hxz:=hx10.size
    have hnd10:=(HND8.out.ext (Ext.of_below (S:=fun _=>False) hb9) (fun f=>f)).ext hx10 (fun e=>by have:=hblk _ e;omega)
    have hrb10:=(((HRB5.out.ext (Ext.of_below (S:=fun _=>False) HB8.out) (fun f=>f)).ext (Ext.of_below (S:=fun _=>False) hb9) (fun f=>f)).ext hx10 (fun e=>by have:=hblk _ e;omega))
    obtain ⟨e0,e1,e2,e3,e4,e5,ef⟩:=hnd10.cells
    simp only[Z2] at e3 e4 e5
    have ef5:=ef 5
    have hS10:(fun W:World=>W.cell? ⟨w5.heap.size,5,none⟩=some (.slice none 0 0)) w10:=e5
    (try simp only[Sl.val,Z2] at hr10)
    refine ⟨_,rfl,fun _=>hS9,?_⟩
    try simp only[Ja]
    refine Zl (i:=5) (d:=some 64) (v:=.slice g8 n8 c8) (w':=w10) (by kernel_rfl) rfl rfl (by rfl) (Yp rfl rfl rfl hr10) (fun _=>hS10) ?_
    try simp only[Ja]
    refine JR 6 65 _ rfl rfl hS10 (fun W hW=>by have q0:=hW;go_simp;try rfl) ?_
    try simp only[Ja]
    refine Zh (i:=7) (d:=none) (w':=w10.setCell ⟨w5.heap.size,5,none⟩ (.slice g8 n8 c8)) (by kernel_rfl) rfl rfl (by rfl) (by go_simp;try rfl) (fun h=>by cases h) ?_
    try simp only[Ja]
    refine Zd (by kernel_rfl) ?_ _
    have hnd11:=hnd10.setKids ⟨g8,n8,c8⟩
    have hxd:Ext (·=w5.heap.size) w10 (w10.setCell ⟨w5.heap.size,5,none⟩ (.slice g8 n8 c8)):=(Ext.refl (·=w5.heap.size) w10).setCell (p:=⟨w5.heap.size,5,none⟩) (.inr rfl) _
    have hob10:∀ j,(Value.slice g8 n8 c8).ownBlock=some j→B≤j:=fun j hj=>by rcases hfr10 j hj with k|k;exact (hblk j k).1;omega
    have hrb11:=hrb10.ext hxd (fun e=>by have:=HB5.out.size;(try simp only at e);omega)
    have hown11:=hown10.ext hxd (fun j hj e=>by have:=hob10 j hj;(try simp only at e);omega)
    have hns11:Zc (fun j=>w.heap.size<j) (w10.setCell ⟨w5.heap.size,5,none⟩ (.slice g8 n8 c8)) (([]:List NdV)++us) (([]:List Nd)++(Ye l ms rg h A).row (D.length+1) ⟨0,0⟩):=by
     refine Zc.append ?_ ?_
     ·refine (((HNS8.out.ext (Ext.of_below (S:=fun _=>False) hb9) (fun _ _ _ f=>f)).ext hx10 (fun j hj _ e=>hj.2.2 e)).ext hxd (fun j hj _ e=>hj.2.1 e)).mono (fun j hj=>hj.1)
     ·refine ((hn9.monoL (D':=fun j=>w8.heap.size≤j) (fun j hj hl=>hj.1)).ext hx10 (fun j hj _ e=>by have:=hblk _ e;omega)).ext hxd (fun j hj _ e=>by (try simp only at e);omega) |>.mono (fun j hj=>by have:=HB5.out.size;omega)
    have hb11:Below w.heap.size w (w10.setCell ⟨w5.heap.size,5,none⟩ (.slice g8 n8 c8)):=by
     have q1:=HB5.out.trans ((HB8.out.trans (hb9.mono hz8)).mono HB5.out.size)
     have q2:=Ext.new q1 hx10 (fun i hi _ e=>by have:=hblk _ e;have:=HB5.out.size;omega) q1.size
     exact Ext.new q2 hxd (fun i hi _ e=>by have:=HB5.out.size;(try simp only at e);omega) q2.size
    have HND:=Lib.hid hnd11
    have HRB:=Lib.hid hrb11
    have HOWN:=Lib.hid hown11
    have HNS:=Lib.hid hns11
    have HB11:=Lib.hid hb11
    clear hnd11 hrb11 hown11 hns11 hb11 hnd10 hrb10 hxd hx10 hr10 hown10 e0 e1 e2 e3 e4 e5 ef ef5 hS0 hS9 hS10 d5 HS
    generalize w10.setCell ⟨w5.heap.size,5,none⟩ (.slice g8 n8 c8)=w11 at *
    obtain ⟨g0,g1,g2,g3,g4,g5,-⟩:=HND.out.cells
    obtain ⟨r0,r1,r2,r3,r4,r5,rf⟩:=HRB.out.cells
    have rf0:=rf 0
    have rf1:=rf 1
    have rf2:=rf 2
    have rf3:=rf 3
    have rf4:=rf 4
    have rf5:=rf 5
    simp only[Z2] at g3 g4 g5 r3 r4 r5
    simp only at g0 g1 g2 r0 r1 r2
    clear rf
    go_wp2_with fail
    (try simp only[Exit.inBlock,Exit.then])
    refine bodyPost_ret (v:=.agg #[.int .i64 0,.int .i64 0,.string ⟨#[100,111,99]⟩,.slice none 0 0,.slice none 0 0,.slice g8 n8 c8]) (by rw[X7 rfl];go_simp) rfl ?_
    have hfx:Ext (·=w.heap.size) w11 ((((((w11.setCell ⟨w.heap.size,0,none⟩ (.int .i64 0)).setCell ⟨w.heap.size,1,none⟩ (.int .i64 0)).setCell ⟨w.heap.size,2,none⟩ (.string ⟨#[100,111,99]⟩)).setCell ⟨w.heap.size,3,none⟩ (.slice none 0 0)).setCell ⟨w.heap.size,4,none⟩ (.slice none 0 0)).setCell ⟨w.heap.size,5,none⟩ (.slice g8 n8 c8)) :=
     ((((((Ext.refl (·=w.heap.size) w11).setCell (p:=⟨w.heap.size,0,none⟩) (.inr rfl) _).setCell (p:=⟨w.heap.size,1,none⟩) (.inr rfl) _).setCell (p:=⟨w.heap.size,2,none⟩) (.inr rfl) _).setCell (p:=⟨w.heap.size,3,none⟩) (.inr rfl) _).setCell (p:=⟨w.heap.size,4,none⟩) (.inr rfl) _).setCell (p:=⟨w.heap.size,5,none⟩) (.inr rfl) _
    have hbs5:=HB5.out.size
    have ho2:=HOWN.out.ext hfx (fun j hj e=>by have:=(HOWN.out.blk j hj).1;(try simp only at e);omega)
    refine ⟨⟨⟨0,0⟩,⟨#[100,111,99]⟩,Z2,Z2,⟨g8,n8,c8⟩⟩,rfl,D.length+1,fun A' hA'=>by rw[hA'.unique HDD.out];exact Nat.le_refl _,?_,Ext.new HB11.out hfx (fun i hi _ e=>by (try simp only at e);omega) HB11.out.size⟩
    unfold Vw.tree
    rw[HF0.out,if_pos rfl]
    refine Zv.make rfl rfl Yq Vs ((ho2.sliceD NdV.len).mono (fun j hj=>by have:=(ho2.blk j hj).1;omega)) ((HNS.out.ext hfx (fun j hj _ e=>by (try simp only at e);omega)).mono (fun j hj=>Nat.le_of_lt hj))
   ·have hF1:(0:Int)<(F0.length:Int):=by have:=List.length_pos_iff.2 hF;omega
    have HNF:=Lib.hid hF
    clear hF
    obtain ⟨d0,d1,d2,d3,d4,d5,df⟩:=HD7.out.cells
    simp only[Z2] at d5
    have df5:=df 5
    clear d0 d1 d2 d3 d4 df
    have hdl:=HD7.out.lt
    obtain ⟨i1,hi1,hz01,hz11,hz21⟩:=info_parts Xc
    obtain ⟨x1,hx1⟩:∃ x1:NdV,x1=⟨⟨0,0⟩,Zs,Z2,⟨qa,F0.length,qc⟩,Z2⟩:=⟨_,rfl⟩
    go_wp2_with (at_builtin;refine Zn (l:=[]) rfl _ _ _ rfl i1 (.agg #[.int .i64 0,.int .i64 0,.string ⟨#[]⟩,.slice none 0 0,.slice none 0 0,.slice none 0 0]) 104 YN hi1 hz01 hz11 hz21 rfl (by omega) NdV.len NdV.one rfl (Own.nil:Own NdV.cells 6 28 B _ (.slice none 0 0) []) (⟨⟨0,0⟩,Zs,Z2,⟨qa,F0.length,qc⟩,Z2⟩:NdV) w7.heap.size 1 rfl ?_ (by unfold maxLen;simp) (by simp) (by simp;omega) ?_)
    ·intro j u hj
     match j,hj with
     | 0,hj=>simp[NdV.cells] at hj;subst hj;(try simp only[Zs,Z2]);go_simp
     | 1,hj=>simp[NdV.cells] at hj;subst hj;(try simp only[Zs,Z2]);go_simp
     | 2,hj=>simp[NdV.cells] at hj;subst hj;(try simp only[Zs,Z2]);go_simp
     | 3,hj=>simp[NdV.cells] at hj;subst hj;(try simp only[Zs,Z2]);go_simp
     | 4,hj=>simp[NdV.cells] at hj;subst hj;(try simp only[Zs,Z2]);go_simp
     | 5,hj=>simp[NdV.cells] at hj;subst hj;(try simp only[Zs,Z2]);go_simp
     | n+6,hj=>simp[NdV.cells] at hj
    ·intro v8 wy hown8 hx8 hfr8
     (try simp only[List.nil_append] at hown8)
     obtain ⟨⟨kg,kn,kc⟩,rfl⟩:=hown8.sl20
     have hxy:Ext (fun _=>False) w7 wy:=Ext.new2 ((Ext.refl (fun _=>False) w7).alloc _) hx8 (fun j _ e=>by simp[Value.ownBlock] at e)
     have hfy:∀ j,(Value.slice kg kn kc).ownBlock=some j→w7.heap.size<j:=fun j hj=>by
      rcases hfr8 j hj with k|k
      ·cases k
      ·first|exact k|(have k2:=k;rw[World.size_alloc] at k2;omega)|(have k2:=k;simp at k2;omega)
     have hndy:=HD7.out.ext hxy (fun f=>f)
     have hzy:=hxy.size
     obtain ⟨-,-,-,-,-,e5,ef⟩:=hndy.cells
     simp only[Z2] at e5
     have ef5:=ef 5
     clear ef hx8 hfr8 d5 df5
     have HY:=Jh (And.intro hxy (And.intro hown8 (And.intro hfy hndy)))
     clear hxy hown8 hfy hndy
     go_upto_region 13 with fail
     obtain ⟨hxy,hown8,hfy,hndy⟩:=HY.out
     have hxd:Ext (·=w5.heap.size) wy (wy.setCell ⟨w5.heap.size,5,none⟩ (.slice kg kn kc)):=(Ext.refl (·=w5.heap.size) wy).setCell (p:=⟨w5.heap.size,5,none⟩) (.inr rfl) _
     have hownz:=hown8.ext hxd (fun j hj e=>by have:=(hown8.blk j hj).1;(try simp only at e);omega)
     have hb5w:=HB5.out.size
     have hnsz:Zc (fun j=>w.heap.size<j∧j≠w5.heap.size∧¬ (Sl.mk kg kn kc).val.ownBlock=some j) (wy.setCell ⟨w5.heap.size,5,none⟩ (.slice kg kn kc)) [(⟨⟨0,0⟩,Zs,Z2,⟨qa,F0.length,qc⟩,Z2⟩:NdV)] [Nd.mk ⟨0,0⟩ Zs [] F0 []]:=by
      refine Zc.one (Zv.make rfl rfl Yq ?_ (vs:=[]) Yq Zc.nil)
      refine ((HQ.out.ext hxy (fun _ _ _ f=>f)).ext hxd (fun j hj _ e=>by (try simp only at e);omega)).mono (fun j hj=>⟨by omega,by omega,fun e=>by have:=hfy j e;omega⟩)
     have hndz:=hndy.setKids ⟨kg,kn,kc⟩
     have hbz:Below w5.heap.size w5 (wy.setCell ⟨w5.heap.size,5,none⟩ (.slice kg kn kc)):=Ext.new (Ext.new HB7.out hxy (fun i _ _ f=>f) HB7.out.size) hxd (fun i hi _ e=>by (try simp only at e);omega) (by have:=HB7.out.size;omega)
     have hB3:B≤(wy.setCell ⟨w5.heap.size,5,none⟩ (.slice kg kn kc)).heap.size:=by have:=hxd.size;omega
     clear hxy hown8 hfy hndy hxd HY e5 ef5
     have HB8:=Lib.hid hbz
     have HND8:=Lib.hid hndz
     have HOK8:=Lib.hid hownz
     have HNS8:=Lib.hid hnsz
     have hlv:[(⟨⟨0,0⟩,Zs,Z2,⟨qa,F0.length,qc⟩,Z2⟩:NdV)].length≤1:=by first|exact Nat.zero_le _|exact Nat.le_refl _
     generalize wy.setCell ⟨w5.heap.size,5,none⟩ (.slice kg kn kc)=w8 at *
     have hz8:=HB8.out.size
     have hrow:=Vr (Ye l ms rg h A) ⟨bb,pb,kb,va,ca,vb,cb,.pointer gp,l,ms⟩ D (WI HHK.out.2.1) (Wy HHK.out.2.2.1 HHK.out.2.2.2) HDD.out (by omega) (D.length+1) ⟨0,0⟩ 0 w8 (HBI.out.below HB8.out) (YO HHK.out.2.2.2) (by omega)
     have hrl:=Vw.row_le (V:=Ye l ms rg h A) (n:=D.length+1) (b:=⟨0,0⟩) (m:=0) HDD.out (YO HHK.out.2.2.2)
     have HROW:=Lib.hid hrow
     clear hrow
     obtain ⟨-,-,-,-,-,d5,-⟩:=HND8.out.cells
     simp only[Z2] at d5
     have HS:Hid (∀ W,Below w8.heap.size w8 W→W.cell? ⟨w5.heap.size,5,none⟩=some (.slice kg kn kc)):=Jh (fun W hW=>Z0 hW d5)
     have hS0:(fun W:World=>W.cell? ⟨w5.heap.size,5,none⟩=some (.slice kg kn kc)) w8.drew:=d5
     have hb8d:Below w8.heap.size w8 w8.drew:=(Below.refl _ _).drew
     refine Zf (fun W:World=>W.cell? ⟨w5.heap.size,5,none⟩=some (.slice kg kn kc)) (fun i=>i == 7) (by kernel_rfl) ?_
     refine JR 0 59 _ rfl rfl hS0 (fun W hW=>by have q0:=hW;go_simp;try rfl) ?_
     try simp only[Ja]
     refine JR 1 60 (.slice kg kn kc) rfl rfl hS0 (fun W hW=>by have q0:=hW;go_simp;try rfl) ?_
     try simp only[Ja]
     refine JR 2 61 _ rfl rfl hS0 (fun W hW=>by have q0:=hW;go_simp;try rfl) ?_
     try simp only[Ja]
     refine JR 3 62 (.agg #[.int .i64 0,.int .i64 0]) rfl rfl hS0 (fun W hW=>by have q0:=hW;go_simp;try rfl) ?_
     try simp only[Ja]
     refine ZB (i:=4) (d:=some 63) (w':=w8.drew) (by kernel_rfl) rfl rfl (by rfl) (by go_simp;try rfl) (((Vr (Ye l ms rg h A) ⟨bb,pb,kb,va,ca,vb,cb,.pointer gp,l,ms⟩ D (WI HHK.out.2.1) (Wy HHK.out.2.2.1 HHK.out.2.2.2) HDD.out (by omega) (D.length+1) ⟨0,0⟩ 0 w8.drew ((HBI.out.below HB8.out).below hb8d) (YO HHK.out.2.2.2) (by omega))).mono ?_)
     rintro e w9 ⟨v9,us,rfl,hown9,hn9,b9⟩
     have hb9:Below w8.heap.size w8 w9:=hb8d.trans b9
     have hul:us.length≤D.length:=by rw[hn9.1];exact hrl
     have hz9:=hb9.size
     have hok9:=HOK8.out.ext (Ext.of_below (S:=fun _=>False) hb9) (fun _ _ f=>f)
     have hS9:=HS.out _ hb9
     obtain ⟨⟨ga,gn,gc⟩,rfl⟩:=hown9.sl20
     obtain ⟨i0,hi,hz0,hz1,hz2'⟩:=info_parts Xc
     obtain ⟨v10,w10,hr10,hown10,hx10,hfr10⟩:=XF (P:=Tryz.prog) 26 26 i0 (.agg #[.int .i64 0,.int .i64 0,.string ⟨#[]⟩,.slice none 0 0,.slice none 0 0,.slice none 0 0]) 104 YN hi hz0 hz1 hz2' rfl (by omega) NdV.len NdV.one hok9 hown9 (by unfold maxLen;omega) (by omega) (by omega)
     obtain ⟨⟨g8,n8,c8⟩,rfl⟩:=hown10.sl20
     have hblk:∀ j,(Sl.val (Sl.mk kg kn kc)).ownBlock=some j→B≤j∧j<w8.heap.size:=fun j hj=>HOK8.out.blk j hj
     have hxz:=hx10.size
     have hnd10:=(HND8.out.ext (Ext.of_below (S:=fun _=>False) hb9) (fun f=>f)).ext hx10 (fun e=>by have:=hblk _ e;omega)
     have hrb10:=(((HRB5.out.ext (Ext.of_below (S:=fun _=>False) HB8.out) (fun f=>f)).ext (Ext.of_below (S:=fun _=>False) hb9) (fun f=>f)).ext hx10 (fun e=>by have:=hblk _ e;omega))
     obtain ⟨e0,e1,e2,e3,e4,e5,ef⟩:=hnd10.cells
     simp only[Z2] at e3 e4 e5
     have ef5:=ef 5
     have hS10:(fun W:World=>W.cell? ⟨w5.heap.size,5,none⟩=some (.slice kg kn kc)) w10:=e5
     (try simp only[Sl.val] at hr10)
     refine ⟨_,rfl,fun _=>hS9,?_⟩
     try simp only[Ja]
     refine Zl (i:=5) (d:=some 64) (v:=.slice g8 n8 c8) (w':=w10) (by kernel_rfl) rfl rfl (by rfl) (Yp rfl rfl rfl hr10) (fun _=>hS10) ?_
     try simp only[Ja]
     refine JR 6 65 _ rfl rfl hS10 (fun W hW=>by have q0:=hW;go_simp;try rfl) ?_
     try simp only[Ja]
     refine Zh (i:=7) (d:=none) (w':=w10.setCell ⟨w5.heap.size,5,none⟩ (.slice g8 n8 c8)) (by kernel_rfl) rfl rfl (by rfl) (by go_simp;try rfl) (fun h=>by cases h) ?_
     try simp only[Ja]
     refine Zd (by kernel_rfl) ?_ _
     have hnd11:=hnd10.setKids ⟨g8,n8,c8⟩
     have hxd:Ext (·=w5.heap.size) w10 (w10.setCell ⟨w5.heap.size,5,none⟩ (.slice g8 n8 c8)):=(Ext.refl (·=w5.heap.size) w10).setCell (p:=⟨w5.heap.size,5,none⟩) (.inr rfl) _
     have hob10:∀ j,(Value.slice g8 n8 c8).ownBlock=some j→B≤j:=fun j hj=>by rcases hfr10 j hj with k|k;exact (hblk j k).1;omega
     have hrb11:=hrb10.ext hxd (fun e=>by have:=HB5.out.size;(try simp only at e);omega)
     have hown11:=hown10.ext hxd (fun j hj e=>by have:=hob10 j hj;(try simp only at e);omega)
     have hns11:Zc (fun j=>w.heap.size<j) (w10.setCell ⟨w5.heap.size,5,none⟩ (.slice g8 n8 c8)) ([(⟨⟨0,0⟩,Zs,Z2,⟨qa,F0.length,qc⟩,Z2⟩:NdV)]++us) ([Nd.mk ⟨0,0⟩ Zs [] F0 []]++(Ye l ms rg h A).row (D.length+1) ⟨0,0⟩):=by
      refine Zc.append ?_ ?_
      ·refine (((HNS8.out.ext (Ext.of_below (S:=fun _=>False) hb9) (fun _ _ _ f=>f)).ext hx10 (fun j hj _ e=>hj.2.2 e)).ext hxd (fun j hj _ e=>hj.2.1 e)).mono (fun j hj=>hj.1)
      ·refine ((hn9.monoL (D':=fun j=>w8.heap.size≤j) (fun j hj hl=>hj.1)).ext hx10 (fun j hj _ e=>by have:=hblk _ e;omega)).ext hxd (fun j hj _ e=>by (try simp only at e);omega) |>.mono (fun j hj=>by have:=HB5.out.size;omega)
     have hb11:Below w.heap.size w (w10.setCell ⟨w5.heap.size,5,none⟩ (.slice g8 n8 c8)):=by
      have q1:=HB5.out.trans ((HB8.out.trans (hb9.mono hz8)).mono HB5.out.size)
      have q2:=Ext.new q1 hx10 (fun i hi _ e=>by have:=hblk _ e;have:=HB5.out.size;omega) q1.size
      exact Ext.new q2 hxd (fun i hi _ e=>by have:=HB5.out.size;(try simp only at e);omega) q2.size
     have HND:=Lib.hid hnd11
     have HRB:=Lib.hid hrb11
     have HOWN:=Lib.hid hown11
     have HNS:=Lib.hid hns11
     have HB11:=Lib.hid hb11
     clear hnd11 hrb11 hown11 hns11 hb11 hnd10 hrb10 hxd hx10 hr10 hown10 e0 e1 e2 e3 e4 e5 ef ef5 hS0 hS9 hS10 d5 HS
     generalize w10.setCell ⟨w5.heap.size,5,none⟩ (.slice g8 n8 c8)=w11 at *
     obtain ⟨g0,g1,g2,g3,g4,g5,-⟩:=HND.out.cells
     obtain ⟨r0,r1,r2,r3,r4,r5,rf⟩:=HRB.out.cells
     have rf0:=rf 0
     have rf1:=rf 1
     have rf2:=rf 2
     have rf3:=rf 3
     have rf4:=rf 4
     have rf5:=rf 5
     simp only[Z2] at g3 g4 g5 r3 r4 r5
     simp only at g0 g1 g2 r0 r1 r2
     clear rf
     go_wp2_with fail
     (try simp only[Exit.inBlock,Exit.then])
     refine bodyPost_ret (v:=.agg #[.int .i64 0,.int .i64 0,.string ⟨#[100,111,99]⟩,.slice none 0 0,.slice none 0 0,.slice g8 n8 c8]) (by rw[X7 rfl];go_simp) rfl ?_
     have hfx:Ext (·=w.heap.size) w11 ((((((w11.setCell ⟨w.heap.size,0,none⟩ (.int .i64 0)).setCell ⟨w.heap.size,1,none⟩ (.int .i64 0)).setCell ⟨w.heap.size,2,none⟩ (.string ⟨#[100,111,99]⟩)).setCell ⟨w.heap.size,3,none⟩ (.slice none 0 0)).setCell ⟨w.heap.size,4,none⟩ (.slice none 0 0)).setCell ⟨w.heap.size,5,none⟩ (.slice g8 n8 c8)) :=
      ((((((Ext.refl (·=w.heap.size) w11).setCell (p:=⟨w.heap.size,0,none⟩) (.inr rfl) _).setCell (p:=⟨w.heap.size,1,none⟩) (.inr rfl) _).setCell (p:=⟨w.heap.size,2,none⟩) (.inr rfl) _).setCell (p:=⟨w.heap.size,3,none⟩) (.inr rfl) _).setCell (p:=⟨w.heap.size,4,none⟩) (.inr rfl) _).setCell (p:=⟨w.heap.size,5,none⟩) (.inr rfl) _
     have hbs5:=HB5.out.size
     have ho2:=HOWN.out.ext hfx (fun j hj e=>by have:=(HOWN.out.blk j hj).1;(try simp only at e);omega)
     refine ⟨⟨⟨0,0⟩,⟨#[100,111,99]⟩,Z2,Z2,⟨g8,n8,c8⟩⟩,rfl,D.length+1,fun A' hA'=>by rw[hA'.unique HDD.out];exact Nat.le_refl _,?_,Ext.new HB11.out hfx (fun i hi _ e=>by (try simp only at e);omega) HB11.out.size⟩
     unfold Vw.tree
     rw[HF0.out,if_neg HNF.out]
     refine Zv.make rfl rfl Yq Vs ((ho2.sliceD NdV.len).mono (fun j hj=>by have:=(ho2.blk j hj).1;omega)) ((HNS.out.ext hfx (fun j hj _ e=>by (try simp only at e);omega)).mono (fun j hj=>Nat.le_of_lt hj))
def U9 (base:Nat) (v:Value) (C:List Ch) (s:St) (w:World) (e:Ending) (w':World):Prop :=
 ∃ v',e=.returned v'∧Own Ch.cells 5 53 base w' v' (YC C s)∧Ext (fun b=>v.ownBlock=some b) w w'
theorem RV (va:Option Addr) (ca:Nat) (C:List Ch) (sn sr:Int) (base:Nat) (w:World) (hown:Own Ch.cells 5 53 base w (.slice va C.length ca) C) (hb:base≤w.heap.size) (hl:C.length≤100000) :
  Calls Tryz.prog 82 #[.slice va C.length ca,.agg #[.int .i64 sn,.int .i64 sr]] w fun e w'=>U9 base (.slice va C.length ca) C ⟨sn,sr⟩ w e w':=by
 have HOW:=Lib.hid hown
 have hfd:∀ W,Below w.heap.size w W→Calls Tryz.prog 22 #[.slice va C.length ca,.agg #[.int .i64 sn,.int .i64 sr]] W fun e w'=>e=.returned (.int .i64 (Yz C ⟨sn,sr⟩))∧Below W.heap.size W w':=fun W hW=>UG _ C sn sr W ((hown.ext (Ext.of_below (S:=fun _=>False) hW) (fun _ _ f=>f)).slice (fun _=>rfl)) (by omega)
 have HFD:=Lib.hid hfd
 have hB0:Below w.heap.size w (w.alloc (.cells #[.int .i64 sn,.int .i64 sr] 23)):=(Below.refl _ _).alloc (Nat.le_refl _) _
 have z0:(w.alloc (.cells #[.int .i64 sn,.int .i64 sr] 23)).cell? ⟨w.heap.size,0,none⟩=some (.int .i64 sn):=by go_simp
 have z1:(w.alloc (.cells #[.int .i64 sn,.int .i64 sr] 23)).cell? ⟨w.heap.size,1,none⟩=some (.int .i64 sr):=by go_simp
 have HB0:=Lib.hid hB0
 clear hfd hown hB0
 have same:∀ (e:Ending) (w':World),e=.returned (.slice va C.length ca)→Below w.heap.size w w'→(sn=0∧sr=0∨∃ c∈C,c.block=⟨sn,sr⟩)→U9 base (.slice va C.length ca) C ⟨sn,sr⟩ w e w':=fun e w' he hbw hc=>by
  refine ⟨_,he,?_,Ext.of_below hbw⟩
  unfold YC
  rw[if_pos (hc.imp (fun h=>by rw[h.1,h.2]) id)]
  exact HOW.out.ext (Ext.of_below (S:=fun _=>False) hbw) (fun _ _ f=>f)
 have SAME:=Lib.hid same
 clear same
 by_cases h1:sn=0
 ·by_cases h2:sr=0
  ·subst h1
   subst h2
   go_enter Tryz.func82,Tryz.ntmps82
   go_upto_region 1 with fail
   generalize w.alloc (.cells #[.int .i64 0,.int .i64 0] 23)=w1 at *
   go_wp2_with fail
   go_ret
   exact SAME.out _ _ rfl HB0.out (.inl (by simp))
  ·subst h1
   have HNZ:Hid ((⟨0,sr⟩:St)≠⟨0,0⟩):=Jh (by intro e;cases e;exact h2 rfl)
   go_enter Tryz.func82,Tryz.ntmps82
   go_upto_region 1 with fail
   generalize w.alloc (.cells #[.int .i64 0,.int .i64 sr] 23)=w1 at *
   go_wp2_with fail
   refine (HFD.out w1 HB0.out).mono ?_
   rintro e w5 ⟨rfl,b5⟩
   cases hf:Xx C ⟨0,sr⟩ with
   | some i =>
    have hfi:Yz C ⟨0,sr⟩=(i:Int):=by unfold Yz;rw[hf]
    rw[hfi]
    have hi0:(0:Int)≤(i:Int):=by omega
    have HX:Hid (∃ c∈C,c.block=(⟨0,sr⟩:St)):=Jh (by obtain ⟨x,h1,h2,_⟩:=WG hf;exact ⟨x,List.mem_of_getElem? h1,h2⟩)
    clear hf hfi
    go_wp2_with fail
    go_ret
    exact SAME.out _ _ rfl (HB0.out.trans (b5.mono HB0.out.size)) (.inr HX.out)
   | none =>
    have hfi:Yz C ⟨0,sr⟩=-1:=by unfold Yz;rw[hf]
    rw[hfi]
    have HX:Hid (YC C ⟨0,sr⟩=C++[ZE ⟨0,sr⟩]):=Jh (by
     unfold YC
     rw[if_neg]
     rintro (h|⟨c,h1,h2⟩)
     ·exact HNZ.out (by simpa using h)
     ·exact W9.1 hf c h1 h2)
    have HB5:=Jh (HB0.out.trans (b5.mono HB0.out.size))
    have hz5:=HB5.out.size
    have HO5:=Jh (HOW.out.ext (Ext.of_below (S:=fun _=>False) HB5.out) (fun _ _ f=>f))
    have z0b:=Z0 b5 z0
    have z1b:=Z0 b5 z1
    obtain ⟨i0,hi,hz0,hz1,hz2⟩:=info_parts Xw
    clear hf hfi b5 z0 z1
    go_wp2_with (at_builtin;refine Zn (ea:=Ch.cells) (k:=5) rfl _ _ _ rfl i0 (.agg #[.int .i64 0,.int .i64 0,.int .i64 0,.int .i64 0,.string ⟨#[]⟩]) 48 Wi hi hz0 hz1 hz2 rfl (by omega) (fun _=>rfl) (fun x u hu=>by simp[Ch.cells] at hu;rcases hu with rfl|rfl|rfl|rfl|rfl <;> rfl) rfl (HO5.out.alloc _) (ZE ⟨0,sr⟩) w5.heap.size 1 rfl ?_ (by unfold maxLen;omega) (by omega) (by simp;omega) ?_)
    ·intro j u hj
     match j,hj with
     | 0,hj=>simp[ZE,Ch.cells] at hj;subst hj;go_simp
     | 1,hj=>simp[ZE,Ch.cells] at hj;subst hj;go_simp
     | 2,hj=>simp[ZE,Ch.cells] at hj;subst hj;go_simp
     | 3,hj=>simp[ZE,Ch.cells] at hj;subst hj;go_simp
     | 4,hj=>simp[ZE,Ch.cells] at hj;subst hj;go_simp
     | n+5,hj=>simp[Ch.cells] at hj
    ·intro v8 w8 hown8 hx8 hfr8
     have HF:Hid (U9 base (.slice va C.length ca) C ⟨0,sr⟩ w (.returned v8) w8):=Lib.hid ⟨_,rfl,by rw[HX.out];exact hown8,((Ext.of_below (S:=fun b=>(Value.slice va C.length ca).ownBlock=some b) HB5.out).alloc _).trans hx8⟩
     clear hown8 hx8 hfr8
     go_wp2_with fail
     go_ret
     exact HF.out
 ·have HNZ:Hid ((⟨sn,sr⟩:St)≠⟨0,0⟩):=Jh (by intro e;cases e;exact h1 rfl)
  go_enter Tryz.func82,Tryz.ntmps82
  go_upto_region 1 with fail
  generalize w.alloc (.cells #[.int .i64 sn,.int .i64 sr] 23)=w1 at *
  go_wp2_with fail
  refine (HFD.out w1 HB0.out).mono ?_
  rintro e w5 ⟨rfl,b5⟩
  cases hf:Xx C ⟨sn,sr⟩ with
  | some i =>
   have hfi:Yz C ⟨sn,sr⟩=(i:Int):=by unfold Yz;rw[hf]
   rw[hfi]
   have hi0:(0:Int)≤(i:Int):=by omega
   have HX:Hid (∃ c∈C,c.block=(⟨sn,sr⟩:St)):=Jh (by obtain ⟨x,h1,h2,_⟩:=WG hf;exact ⟨x,List.mem_of_getElem? h1,h2⟩)
   clear hf hfi
   go_wp2_with fail
   go_ret
   exact SAME.out _ _ rfl (HB0.out.trans (b5.mono HB0.out.size)) (.inr HX.out)
  | none =>
   have hfi:Yz C ⟨sn,sr⟩=-1:=by unfold Yz;rw[hf]
   rw[hfi]
   have HX:Hid (YC C ⟨sn,sr⟩=C++[ZE ⟨sn,sr⟩]):=Jh (by
    unfold YC
    rw[if_neg]
    rintro (h|⟨c,h1,h2⟩)
    ·exact HNZ.out (by simpa using h)
    ·exact W9.1 hf c h1 h2)
   have HB5:=Jh (HB0.out.trans (b5.mono HB0.out.size))
   have hz5:=HB5.out.size
   have HO5:=Jh (HOW.out.ext (Ext.of_below (S:=fun _=>False) HB5.out) (fun _ _ f=>f))
   have z0b:=Z0 b5 z0
   have z1b:=Z0 b5 z1
   obtain ⟨i0,hi,hz0,hz1,hz2⟩:=info_parts Xw
   clear hf hfi b5 z0 z1
   go_wp2_with (at_builtin;refine Zn (ea:=Ch.cells) (k:=5) rfl _ _ _ rfl i0 (.agg #[.int .i64 0,.int .i64 0,.int .i64 0,.int .i64 0,.string ⟨#[]⟩]) 48 Wi hi hz0 hz1 hz2 rfl (by omega) (fun _=>rfl) (fun x u hu=>by simp[Ch.cells] at hu;rcases hu with rfl|rfl|rfl|rfl|rfl <;> rfl) rfl (HO5.out.alloc _) (ZE ⟨sn,sr⟩) w5.heap.size 1 rfl ?_ (by unfold maxLen;omega) (by omega) (by simp;omega) ?_)
   ·intro j u hj
    match j,hj with
    | 0,hj=>simp[ZE,Ch.cells] at hj;subst hj;go_simp
    | 1,hj=>simp[ZE,Ch.cells] at hj;subst hj;go_simp
    | 2,hj=>simp[ZE,Ch.cells] at hj;subst hj;go_simp
    | 3,hj=>simp[ZE,Ch.cells] at hj;subst hj;go_simp
    | 4,hj=>simp[ZE,Ch.cells] at hj;subst hj;go_simp
    | n+5,hj=>simp[Ch.cells] at hj
   ·intro v8 w8 hown8 hx8 hfr8
    have HF:Hid (U9 base (.slice va C.length ca) C ⟨sn,sr⟩ w (.returned v8) w8):=Lib.hid ⟨_,rfl,by rw[HX.out];exact hown8,((Ext.of_below (S:=fun b=>(Value.slice va C.length ca).ownBlock=some b) HB5.out).alloc _).trans hx8⟩
    clear hown8 hx8 hfr8
    go_wp2_with fail
    go_ret
    exact HF.out
end Go.Proofs.YtlgipkemoldckaaGreatDoor
