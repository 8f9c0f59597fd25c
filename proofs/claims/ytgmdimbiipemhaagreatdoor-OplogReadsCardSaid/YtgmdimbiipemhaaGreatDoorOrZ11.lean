/- OplogReads, part 11 of what the proof leans on (made short by a program). -/
import Derived.Test.YtgmdimbiipemhaaGreatDoorOrZ10
set_option linter.unusedSimpArgs false
set_option linter.unusedVariables false
set_option linter.unusedSectionVars false
set_option maxRecDepth 20000
set_option maxHeartbeats 30000000
namespace Go.Proofs.YtgmdimbiipemhaaGreatDoor
open Go.RowKit Go.Deep
theorem Z2F {x:Int} (h:Yh x<18446744073709551616):-9223372036854775808≤x∧x≤9223372036854775807:=by
 have:=Z0M h
 rwa [Z0t] at this
theorem RO {l:List Int} {p:Nat} {b:List UInt8}:(ByteArray.mk (Zd l).toArray=ByteArray.mk (b.take p).toArray)↔Zd l=b.take p:=by
 constructor
 ·intro h
  have:=congrArg (fun x=>x.data.toList) h
  simpa using this
 ·intro h;rw[h]
theorem WG (v:Value) (b:List UInt8) (n:Nat) (w:World) (h:Z0 u8c 1 w v b) (hn0:n≤65536):Calls Tryz.prog 55 #[v,.int .i64 n] w fun e w'=>Z5K w b n e w':=by
 obtain ⟨a,cap,rfl,hcap,hmax,-⟩:=id h
 unfold maxLen at hmax
 obtain ⟨i0,hi,hy0,hy1,hy2⟩:=info_parts Wi
 have HH:=Lib.hid h
 clear h
 have hn1:¬ (n:Int)<0:=by omega
 have hn2:¬ (65536:Int)<(n:Int):=by omega
 go_enter Tryz.func55,Tryz.ntmps55
 go_wp2_with fail
 go_loopg [7,8] n (fun g lv pv wr=>∃ (s:Sl) (l:List Int) (p:Nat),g=n - l.length∧lv=.slice s.a s.n s.cap∧pv=.int .i64 p∧s.n=l.length∧l.length≤n∧p≤b.length∧Hid (TRd b n l p)∧Hid (Own Zi 1 3 w.heap.size wr (.slice s.a s.n s.cap) l∧Below w.heap.size w wr))
 case atStart=>exact ⟨⟨none,0,0⟩,[],0,rfl,rfl,rfl,rfl,Nat.zero_le _,Nat.zero_le _,Jh (TRd.zero b n),Lib.hid ⟨Own.nil,Below.refl _ _⟩⟩
 case round =>
  obtain ⟨⟨sa,sn,sc⟩,l,p,hg,rfl,rfl,hsn,hln,hpb,HT,HU⟩:=hrel
  dsimp only at hsn HU ⊢
  subst hsn
  have HG:=Lib.hid hg
  clear hg
  by_cases hlt:l.length<n
  ·have hl1:(l.length:Int)<(n:Int):=by omega
   obtain ⟨a1,c1,hsl,hS1,-⟩:=ZJ (P:=Tryz.prog) (ea:=u8c) Tryz.underlying22 Zh a b.length cap p hcap hpb
   have HS:=Jh (hS1 wr b rfl (HH.out.below HU.out.2))
   clear hS1
   go_wp2_with fail
   refine (Wa _ _ _ HS.out).mono ?_
   rintro e w5 ⟨rfl,b5⟩
   have HB5:=Jh (HU.out.2.trans (b5.mono HU.out.2.size))
   have HO5:=Jh (HU.out.1.below1 b5)
   clear b5 HU
   cases hk:ZD (b.drop p) with
   | none =>
    have hr:Yi (b.drop p)=.tuple #[.int .u64 0,.int .i64 0,.int .i64 31]:=by unfold Yi;rw[hk]
    have HD:=Jh (HT.out.bad hlt (.inl hk))
    rw[hr]
    have HR:=Lib.hid hr
    have HS5:=Jh (show Z0 u8c 1 w5 _ (b.drop p) from by obtain ⟨a3,c3,hsl3,hS3,-⟩:=ZJ (P:=Tryz.prog) (ea:=u8c) Tryz.underlying22 Zh a b.length cap p hcap hpb;have e:=(hsl w5).symm.trans (hsl3 w5);cases e;exact hS3 w5 b rfl (HH.out.below HB5.out))
    clear hk hr HS
    have hp00:(p:Int)+0=(p:Int):=by omega
    go_wp2_with fail
    refine (Wa _ _ _ HS5.out).mono ?_
    rintro e w6 ⟨rfl,b6⟩
    have HB6:=Jh (HB5.out.trans (b6.mono HB5.out.size))
    rw[HR.out]
    clear b6 HB5 HO5 HS5 hsl
    go_wp2_with fail
    go_ret3
    exact .inr ⟨HD.out,rfl,HB6.out⟩
   | some k =>
    have hr:Yi (b.drop p)=.tuple #[.int .u64 k,.int .i64 (Z5 k).length,.int .i64 0]:=by unfold Yi;rw[hk]
    have hk64:=(ZE.1 hk).1
    have hqp:=(ZE.1 hk).2.length_le
    rw[List.length_drop] at hqp
    have hq0:0<(Z5 k).length:=List.length_pos_iff.2 (Wm k)
    rw[hr]
    obtain ⟨q,hq⟩:=Je ((Z5 k).length)
    rw[hq] at hqp hq0 ⊢
    obtain ⟨a2,c2,hsl2,hS2,-⟩:=ZJ (P:=Tryz.prog) (ea:=u8c) Tryz.underlying22 Zh a b.length cap (p+q) hcap (by omega)
    have HS2:=Jh (hS2 w5 b rfl (HH.out.below HB5.out))
    simp only[Int.natCast_add] at hsl2
    clear hS2 hr HS hsl
    go_wp2_with fail
    refine (Wa _ _ _ HS2.out).mono ?_
    rintro e w6 ⟨rfl,b6⟩
    have HB6:=Jh (HB5.out.trans (b6.mono HB5.out.size))
    have HO6:=Jh (HO5.out.below1 b6)
    clear b6 HS2 HB5 HO5
    cases hv:ZD (b.drop (p+q)) with
    | none =>
     have hr:Yi (b.drop (p+q))=.tuple #[.int .u64 0,.int .i64 0,.int .i64 31]:=by unfold Yi;rw[hv]
     have HD:=Jh (HT.out.bad hlt (.inr ⟨k,hk,.inl (by rw[hq];exact hv)⟩))
     rw[hr]
     clear hk hr hv hsl2 hq
     go_wp2_with fail
     go_ret3
     exact .inr ⟨HD.out,rfl,HB6.out⟩
    | some v =>
     have hr:Yi (b.drop (p+q))=.tuple #[.int .u64 v,.int .i64 (Z5 v).length,.int .i64 0]:=by unfold Yi;rw[hv]
     have hv64:=(ZE.1 hv).1
     have hqp2:=(ZE.1 hv).2.length_le
     rw[List.length_drop] at hqp2
     rw[hr]
     have HBAD:=Jh (fun h=>HT.out.bad hlt (.inr ⟨k,hk,.inr ⟨v,by rw[hq];exact hv,h⟩⟩))
     have HSTEP:=Jh (fun h0 h1=>HT.out.step hlt hk (by rw[hq];exact hv) h0 h1)
     rw[hq] at HSTEP
     obtain ⟨q2,hq2⟩:=Je ((Z5 v).length)
     rw[hq2] at hqp2 HSTEP ⊢
     obtain ⟨x,hx⟩:=Je (YN v)
     rw[hx] at HSTEP
     have hQ:0<q∧p+q+q2≤b.length:=⟨hq0,by omega⟩
     have HQ:=Lib.hid hQ
     have hxin:=Z0M hv64
     rw[hx] at hxin
     have HZAG:=Lib.hid hx
     clear hr hsl2 hk hv hq hq2 hqp hqp2 hq0 hQ hx
     obtain ⟨r,hrr⟩:∃ r:Nat,r=n - l.length:=⟨_,rfl⟩
     have hsub:(n:Int) - (l.length:Int)=(r:Int):=by omega
     by_cases hkn:r<k
     ·have hk1:(r:Int)<(k:Int):=by omega
      have HD:=Jh (HBAD.out (.inr (by omega)))
      have hdk:decide (r<k)=true:=decide_eq_true (by omega)
      clear hkn hrr HBAD HSTEP HT
      go_wp2_with fail
      go_ret3
      exact .inr ⟨HD.out,rfl,HB6.out⟩
     ·have hk1:¬ (r:Int)<(k:Int):=by omega
      have hdk:decide (r<k)=false:=decide_eq_false (by omega)
      have HKN:Hid (k≤n - l.length):=Jh (by omega)
      clear hkn hrr HT
      go_wp2_with fail
      go_loopg [7,15] k (fun g lv mv wx=>∃ (m:Nat) (s:Sl),g=k - m∧lv=.slice s.a s.n s.cap∧mv=.int .u64 m∧m≤k∧Hid (Own Zi 1 3 w.heap.size wx (.slice s.a s.n s.cap) (l++List.replicate m x)∧Below w.heap.size w wx))
      case atStart=>exact ⟨0,⟨sa,l.length,sc⟩,rfl,rfl,rfl,Nat.zero_le _,Lib.hid ⟨by rw[List.replicate_zero,List.append_nil];exact HO6.out,HB6.out⟩⟩
      case round =>
       obtain ⟨m,⟨ta,tn,tc⟩,hg2,rfl,rfl,hmk,HX⟩:=hrel
       dsimp only at HX ⊢
       have HG2:=Lib.hid hg2
       clear hg2
       by_cases hm:m<k
       ·have hm1:(m:Int)<(k:Int):=by omega
        have hsz:=HX.out.2.size
        have hll:(l++List.replicate m x).length=l.length+m:=by simp
        have hkn2:=HKN.out
        have hbd:(l++List.replicate m x).length+1≤maxLen∧((l++List.replicate m x).length+1)*8≤140737488355328:=by rw[hll];unfold maxLen;omega
        have HBD:=Lib.hid hbd
        clear hll hkn2 hbd hm
        go_wp2_with fail
        refine (Z68 v _ hv64).mono ?_
        rintro e w7 ⟨rfl,e7⟩
        rw[←e7,HZAG.out]
        clear e7 w7
        go_wp2_with (at_builtin;refine Y8 rfl _ _ _ rfl i0 _ 8 Tryz.underlying100 hi hy0 hy1 hy2 rfl (by omega) Zf XA rfl (HX.out.1.alloc _) x wr.heap.size 1 rfl (Wp _ x) HBD.out.1 HBD.out.2 (by simp;omega) ?_)
        intro v' w3 hown3 hx3
        have hB3:=Ext.new (HX.out.2.alloc HX.out.2.size (.cells #[.int .i64 x] 3)) hx3 (fun i hi _ e=>by have:=(HX.out.1.blk i e).1;omega) (by simp;omega)
        rw[show l++(List.replicate m x++[x])=l++List.replicate (m+1) x by rw[List.replicate_succ']] at hown3
        obtain ⟨⟨ua,un,uc⟩,e3⟩:=hown3.sl
        dsimp only at e3
        subst e3
        have HN:=Jh (And.intro hown3 hB3)
        clear hown3 hx3 hB3
        go_wp2_with fail
        go_roundg (k - (m+1))
        case measure=>rw[HG2.out];omega
        case rel=>exact ⟨m+1,⟨ua,un,uc⟩,rfl,rfl,by simp,by omega,HN⟩
       ·have hm1:¬ (m:Int)<(k:Int):=by omega
        have hmk2:m=k:=by omega
        have HX2:Hid (Own Zi 1 3 w.heap.size wr (.slice ta tn tc) (l++List.replicate k x)∧Below w.heap.size w wr):=Jh (by rw[←hmk2];exact HX.out)
        have hpq:((p+q:Nat):Int)=(p:Int)+(q:Int):=by omega
        have htn:=(HX2.out.1.nlen Zf).1
        have HTN:=Lib.hid htn
        have HPB:=Lib.hid hpb
        have hq3:=HQ.out
        clear hm hmk2 htn HX
        by_cases hz:k=0
        ·have hz2:((k:Int) == 0)=true:=by rw[hz];rfl
         have HD:=Jh (HBAD.out (.inl hz))
         clear hz HBAD HSTEP hpq
         go_wp2_with fail
         go_ret3
         exact .inr ⟨HD.out,rfl,HX2.out.2⟩
        ·have hz1:¬ (k:Int)=0:=by omega
         have hz2:((k:Int) == 0)=false:=by simpa using hz1
         have HNX:=Jh (HSTEP.out hz HKN.out)
         have HZ:=Lib.hid hz
         clear hz hz1 HBAD HSTEP hpq
         go_wp2_with fail
         go_roundg (n - (l++List.replicate k x).length)
         case measure=>rw[HG.out,List.length_append,List.length_replicate];have h1:=HKN.out;have h2:=HZ.out;omega
         case rel=>exact ⟨⟨ta,tn,tc⟩,l++List.replicate k x,p+q+q2,rfl,rfl,by simp <;> omega,HTN.out,by rw[List.length_append,List.length_replicate];have h1:=HKN.out;omega,HQ.out.2,HNX,HX2⟩
  ·have hll:l.length=n:=by omega
   have hl1:¬ (l.length:Int)<(n:Int):=by omega
   have HLL:=Lib.hid hll
   obtain ⟨a2,hsl,hS2⟩:=Z2H (P:=Tryz.prog) (ea:=u8c) Tryz.underlying22 Zh a b.length cap p hcap hpb
   have HPB:=Lib.hid hpb
   clear hll hlt
   go_upto_region 17 with fail
   have hS0:(fun W:World=>Z0 u8c 1 W (.slice a b.length cap) b) wr.drew:=HH.out.below HU.out.2.drew
   have HU1:Hid (Own Zi 1 3 w.heap.size wr.drew (.slice sa l.length sc) l∧Below w.heap.size w wr.drew):=Lib.hid ⟨HU.out.1.drew,HU.out.2.drew⟩
   clear HU
   refine Z7 (fun W:World=>Z0 u8c 1 W (.slice a b.length cap) b) (fun _=>false) (by kernel_rfl) ?_
   generalize wr.drew=W1 at hS0 HU1 ⊢
   refine J0 0 76 _ hS0 ?_
   try simp only[Ja]
   refine J0 3 79 _ hS0 ?_
   try simp only[Ja]
   refine J0 4 80 _ hS0 ?_
   try simp only[Ja]
   refine JR 5 81 (.slice a2 p cap) rfl rfl hS0 (fun W hW=>by first|exact hsl W|(go_simp;try rfl)) ?_
   try simp only[Ja]
   refine JR 6 82 (.string ⟨(b.take p).toArray⟩) rfl rfl hS0 (fun W hW=>by have hcv:=Zt (hS2 W b rfl hW);go_simp;try rfl) ?_
   try simp only[Ja]
   refine Zm (i:=1) (d:=some 77) (f:=108) (args:=#[.slice sa l.length sc]) (w':=W1) (by kernel_rfl) rfl rfl (by rfl) (by go_simp;try rfl) ?_
   refine (TA _ l _ (HU1.out.1.slice Zf) (by have:=HLL.out;omega) (fun x hx=>Z2F (HT.out.2 x hx))).mono ?_
   rintro e w5 ⟨v5,rfl,hown,b5⟩
   refine ⟨_,rfl,fun _=>Z0.below hS0 b5,?_⟩
   try simp only[Ja]
   have hS5:=Z0.below hS0 b5
   have hcv:=Zt (hown.slice Z6)
   obtain ⟨⟨ra,rn,rc⟩,e5⟩:=hown.sl
   dsimp only at e5
   subst e5
   refine Zj (i:=2) (d:=some 78) (v:=.string ⟨(Zd l).toArray⟩) (w':=w5) (by kernel_rfl) rfl rfl (by rfl) (by go_simp;try rfl) (fun _=>hS5) ?_
   try simp only[Ja]
   have he:=XK ⟨(Zd l).toArray⟩ ⟨(b.take p).toArray⟩
   have HB5:=Jh (HU1.out.2.trans (b5.mono HU1.out.2.size))
   have HO5:=Jh (HU1.out.1.below1 b5)
   by_cases hrb:Zd l=b.take p
   ·rw[decide_eq_true (RO.2 hrb)] at he
    refine Zj (i:=7) (d:=some 83) (v:=.bool false) (w':=w5) (by kernel_rfl) rfl rfl (by rfl) (by go_simp;try rfl) (fun _=>hS5) ?_
    try simp only[Ja]
    refine Z3 (by kernel_rfl) ?_ _
    have HRB:=Lib.hid hrb
    clear hS0 hS5 hcv hown b5 HU1 he hrb hsl hS2
    go_wp2_with fail
    go_ret3
    exact .inl ⟨l,p,_,HT.out.good HLL.out (by omega) HPB.out HRB.out,rfl,HO5.out,HB5.out⟩
   ·rw[decide_eq_false (fun e=>hrb (RO.1 e))] at he
    refine Zj (i:=7) (d:=some 83) (v:=.bool true) (w':=w5) (by kernel_rfl) rfl rfl (by rfl) (by go_simp;try rfl) (fun _=>hS5) ?_
    try simp only[Ja]
    refine Z3 (by kernel_rfl) ?_ _
    have HRB:=Lib.hid hrb
    clear hS0 hS5 hcv hown b5 HU1 he hrb hsl hS2
    go_wp2_with fail
    go_ret3
    exact .inr ⟨HT.out.wrong HLL.out (by omega) HRB.out,rfl,HB5.out⟩
theorem SV {P:Program} {α:Type} {ea:α→List Value} {z:Nat} {t e:TypeId} (ht:P.underlying t=some (.slice e)) (hsz:(P.info? e).map (·.size)=some z) (a:Option Addr) (n cap p q:Nat) (hn:n≤cap) (hp:p≤q) (hq:q≤n) :
  ∃ a' c',(∀ W,(Instr.slice t (.slice a n cap) (some (.int .i64 (p:Int))) (some (.int .i64 (q:Int))) none).run P W=.ok (.slice a' (q - p) c') W)∧(∀ W (l:List α),l.length=n→Z0 ea z W (.slice a n cap) l→Z0 ea z W (.slice a' (q - p) c') ((l.drop p).take (q - p))):=by
 obtain ⟨i,hi,hz⟩:∃ i,P.info? e=some i∧i.size=z:=by
  cases h:P.info? e with
  | none=>rw[h] at hsz;cases hsz
  | some i=>rw[h] at hsz;exact ⟨i,rfl,Option.some.inj hsz⟩
 have hqc:q≤cap:=by omega
 refine ⟨if cap=p then a else a.map (·.add (p*z)),cap - p,fun W=>?_,fun W l hl h=>?_⟩
 ·simp[Instr.slice,Instr.sliceBounds,Instr.sliceBound,asIntOf,run_underlying ht,sizeOf,typeInfo,hi,hz,hp,hqc]
 ·obtain ⟨a2,c2,h1,h2,-⟩:=ZJ (P:=P) (ea:=ea) ht hsz a n cap p hn (by omega)
  have h3:=h2 W l hl h
  have h4:(Instr.slice t (.slice a n cap) (some (.int .i64 (p:Int))) none none).run P W=.ok (.slice (if cap=p then a else a.map (·.add (p*z))) (n - p) (cap - p)) W:=by
   have hpn:p≤n:=by omega
   simp[Instr.slice,Instr.sliceBounds,Instr.sliceBound,asIntOf,run_underlying ht,sizeOf,typeInfo,hi,hz,hpn,hn]
  have h5:=(h1 W).symm.trans h4
  cases h5
  exact h3.take1 (by rw[List.length_drop];omega)
theorem Z0S {n c p:Nat} {ls:List OpD} {r r2:List UInt8} {V:List Int} {X:List ByteArray} (h:YT n none r=some (V,p)) (h2:XQ V n (r.drop p)=some (X,r2)):Yp n c (ls,r)=some (Y5 c X n ls,r2):=by
 unfold Yp
 simp only[h,Option.bind_some,h2,Option.map_some]
theorem Q7 {n c:Nat} {ls:List OpD} {r:List UInt8} (h:YT n none r=none):Yp n c (ls,r)=none:=by
 unfold Yp
 simp only[h]
 rfl
theorem Ud {n c p:Nat} {ls:List OpD} {r:List UInt8} {V:List Int} (h:YT n none r=some (V,p)) (h2:XQ V n (r.drop p)=none):Yp n c (ls,r)=none:=by
 unfold Yp
 simp only[h,Option.bind_some,h2,Option.map_none]
theorem Z6z (w0 w:World) (v tb:Value) (r:List UInt8) (ls:List OpD) (ho:Own OpD.cells 26 68 w0.heap.size w v ls) (hb:Below w0.heap.size w0 w) (hs:Z0 u8c 1 w0 tb r) (hn:ls.length≤200):Calls Tryz.prog 60 #[v,tb,.int .i64 0] w fun e w'=>R1 w0 v r (Yp ls.length 0 (ls,r)) e w':=by
 obtain ⟨⟨la,ln,lc⟩,el⟩:=ho.sl
 dsimp only at el
 subst el
 obtain rfl:ln=ls.length:=(ho.nlen OpD.len).1
 obtain ⟨a,cap,rfl,hcap,hmax,-⟩:=id hs
 unfold maxLen at hmax
 obtain ⟨n,hn'⟩:∃ n,n=ls.length:=⟨_,rfl⟩
 have HH:=Lib.hid hs
 have HB:=Lib.hid hb
 have HLN:=Lib.hid hn'
 rw[←hn'] at hn ho ⊢
 have HO:=Lib.hid ho
 clear ho hb hs hn'
 go_enter Tryz.func60,Tryz.ntmps60
 go_wp2_with fail
 refine (WG _ r n w (HH.out.below HB.out) (by omega)).mono ?_
 rintro e w5 (⟨V,u,v5,hd,rfl,hown,hb5⟩|⟨hd,rfl,hb5⟩)
 ·have HB5:=Jh (HB.out.trans (hb5.mono HB.out.size))
  have HO5:=Jh (HO.out.below1 hb5)
  have hcf:=V8 (by omega) hd
  have hul:=hcf.2
  obtain ⟨⟨pa,pn,pc⟩,ep⟩:=hown.sl
  dsimp only at ep
  subst ep
  obtain rfl:pn=n:=by have h:=(hown.nlen Zf).1;rw[hcf.1] at h;exact h
  have HVL:Hid (V.length=pn):=Lib.hid hcf.1
  have HV:Hid (Own Zi 1 3 w0.heap.size w5 (.slice pa pn pc) V):=Jh (hown.mono HB.out.size)
  have HD:=Lib.hid hd
  clear hd hcf hown hb5 HO HB
  go_wp2_with fail
  go_loopg [8,10] pn (fun g pv iv wr=>∃ (i:Nat) (p:Nat) (X:List ByteArray),g=pn - i∧pv=.int .i64 p∧iv=.int .i64 i∧i≤pn∧p≤r.length∧Hid (XQ V i (r.drop u)=some (X,r.drop p)∧Own OpD.cells 26 68 w0.heap.size wr (.slice la pn lc) (Y5 0 X i ls)∧Own Zi 1 3 w0.heap.size wr (.slice pa pn pc) V∧Below w0.heap.size w0 wr))
  case atStart=>exact ⟨0,u,[],rfl,rfl,rfl,Nat.zero_le _,hul,Lib.hid ⟨rfl,by unfold Y5;rw[VD];exact HO5.out,HV.out,HB5.out⟩⟩
  case round =>
   clear HB5 HO5 HV hul
   obtain ⟨i,p,X,hg,rfl,rfl,hi,hpr,HI⟩:=hrel
   have HG:=Lib.hid hg
   clear hg
   by_cases hlt:i<pn
   ·have hi1:(i:Int)<(pn:Int):=by omega
    have hi0:(0:Int)≤(i:Int):=by omega
    obtain ⟨x,hx⟩:∃ x,ls[i]?=some x:=⟨_,List.getElem?_eq_getElem (by rw[←HLN.out];exact hlt)⟩
    obtain ⟨y,hy⟩:∃ y,V[i]?=some y:=⟨_,List.getElem?_eq_getElem (by rw[HVL.out];exact hlt)⟩
    obtain ⟨vb,vo,ev,cv⟩:=(HI.out.2.2.1.slice Zf).at1 hy rfl
    cases ev
    have HX:=Lib.hid hx
    have HY:=Lib.hid hy
    by_cases hneg:y<0
    ·have HBAD:Hid (Yp pn 0 (ls,r)=none):=Jh (Ud HD.out (Vt HI.out.1 hy (.inl hneg) hlt))
     have HB9:=Lib.hid HI.out.2.2.2
     clear hx hy HI
     go_wp2_with fail
     go_ret
     exact .inr ⟨HBAD.out,rfl,HB9.out⟩
    ·obtain ⟨k,rfl⟩:∃ k:Nat,y=(k:Int):=⟨y.toNat,by omega⟩
     have hneg0:¬ (k:Int)<0:=hneg
     obtain ⟨m,hm⟩:∃ m:Nat,m=r.length - p:=⟨_,rfl⟩
     have hsub:(r.length:Int) - (p:Int)=(m:Int):=by omega
     by_cases hgt:m<k
     ·have hgt1:(m:Int)<(k:Int):=by omega
      have HBAD:Hid (Yp pn 0 (ls,r)=none):=Jh (Ud HD.out (Vt HI.out.1 hy (.inr (by rw[List.length_drop];omega)) hlt))
      have HB9:=Lib.hid HI.out.2.2.2
      clear hx hy HI hm hneg hgt
      go_wp2_with fail
      go_ret
      exact .inr ⟨HBAD.out,rfl,HB9.out⟩
     ·have hgt1:¬ (m:Int)<(k:Int):=by omega
      have hpk:p+k≤r.length:=by omega
      obtain ⟨a1,c1,hsl,hS1⟩:=SV (P:=Tryz.prog) (ea:=u8c) Tryz.underlying22 Zh a r.length cap p (p+k) hcap (by omega) hpk
      have hpk0:p+k - p=k:=by omega
      rw[hpk0] at hS1
      simp only[hpk0,Int.natCast_add] at hsl
      have hcv:=fun W hW=>Zt (hS1 W r rfl hW)
      obtain ⟨s,hsE⟩:∃ s:ByteArray,s=⟨((r.drop p).take k).toArray⟩:=⟨_,rfl⟩
      rw[←hsE] at hcv
      have hcv1:=hcv wr (HH.out.below HI.out.2.2.2)
      have hmx:=Vy (fun j o=>o.setX 0 (X.getD j ZN)) i hx
      obtain ⟨g,gcap,e,hg1,hg3⟩:=HI.out.2.1.eq_slice.resolve_left (fun e=>by have e2:=e.2;unfold Y5 at e2;rw[e2] at hmx;simp at hmx)
      injection e with e1 e2 e3
      subst e1 e3
      clear e2
      have hln:(Y5 0 X i ls).length=pn:=by unfold Y5;rw[YJ];exact HLN.out.symm
      have ho1:=HI.out.2.1
      rw[←hln] at ho1
      have c17:=ho1.cellAt OpD.len hmx (j:=17) rfl
      have f17:=ho1.free (i*26+17)
      have h1:=ho1.setAt OpD.len hmx (j:=17) (y:=x.setX 0 s) (u:=.string s) (by omega) (Ux x 0 s)
      have hXl:=(UR HI.out.1).1
      rw[hln,←Tf 0 i hXl hx (s:=s)] at h1
      have HC:=Jh (Tq HI.out.1 hy (by rw[List.length_drop];omega))
      rw[List.drop_drop,←hsE] at HC
      have HI2:Hid (Own OpD.cells 26 68 w0.heap.size (wr.setCell ⟨g,i*26+17,none⟩ (.string s)) (.slice (some ⟨g,0,none⟩) pn lc) (Y5 0 (X++[s]) (i+1) ls)∧Own Zi 1 3 w0.heap.size (wr.setCell ⟨g,i*26+17,none⟩ (.string s)) (.slice (some ⟨vb,vo,none⟩) pn pc) V∧Below w0.heap.size w0 (wr.setCell ⟨g,i*26+17,none⟩ (.string s))):=Lib.hid ⟨h1,HI.out.2.2.1.notg ho1 (by decide) rfl _ _,Wq HI.out.2.2.2 (ho1.blk g rfl).1 _ _⟩
      clear h1 ho1 hx hy hmx hln HI hg1 hg3 hS1 hcv hsE hXl hneg hgt hm
      go_upto_region 17 with fail
      generalize wr.setCell ⟨g,i*26+17,none⟩ (.string s)=W2 at HI2 ⊢
      clear c17 f17 cv hcv1 hsl
      obtain ⟨zb,zo,ev,cv⟩:=(HI2.out.2.1.slice Zf).at1 HY.out rfl
      cases ev
      go_wp2_with fail
      go_roundg (pn - (i+1))
      case measure=>rw[HG.out];omega
      case rel=>exact ⟨i+1,p+k,X++[s],rfl,by simp,by simp,by omega,by omega,Lib.hid ⟨HC.out,HI2.out⟩⟩
   ·obtain rfl:i=pn:=by omega
    have hi1:¬ (i:Int)<(i:Int):=by omega
    have HI3:=Lib.hid HI.out
    clear HI
    go_wp2_with fail
    go_ret
    exact .inl ⟨Y5 0 X i ls,p,hpr,Z0S HD.out HI3.out.1,rfl,HI3.out.2.1,HI3.out.2.2.2⟩
 ·have HBAD:Hid (Yp n 0 (ls,r)=none):=Jh (Q7 hd)
  have HB6:=Jh (HB.out.trans (hb5.mono HB.out.size))
  clear hd hb5
  go_wp2_with fail
  go_ret
  exact .inr ⟨HBAD.out,rfl,HB6.out⟩
theorem Z6d (w0 w:World) (v tb:Value) (r:List UInt8) (ls:List OpD) (ho:Own OpD.cells 26 68 w0.heap.size w v ls) (hb:Below w0.heap.size w0 w) (hs:Z0 u8c 1 w0 tb r) (hn:ls.length≤200):Calls Tryz.prog 60 #[v,tb,.int .i64 1] w fun e w'=>R1 w0 v r (Yp ls.length 1 (ls,r)) e w':=by
 obtain ⟨⟨la,ln,lc⟩,el⟩:=ho.sl
 dsimp only at el
 subst el
 obtain rfl:ln=ls.length:=(ho.nlen OpD.len).1
 obtain ⟨a,cap,rfl,hcap,hmax,-⟩:=id hs
 unfold maxLen at hmax
 obtain ⟨n,hn'⟩:∃ n,n=ls.length:=⟨_,rfl⟩
 have HH:=Lib.hid hs
 have HB:=Lib.hid hb
 have HLN:=Lib.hid hn'
 rw[←hn'] at hn ho ⊢
 have HO:=Lib.hid ho
 clear ho hb hs hn'
 go_enter Tryz.func60,Tryz.ntmps60
 go_wp2_with fail
 refine (WG _ r n w (HH.out.below HB.out) (by omega)).mono ?_
 rintro e w5 (⟨V,u,v5,hd,rfl,hown,hb5⟩|⟨hd,rfl,hb5⟩)
 ·have HB5:=Jh (HB.out.trans (hb5.mono HB.out.size))
  have HO5:=Jh (HO.out.below1 hb5)
  have hcf:=V8 (by omega) hd
  have hul:=hcf.2
  obtain ⟨⟨pa,pn,pc⟩,ep⟩:=hown.sl
  dsimp only at ep
  subst ep
  obtain rfl:pn=n:=by have h:=(hown.nlen Zf).1;rw[hcf.1] at h;exact h
  have HVL:Hid (V.length=pn):=Lib.hid hcf.1
  have HV:Hid (Own Zi 1 3 w0.heap.size w5 (.slice pa pn pc) V):=Jh (hown.mono HB.out.size)
  have HD:=Lib.hid hd
  clear hd hcf hown hb5 HO HB
  go_wp2_with fail
  go_loopg [8,10] pn (fun g pv iv wr=>∃ (i:Nat) (p:Nat) (X:List ByteArray),g=pn - i∧pv=.int .i64 p∧iv=.int .i64 i∧i≤pn∧p≤r.length∧Hid (XQ V i (r.drop u)=some (X,r.drop p)∧Own OpD.cells 26 68 w0.heap.size wr (.slice la pn lc) (Y5 1 X i ls)∧Own Zi 1 3 w0.heap.size wr (.slice pa pn pc) V∧Below w0.heap.size w0 wr))
  case atStart=>exact ⟨0,u,[],rfl,rfl,rfl,Nat.zero_le _,hul,Lib.hid ⟨rfl,by unfold Y5;rw[VD];exact HO5.out,HV.out,HB5.out⟩⟩
  case round =>
   clear HB5 HO5 HV hul
   obtain ⟨i,p,X,hg,rfl,rfl,hi,hpr,HI⟩:=hrel
   have HG:=Lib.hid hg
   clear hg
   by_cases hlt:i<pn
   ·have hi1:(i:Int)<(pn:Int):=by omega
    have hi0:(0:Int)≤(i:Int):=by omega
    obtain ⟨x,hx⟩:∃ x,ls[i]?=some x:=⟨_,List.getElem?_eq_getElem (by rw[←HLN.out];exact hlt)⟩
    obtain ⟨y,hy⟩:∃ y,V[i]?=some y:=⟨_,List.getElem?_eq_getElem (by rw[HVL.out];exact hlt)⟩
    obtain ⟨vb,vo,ev,cv⟩:=(HI.out.2.2.1.slice Zf).at1 hy rfl
    cases ev
    have HX:=Lib.hid hx
    have HY:=Lib.hid hy
    by_cases hneg:y<0
    ·have HBAD:Hid (Yp pn 1 (ls,r)=none):=Jh (Ud HD.out (Vt HI.out.1 hy (.inl hneg) hlt))
     have HB9:=Lib.hid HI.out.2.2.2
     clear hx hy HI
     go_wp2_with fail
     go_ret
     exact .inr ⟨HBAD.out,rfl,HB9.out⟩
    ·obtain ⟨k,rfl⟩:∃ k:Nat,y=(k:Int):=⟨y.toNat,by omega⟩
     have hneg0:¬ (k:Int)<0:=hneg
     obtain ⟨m,hm⟩:∃ m:Nat,m=r.length - p:=⟨_,rfl⟩
     have hsub:(r.length:Int) - (p:Int)=(m:Int):=by omega
     by_cases hgt:m<k
     ·have hgt1:(m:Int)<(k:Int):=by omega
      have HBAD:Hid (Yp pn 1 (ls,r)=none):=Jh (Ud HD.out (Vt HI.out.1 hy (.inr (by rw[List.length_drop];omega)) hlt))
      have HB9:=Lib.hid HI.out.2.2.2
      clear hx hy HI hm hneg hgt
      go_wp2_with fail
      go_ret
      exact .inr ⟨HBAD.out,rfl,HB9.out⟩
     ·have hgt1:¬ (m:Int)<(k:Int):=by omega
      have hpk:p+k≤r.length:=by omega
      obtain ⟨a1,c1,hsl,hS1⟩:=SV (P:=Tryz.prog) (ea:=u8c) Tryz.underlying22 Zh a r.length cap p (p+k) hcap (by omega) hpk
      have hpk0:p+k - p=k:=by omega
      rw[hpk0] at hS1
      simp only[hpk0,Int.natCast_add] at hsl
      have hcv:=fun W hW=>Zt (hS1 W r rfl hW)
      obtain ⟨s,hsE⟩:∃ s:ByteArray,s=⟨((r.drop p).take k).toArray⟩:=⟨_,rfl⟩
      rw[←hsE] at hcv
      have hcv1:=hcv wr (HH.out.below HI.out.2.2.2)
      have hmx:=Vy (fun j o=>o.setX 1 (X.getD j ZN)) i hx
      obtain ⟨g,gcap,e,hg1,hg3⟩:=HI.out.2.1.eq_slice.resolve_left (fun e=>by have e2:=e.2;unfold Y5 at e2;rw[e2] at hmx;simp at hmx)
      injection e with e1 e2 e3
      subst e1 e3
      clear e2
      have hln:(Y5 1 X i ls).length=pn:=by unfold Y5;rw[YJ];exact HLN.out.symm
      have ho1:=HI.out.2.1
      rw[←hln] at ho1
      have c17:=ho1.cellAt OpD.len hmx (j:=18) rfl
      have f17:=ho1.free (i*26+18)
      have h1:=ho1.setAt OpD.len hmx (j:=18) (y:=x.setX 1 s) (u:=.string s) (by omega) (Ux x 1 s)
      have hXl:=(UR HI.out.1).1
      rw[hln,←Tf 1 i hXl hx (s:=s)] at h1
      have HC:=Jh (Tq HI.out.1 hy (by rw[List.length_drop];omega))
      rw[List.drop_drop,←hsE] at HC
      have HI2:Hid (Own OpD.cells 26 68 w0.heap.size (wr.setCell ⟨g,i*26+18,none⟩ (.string s)) (.slice (some ⟨g,0,none⟩) pn lc) (Y5 1 (X++[s]) (i+1) ls)∧Own Zi 1 3 w0.heap.size (wr.setCell ⟨g,i*26+18,none⟩ (.string s)) (.slice (some ⟨vb,vo,none⟩) pn pc) V∧Below w0.heap.size w0 (wr.setCell ⟨g,i*26+18,none⟩ (.string s))):=Lib.hid ⟨h1,HI.out.2.2.1.notg ho1 (by decide) rfl _ _,Wq HI.out.2.2.2 (ho1.blk g rfl).1 _ _⟩
      clear h1 ho1 hx hy hmx hln HI hg1 hg3 hS1 hcv hsE hXl hneg hgt hm
      go_upto_region 17 with fail
      generalize wr.setCell ⟨g,i*26+18,none⟩ (.string s)=W2 at HI2 ⊢
      clear c17 f17 cv hcv1 hsl
      obtain ⟨zb,zo,ev,cv⟩:=(HI2.out.2.1.slice Zf).at1 HY.out rfl
      cases ev
      go_wp2_with fail
      go_roundg (pn - (i+1))
      case measure=>rw[HG.out];omega
      case rel=>exact ⟨i+1,p+k,X++[s],rfl,by simp,by simp,by omega,by omega,Lib.hid ⟨HC.out,HI2.out⟩⟩
   ·obtain rfl:i=pn:=by omega
    have hi1:¬ (i:Int)<(i:Int):=by omega
    have HI3:=Lib.hid HI.out
    clear HI
    go_wp2_with fail
    go_ret
    exact .inl ⟨Y5 1 X i ls,p,hpr,Z0S HD.out HI3.out.1,rfl,HI3.out.2.1,HI3.out.2.2.2⟩
 ·have HBAD:Hid (Yp n 1 (ls,r)=none):=Jh (Q7 hd)
  have HB6:=Jh (HB.out.trans (hb5.mono HB.out.size))
  clear hd hb5
  go_wp2_with fail
  go_ret
  exact .inr ⟨HBAD.out,rfl,HB6.out⟩
theorem Z70 (w0 w:World) (v tb:Value) (r:List UInt8) (ls:List OpD) (ho:Own OpD.cells 26 68 w0.heap.size w v ls) (hb:Below w0.heap.size w0 w) (hs:Z0 u8c 1 w0 tb r) (hn:ls.length≤200):Calls Tryz.prog 60 #[v,tb,.int .i64 2] w fun e w'=>R1 w0 v r (Yp ls.length 2 (ls,r)) e w':=by
 obtain ⟨⟨la,ln,lc⟩,el⟩:=ho.sl
 dsimp only at el
 subst el
 obtain rfl:ln=ls.length:=(ho.nlen OpD.len).1
 obtain ⟨a,cap,rfl,hcap,hmax,-⟩:=id hs
 unfold maxLen at hmax
 obtain ⟨n,hn'⟩:∃ n,n=ls.length:=⟨_,rfl⟩
 have HH:=Lib.hid hs
 have HB:=Lib.hid hb
 have HLN:=Lib.hid hn'
 rw[←hn'] at hn ho ⊢
 have HO:=Lib.hid ho
 clear ho hb hs hn'
 go_enter Tryz.func60,Tryz.ntmps60
 go_wp2_with fail
 refine (WG _ r n w (HH.out.below HB.out) (by omega)).mono ?_
 rintro e w5 (⟨V,u,v5,hd,rfl,hown,hb5⟩|⟨hd,rfl,hb5⟩)
 ·have HB5:=Jh (HB.out.trans (hb5.mono HB.out.size))
  have HO5:=Jh (HO.out.below1 hb5)
  have hcf:=V8 (by omega) hd
  have hul:=hcf.2
  obtain ⟨⟨pa,pn,pc⟩,ep⟩:=hown.sl
  dsimp only at ep
  subst ep
  obtain rfl:pn=n:=by have h:=(hown.nlen Zf).1;rw[hcf.1] at h;exact h
  have HVL:Hid (V.length=pn):=Lib.hid hcf.1
  have HV:Hid (Own Zi 1 3 w0.heap.size w5 (.slice pa pn pc) V):=Jh (hown.mono HB.out.size)
  have HD:=Lib.hid hd
  clear hd hcf hown hb5 HO HB
  go_wp2_with fail
  go_loopg [8,10] pn (fun g pv iv wr=>∃ (i:Nat) (p:Nat) (X:List ByteArray),g=pn - i∧pv=.int .i64 p∧iv=.int .i64 i∧i≤pn∧p≤r.length∧Hid (XQ V i (r.drop u)=some (X,r.drop p)∧Own OpD.cells 26 68 w0.heap.size wr (.slice la pn lc) (Y5 2 X i ls)∧Own Zi 1 3 w0.heap.size wr (.slice pa pn pc) V∧Below w0.heap.size w0 wr))
  case atStart=>exact ⟨0,u,[],rfl,rfl,rfl,Nat.zero_le _,hul,Lib.hid ⟨rfl,by unfold Y5;rw[VD];exact HO5.out,HV.out,HB5.out⟩⟩
  case round =>
   clear HB5 HO5 HV hul
   obtain ⟨i,p,X,hg,rfl,rfl,hi,hpr,HI⟩:=hrel
   have HG:=Lib.hid hg
   clear hg
   by_cases hlt:i<pn
   ·have hi1:(i:Int)<(pn:Int):=by omega
    have hi0:(0:Int)≤(i:Int):=by omega
    obtain ⟨x,hx⟩:∃ x,ls[i]?=some x:=⟨_,List.getElem?_eq_getElem (by rw[←HLN.out];exact hlt)⟩
    obtain ⟨y,hy⟩:∃ y,V[i]?=some y:=⟨_,List.getElem?_eq_getElem (by rw[HVL.out];exact hlt)⟩
    obtain ⟨vb,vo,ev,cv⟩:=(HI.out.2.2.1.slice Zf).at1 hy rfl
    cases ev
    have HX:=Lib.hid hx
    have HY:=Lib.hid hy
    by_cases hneg:y<0
    ·have HBAD:Hid (Yp pn 2 (ls,r)=none):=Jh (Ud HD.out (Vt HI.out.1 hy (.inl hneg) hlt))
     have HB9:=Lib.hid HI.out.2.2.2
     clear hx hy HI
     go_wp2_with fail
     go_ret
     exact .inr ⟨HBAD.out,rfl,HB9.out⟩
    ·obtain ⟨k,rfl⟩:∃ k:Nat,y=(k:Int):=⟨y.toNat,by omega⟩
     have hneg0:¬ (k:Int)<0:=hneg
     obtain ⟨m,hm⟩:∃ m:Nat,m=r.length - p:=⟨_,rfl⟩
     have hsub:(r.length:Int) - (p:Int)=(m:Int):=by omega
     by_cases hgt:m<k
     ·have hgt1:(m:Int)<(k:Int):=by omega
      have HBAD:Hid (Yp pn 2 (ls,r)=none):=Jh (Ud HD.out (Vt HI.out.1 hy (.inr (by rw[List.length_drop];omega)) hlt))
      have HB9:=Lib.hid HI.out.2.2.2
      clear hx hy HI hm hneg hgt
      go_wp2_with fail
      go_ret
      exact .inr ⟨HBAD.out,rfl,HB9.out⟩
     ·have hgt1:¬ (m:Int)<(k:Int):=by omega
      have hpk:p+k≤r.length:=by omega
      obtain ⟨a1,c1,hsl,hS1⟩:=SV (P:=Tryz.prog) (ea:=u8c) Tryz.underlying22 Zh a r.length cap p (p+k) hcap (by omega) hpk
      have hpk0:p+k - p=k:=by omega
      rw[hpk0] at hS1
      simp only[hpk0,Int.natCast_add] at hsl
      have hcv:=fun W hW=>Zt (hS1 W r rfl hW)
      obtain ⟨s,hsE⟩:∃ s:ByteArray,s=⟨((r.drop p).take k).toArray⟩:=⟨_,rfl⟩
      rw[←hsE] at hcv
      have hcv1:=hcv wr (HH.out.below HI.out.2.2.2)
      have hmx:=Vy (fun j o=>o.setX 2 (X.getD j ZN)) i hx
      obtain ⟨g,gcap,e,hg1,hg3⟩:=HI.out.2.1.eq_slice.resolve_left (fun e=>by have e2:=e.2;unfold Y5 at e2;rw[e2] at hmx;simp at hmx)
      injection e with e1 e2 e3
      subst e1 e3
      clear e2
      have hln:(Y5 2 X i ls).length=pn:=by unfold Y5;rw[YJ];exact HLN.out.symm
      have ho1:=HI.out.2.1
      rw[←hln] at ho1
      have c17:=ho1.cellAt OpD.len hmx (j:=19) rfl
      have f17:=ho1.free (i*26+19)
      have h1:=ho1.setAt OpD.len hmx (j:=19) (y:=x.setX 2 s) (u:=.string s) (by omega) (Ux x 2 s)
      have hXl:=(UR HI.out.1).1
      rw[hln,←Tf 2 i hXl hx (s:=s)] at h1
      have HC:=Jh (Tq HI.out.1 hy (by rw[List.length_drop];omega))
      rw[List.drop_drop,←hsE] at HC
      have HI2:Hid (Own OpD.cells 26 68 w0.heap.size (wr.setCell ⟨g,i*26+19,none⟩ (.string s)) (.slice (some ⟨g,0,none⟩) pn lc) (Y5 2 (X++[s]) (i+1) ls)∧Own Zi 1 3 w0.heap.size (wr.setCell ⟨g,i*26+19,none⟩ (.string s)) (.slice (some ⟨vb,vo,none⟩) pn pc) V∧Below w0.heap.size w0 (wr.setCell ⟨g,i*26+19,none⟩ (.string s))):=Lib.hid ⟨h1,HI.out.2.2.1.notg ho1 (by decide) rfl _ _,Wq HI.out.2.2.2 (ho1.blk g rfl).1 _ _⟩
      clear h1 ho1 hx hy hmx hln HI hg1 hg3 hS1 hcv hsE hXl hneg hgt hm
      go_upto_region 17 with fail
      generalize wr.setCell ⟨g,i*26+19,none⟩ (.string s)=W2 at HI2 ⊢
      clear c17 f17 cv hcv1 hsl
      obtain ⟨zb,zo,ev,cv⟩:=(HI2.out.2.1.slice Zf).at1 HY.out rfl
      cases ev
      go_wp2_with fail
      go_roundg (pn - (i+1))
      case measure=>rw[HG.out];omega
      case rel=>exact ⟨i+1,p+k,X++[s],rfl,by simp,by simp,by omega,by omega,Lib.hid ⟨HC.out,HI2.out⟩⟩
   ·obtain rfl:i=pn:=by omega
    have hi1:¬ (i:Int)<(i:Int):=by omega
    have HI3:=Lib.hid HI.out
    clear HI
    go_wp2_with fail
    go_ret
    exact .inl ⟨Y5 2 X i ls,p,hpr,Z0S HD.out HI3.out.1,rfl,HI3.out.2.1,HI3.out.2.2.2⟩
 ·have HBAD:Hid (Yp n 2 (ls,r)=none):=Jh (Q7 hd)
  have HB6:=Jh (HB.out.trans (hb5.mono HB.out.size))
  clear hd hb5
  go_wp2_with fail
  go_ret
  exact .inr ⟨HBAD.out,rfl,HB6.out⟩
theorem Z4z (w0 w:World) (v tb:Value) (r:List UInt8) (ls:List OpD) (c:Nat) (hc:c<3) (ho:Own OpD.cells 26 68 w0.heap.size w v ls) (hb:Below w0.heap.size w0 w) (hs:Z0 u8c 1 w0 tb r) (hn:ls.length≤200):Calls Tryz.prog 60 #[v,tb,.int .i64 c] w fun e w'=>R1 w0 v r (Yp ls.length c (ls,r)) e w':=by
 rcases (by omega:c=0∨c=1∨c=2) with rfl|rfl|rfl
 ·exact Z6z w0 w v tb r ls ho hb hs hn
 ·exact Z6d w0 w v tb r ls ho hb hs hn
 ·exact Z70 w0 w v tb r ls ho hb hs hn
def OpD.putF (o:OpD) (c:Nat) (v:Int):OpD:=o.withF fun j=>if j=c then v else fld o j
theorem Yz (o o':OpD) (w:World) {T:TypeId} (hT:∀ w,(sizeOf T).run Tryz.prog w=.ok 1 w) (off:Nat) (v:Int) (hoff:off<26) (ho:o'.cells=o.cells.take off++[.int .i64 v]++o.cells.drop (off+1)) :
  ∃ W3 W4,(Instr.storeAt T (.pointer (some ⟨w.heap.size,off,none⟩)) (.int .i64 v)).run Tryz.prog ((w.alloc (.cells o.cells.toArray 68)).alloc (.cells YK.cells.toArray 68))=.ok () W3∧OB w.heap.size o' W3 ∧
   (Instr.storeAt 68 (.pointer (some ⟨w.heap.size+1,0,none⟩)) (.agg o'.cells.toArray)).run Tryz.prog W3=.ok () W4∧OB (w.heap.size+1) o' W4∧Below w.heap.size w W4:=by
 have hb:OB w.heap.size o (w.alloc (.cells o.cells.toArray 68)):=OB.new w o
 have hb1:OB w.heap.size o ((w.alloc (.cells o.cells.toArray 68)).alloc (.cells YK.cells.toArray 68)):=hb.alloc _
 have hb2:OB (w.heap.size+1) YK ((w.alloc (.cells o.cells.toArray 68)).alloc (.cells YK.cells.toArray 68)):=by
  have:=OB.new (w.alloc (.cells o.cells.toArray 68)) YK
  rwa [show (w.alloc (.cells o.cells.toArray 68)).heap.size=w.heap.size+1 by simp] at this
 have hw:Below w.heap.size w ((w.alloc (.cells o.cells.toArray 68)).alloc (.cells YK.cells.toArray 68)):=((Below.refl _ _).alloc (Nat.le_refl _) _).alloc (by simp) _
 generalize (w.alloc (.cells o.cells.toArray 68)).alloc (.cells YK.cells.toArray 68)=W2 at hb1 hb2 hw ⊢
 obtain ⟨W3,h1,h2,h3⟩:=OB.store hb1 (T:=T) (k:=1) hT (off:=off) (v:=.int .i64 v) (vs:=[.int .i64 v]) rfl rfl (by intro u hu;simp only[List.mem_cons,List.not_mem_nil,or_false] at hu;rcases hu with rfl;rfl) (by omega) o' ho
 have hb3:OB (w.heap.size+1) YK W3:=hb2.ext h3 (by omega)
 obtain ⟨W4,k1,k2,k3⟩:=OB.store hb3 (T:=68) XS.size (off:=0) (v:=.agg o'.cells.toArray) (vs:=o'.cells) rfl rfl (OpD.one _) (by omega) o' (by
  rw[List.take_zero,List.nil_append,Nat.zero_add,List.drop_eq_nil_of_le (by rw[OpD.len];omega),List.append_nil])
 refine ⟨W3,W4,h1,h2,k1,k2,?_⟩
 have e3:=Ext.new hw h3 (fun i hi _ e=>by omega) hw.size
 exact Ext.new e3 k3 (fun i hi _ e=>by omega) e3.size
theorem Z7x (o:OpD) (v:Int) (w:World):Calls Tryz.prog 58 #[o.val,.int .i64 0,.int .i64 v] w fun e w'=>e=.returned (o.putF 0 v).val∧Below w.heap.size w w':=by
 obtain ⟨W3,W4,h1,h2,h3,h4,h5⟩:=Yz o (o.putF 0 v) w (T:=3) YF 0 v (by omega) rfl
 unfold OpD.val
 generalize o.putF 0 v=x at h2 h3 h4 ⊢
 have hl:=h2.whole
 have hr:=h4.whole
 have HB:=Lib.hid h5
 have HL:=Lib.hid hl
 have H3:=Lib.hid h3
 have H1:=Lib.hid h1
 have HR:=Lib.hid hr
 clear hl h3 h2 h4 h1 hr h5
 go_enter Tryz.func58,Tryz.ntmps58
 go_wp2_with (first|(refine Z2 (T:=3) (v:=.int .i64 v) rfl rfl rfl rfl H1.out ?_)|(refine Zs (T:=68) (v:=.agg x.cells.toArray) rfl rfl rfl HL.out ?_)|(refine Z2 (T:=68) (v:=.agg x.cells.toArray) rfl rfl rfl rfl H3.out ?_))
 refine bodyPost_ret (v:=.agg x.cells.toArray) (by rw[Zv rfl];first|exact HR.out|(have hr:=HR.out;go_simp;exact hr)) rfl ?_
 exact ⟨rfl,HB.out⟩
theorem Z7I (o:OpD) (v:Int) (w:World):Calls Tryz.prog 58 #[o.val,.int .i64 1,.int .i64 v] w fun e w'=>e=.returned (o.putF 1 v).val∧Below w.heap.size w w':=by
 obtain ⟨W3,W4,h1,h2,h3,h4,h5⟩:=Yz o (o.putF 1 v) w (T:=3) YF 1 v (by omega) rfl
 unfold OpD.val
 generalize o.putF 1 v=x at h2 h3 h4 ⊢
 have hl:=h2.whole
 have hr:=h4.whole
 have HB:=Lib.hid h5
 have HL:=Lib.hid hl
 have H3:=Lib.hid h3
 have H1:=Lib.hid h1
 have HR:=Lib.hid hr
 clear hl h3 h2 h4 h1 hr h5
 go_enter Tryz.func58,Tryz.ntmps58
 go_wp2_with (first|(refine Z2 (T:=3) (v:=.int .i64 v) rfl rfl rfl rfl H1.out ?_)|(refine Zs (T:=68) (v:=.agg x.cells.toArray) rfl rfl rfl HL.out ?_)|(refine Z2 (T:=68) (v:=.agg x.cells.toArray) rfl rfl rfl rfl H3.out ?_))
 refine bodyPost_ret (v:=.agg x.cells.toArray) (by rw[Zv rfl];first|exact HR.out|(have hr:=HR.out;go_simp;exact hr)) rfl ?_
 exact ⟨rfl,HB.out⟩
theorem Z7K (o:OpD) (v:Int) (w:World):Calls Tryz.prog 58 #[o.val,.int .i64 2,.int .i64 v] w fun e w'=>e=.returned (o.putF 2 v).val∧Below w.heap.size w w':=by
 obtain ⟨W3,W4,h1,h2,h3,h4,h5⟩:=Yz o (o.putF 2 v) w (T:=3) YF 2 v (by omega) rfl
 unfold OpD.val
 generalize o.putF 2 v=x at h2 h3 h4 ⊢
 have hl:=h2.whole
 have hr:=h4.whole
 have HB:=Lib.hid h5
 have HL:=Lib.hid hl
 have H3:=Lib.hid h3
 have H1:=Lib.hid h1
 have HR:=Lib.hid hr
 clear hl h3 h2 h4 h1 hr h5
 go_enter Tryz.func58,Tryz.ntmps58
 go_wp2_with (first|(refine Z2 (T:=3) (v:=.int .i64 v) rfl rfl rfl rfl H1.out ?_)|(refine Zs (T:=68) (v:=.agg x.cells.toArray) rfl rfl rfl HL.out ?_)|(refine Z2 (T:=68) (v:=.agg x.cells.toArray) rfl rfl rfl rfl H3.out ?_))
 refine bodyPost_ret (v:=.agg x.cells.toArray) (by rw[Zv rfl];first|exact HR.out|(have hr:=HR.out;go_simp;exact hr)) rfl ?_
 exact ⟨rfl,HB.out⟩
theorem Z7p (o:OpD) (v:Int) (w:World):Calls Tryz.prog 58 #[o.val,.int .i64 3,.int .i64 v] w fun e w'=>e=.returned (o.putF 3 v).val∧Below w.heap.size w w':=by
 obtain ⟨W3,W4,h1,h2,h3,h4,h5⟩:=Yz o (o.putF 3 v) w (T:=3) YF 3 v (by omega) rfl
 unfold OpD.val
 generalize o.putF 3 v=x at h2 h3 h4 ⊢
 have hl:=h2.whole
 have hr:=h4.whole
 have HB:=Lib.hid h5
 have HL:=Lib.hid hl
 have H3:=Lib.hid h3
 have H1:=Lib.hid h1
 have HR:=Lib.hid hr
 clear hl h3 h2 h4 h1 hr h5
 go_enter Tryz.func58,Tryz.ntmps58
 go_wp2_with (first|(refine Z2 (T:=3) (v:=.int .i64 v) rfl rfl rfl rfl H1.out ?_)|(refine Zs (T:=68) (v:=.agg x.cells.toArray) rfl rfl rfl HL.out ?_)|(refine Z2 (T:=68) (v:=.agg x.cells.toArray) rfl rfl rfl rfl H3.out ?_))
 refine bodyPost_ret (v:=.agg x.cells.toArray) (by rw[Zv rfl];first|exact HR.out|(have hr:=HR.out;go_simp;exact hr)) rfl ?_
 exact ⟨rfl,HB.out⟩
theorem Z7m (o:OpD) (v:Int) (w:World):Calls Tryz.prog 58 #[o.val,.int .i64 4,.int .i64 v] w fun e w'=>e=.returned (o.putF 4 v).val∧Below w.heap.size w w':=by
 obtain ⟨W3,W4,h1,h2,h3,h4,h5⟩:=Yz o (o.putF 4 v) w (T:=3) YF 4 v (by omega) rfl
 unfold OpD.val
 generalize o.putF 4 v=x at h2 h3 h4 ⊢
 have hl:=h2.whole
 have hr:=h4.whole
 have HB:=Lib.hid h5
 have HL:=Lib.hid hl
 have H3:=Lib.hid h3
 have H1:=Lib.hid h1
 have HR:=Lib.hid hr
 clear hl h3 h2 h4 h1 hr h5
 go_enter Tryz.func58,Tryz.ntmps58
 go_wp2_with (first|(refine Z2 (T:=3) (v:=.int .i64 v) rfl rfl rfl rfl H1.out ?_)|(refine Zs (T:=68) (v:=.agg x.cells.toArray) rfl rfl rfl HL.out ?_)|(refine Z2 (T:=68) (v:=.agg x.cells.toArray) rfl rfl rfl rfl H3.out ?_))
 refine bodyPost_ret (v:=.agg x.cells.toArray) (by rw[Zv rfl];first|exact HR.out|(have hr:=HR.out;go_simp;exact hr)) rfl ?_
 exact ⟨rfl,HB.out⟩
theorem Z7N (o:OpD) (v:Int) (w:World):Calls Tryz.prog 58 #[o.val,.int .i64 5,.int .i64 v] w fun e w'=>e=.returned (o.putF 5 v).val∧Below w.heap.size w w':=by
 obtain ⟨W3,W4,h1,h2,h3,h4,h5⟩:=Yz o (o.putF 5 v) w (T:=3) YF 5 v (by omega) rfl
 unfold OpD.val
 generalize o.putF 5 v=x at h2 h3 h4 ⊢
 have hl:=h2.whole
 have hr:=h4.whole
 have HB:=Lib.hid h5
 have HL:=Lib.hid hl
 have H3:=Lib.hid h3
 have H1:=Lib.hid h1
 have HR:=Lib.hid hr
 clear hl h3 h2 h4 h1 hr h5
 go_enter Tryz.func58,Tryz.ntmps58
 go_wp2_with (first|(refine Z2 (T:=3) (v:=.int .i64 v) rfl rfl rfl rfl H1.out ?_)|(refine Zs (T:=68) (v:=.agg x.cells.toArray) rfl rfl rfl HL.out ?_)|(refine Z2 (T:=68) (v:=.agg x.cells.toArray) rfl rfl rfl rfl H3.out ?_))
 refine bodyPost_ret (v:=.agg x.cells.toArray) (by rw[Zv rfl];first|exact HR.out|(have hr:=HR.out;go_simp;exact hr)) rfl ?_
 exact ⟨rfl,HB.out⟩
theorem Z7y (o:OpD) (v:Int) (w:World):Calls Tryz.prog 58 #[o.val,.int .i64 6,.int .i64 v] w fun e w'=>e=.returned (o.putF 6 v).val∧Below w.heap.size w w':=by
 obtain ⟨W3,W4,h1,h2,h3,h4,h5⟩:=Yz o (o.putF 6 v) w (T:=3) YF 6 v (by omega) rfl
 unfold OpD.val
 generalize o.putF 6 v=x at h2 h3 h4 ⊢
 have hl:=h2.whole
 have hr:=h4.whole
 have HB:=Lib.hid h5
 have HL:=Lib.hid hl
 have H3:=Lib.hid h3
 have H1:=Lib.hid h1
 have HR:=Lib.hid hr
 clear hl h3 h2 h4 h1 hr h5
 go_enter Tryz.func58,Tryz.ntmps58
 go_wp2_with (first|(refine Z2 (T:=3) (v:=.int .i64 v) rfl rfl rfl rfl H1.out ?_)|(refine Zs (T:=68) (v:=.agg x.cells.toArray) rfl rfl rfl HL.out ?_)|(refine Z2 (T:=68) (v:=.agg x.cells.toArray) rfl rfl rfl rfl H3.out ?_))
 refine bodyPost_ret (v:=.agg x.cells.toArray) (by rw[Zv rfl];first|exact HR.out|(have hr:=HR.out;go_simp;exact hr)) rfl ?_
 exact ⟨rfl,HB.out⟩
theorem Z7A (o:OpD) (v:Int) (w:World):Calls Tryz.prog 58 #[o.val,.int .i64 7,.int .i64 v] w fun e w'=>e=.returned (o.putF 7 v).val∧Below w.heap.size w w':=by
 obtain ⟨W3,W4,h1,h2,h3,h4,h5⟩:=Yz o (o.putF 7 v) w (T:=3) YF 7 v (by omega) rfl
 unfold OpD.val
 generalize o.putF 7 v=x at h2 h3 h4 ⊢
 have hl:=h2.whole
 have hr:=h4.whole
 have HB:=Lib.hid h5
 have HL:=Lib.hid hl
 have H3:=Lib.hid h3
 have H1:=Lib.hid h1
 have HR:=Lib.hid hr
 clear hl h3 h2 h4 h1 hr h5
 go_enter Tryz.func58,Tryz.ntmps58
 go_wp2_with (first|(refine Z2 (T:=3) (v:=.int .i64 v) rfl rfl rfl rfl H1.out ?_)|(refine Zs (T:=68) (v:=.agg x.cells.toArray) rfl rfl rfl HL.out ?_)|(refine Z2 (T:=68) (v:=.agg x.cells.toArray) rfl rfl rfl rfl H3.out ?_))
 refine bodyPost_ret (v:=.agg x.cells.toArray) (by rw[Zv rfl];first|exact HR.out|(have hr:=HR.out;go_simp;exact hr)) rfl ?_
 exact ⟨rfl,HB.out⟩
theorem Z7o (o:OpD) (v:Int) (w:World):Calls Tryz.prog 58 #[o.val,.int .i64 8,.int .i64 v] w fun e w'=>e=.returned (o.putF 8 v).val∧Below w.heap.size w w':=by
 obtain ⟨W3,W4,h1,h2,h3,h4,h5⟩:=Yz o (o.putF 8 v) w (T:=3) YF 8 v (by omega) rfl
 unfold OpD.val
 generalize o.putF 8 v=x at h2 h3 h4 ⊢
 have hl:=h2.whole
 have hr:=h4.whole
 have HB:=Lib.hid h5
 have HL:=Lib.hid hl
 have H3:=Lib.hid h3
 have H1:=Lib.hid h1
 have HR:=Lib.hid hr
 clear hl h3 h2 h4 h1 hr h5
 go_enter Tryz.func58,Tryz.ntmps58
 go_wp2_with (first|(refine Z2 (T:=3) (v:=.int .i64 v) rfl rfl rfl rfl H1.out ?_)|(refine Zs (T:=68) (v:=.agg x.cells.toArray) rfl rfl rfl HL.out ?_)|(refine Z2 (T:=68) (v:=.agg x.cells.toArray) rfl rfl rfl rfl H3.out ?_))
 refine bodyPost_ret (v:=.agg x.cells.toArray) (by rw[Zv rfl];first|exact HR.out|(have hr:=HR.out;go_simp;exact hr)) rfl ?_
 exact ⟨rfl,HB.out⟩
theorem Z7C (o:OpD) (v:Int) (w:World):Calls Tryz.prog 58 #[o.val,.int .i64 9,.int .i64 v] w fun e w'=>e=.returned (o.putF 9 v).val∧Below w.heap.size w w':=by
 obtain ⟨W3,W4,h1,h2,h3,h4,h5⟩:=Yz o (o.putF 9 v) w (T:=3) YF 9 v (by omega) rfl
 unfold OpD.val
 generalize o.putF 9 v=x at h2 h3 h4 ⊢
 have hl:=h2.whole
 have hr:=h4.whole
 have HB:=Lib.hid h5
 have HL:=Lib.hid hl
 have H3:=Lib.hid h3
 have H1:=Lib.hid h1
 have HR:=Lib.hid hr
 clear hl h3 h2 h4 h1 hr h5
 go_enter Tryz.func58,Tryz.ntmps58
 go_wp2_with (first|(refine Z2 (T:=3) (v:=.int .i64 v) rfl rfl rfl rfl H1.out ?_)|(refine Zs (T:=68) (v:=.agg x.cells.toArray) rfl rfl rfl HL.out ?_)|(refine Z2 (T:=68) (v:=.agg x.cells.toArray) rfl rfl rfl rfl H3.out ?_))
 refine bodyPost_ret (v:=.agg x.cells.toArray) (by rw[Zv rfl];first|exact HR.out|(have hr:=HR.out;go_simp;exact hr)) rfl ?_
 exact ⟨rfl,HB.out⟩
theorem Z6x (o:OpD) (v:Int) (w:World):Calls Tryz.prog 58 #[o.val,.int .i64 10,.int .i64 v] w fun e w'=>e=.returned (o.putF 10 v).val∧Below w.heap.size w w':=by
 obtain ⟨W3,W4,h1,h2,h3,h4,h5⟩:=Yz o (o.putF 10 v) w (T:=63) Z61 10 v (by omega) rfl
 unfold OpD.val
 generalize o.putF 10 v=x at h2 h3 h4 ⊢
 have hl:=h2.whole
 have hr:=h4.whole
 have HB:=Lib.hid h5
 have HL:=Lib.hid hl
 have H3:=Lib.hid h3
 have H1:=Lib.hid h1
 have HR:=Lib.hid hr
 clear hl h3 h2 h4 h1 hr h5
 go_enter Tryz.func58,Tryz.ntmps58
 go_wp2_with (first|(refine Z2 (T:=63) (v:=.int .i64 v) rfl rfl rfl rfl H1.out ?_)|(refine Zs (T:=68) (v:=.agg x.cells.toArray) rfl rfl rfl HL.out ?_)|(refine Z2 (T:=68) (v:=.agg x.cells.toArray) rfl rfl rfl rfl H3.out ?_))
 refine bodyPost_ret (v:=.agg x.cells.toArray) (by rw[Zv rfl];first|exact HR.out|(have hr:=HR.out;go_simp;exact hr)) rfl ?_
 exact ⟨rfl,HB.out⟩
theorem Z6m (o:OpD) (v:Int) (w:World):Calls Tryz.prog 58 #[o.val,.int .i64 11,.int .i64 v] w fun e w'=>e=.returned (o.putF 11 v).val∧Below w.heap.size w w':=by
 obtain ⟨W3,W4,h1,h2,h3,h4,h5⟩:=Yz o (o.putF 11 v) w (T:=3) YF 11 v (by omega) rfl
 unfold OpD.val
 generalize o.putF 11 v=x at h2 h3 h4 ⊢
 have hl:=h2.whole
 have hr:=h4.whole
 have HB:=Lib.hid h5
 have HL:=Lib.hid hl
 have H3:=Lib.hid h3
 have H1:=Lib.hid h1
 have HR:=Lib.hid hr
 clear hl h3 h2 h4 h1 hr h5
 go_enter Tryz.func58,Tryz.ntmps58
 go_wp2_with (first|(refine Z2 (T:=3) (v:=.int .i64 v) rfl rfl rfl rfl H1.out ?_)|(refine Zs (T:=68) (v:=.agg x.cells.toArray) rfl rfl rfl HL.out ?_)|(refine Z2 (T:=68) (v:=.agg x.cells.toArray) rfl rfl rfl rfl H3.out ?_))
 refine bodyPost_ret (v:=.agg x.cells.toArray) (by rw[Zv rfl];first|exact HR.out|(have hr:=HR.out;go_simp;exact hr)) rfl ?_
 exact ⟨rfl,HB.out⟩
theorem Z6f (o:OpD) (v:Int) (w:World):Calls Tryz.prog 58 #[o.val,.int .i64 12,.int .i64 v] w fun e w'=>e=.returned (o.putF 12 v).val∧Below w.heap.size w w':=by
 obtain ⟨W3,W4,h1,h2,h3,h4,h5⟩:=Yz o (o.putF 12 v) w (T:=3) YF 12 v (by omega) rfl
 unfold OpD.val
 generalize o.putF 12 v=x at h2 h3 h4 ⊢
 have hl:=h2.whole
 have hr:=h4.whole
 have HB:=Lib.hid h5
 have HL:=Lib.hid hl
 have H3:=Lib.hid h3
 have H1:=Lib.hid h1
 have HR:=Lib.hid hr
 clear hl h3 h2 h4 h1 hr h5
 go_enter Tryz.func58,Tryz.ntmps58
 go_wp2_with (first|(refine Z2 (T:=3) (v:=.int .i64 v) rfl rfl rfl rfl H1.out ?_)|(refine Zs (T:=68) (v:=.agg x.cells.toArray) rfl rfl rfl HL.out ?_)|(refine Z2 (T:=68) (v:=.agg x.cells.toArray) rfl rfl rfl rfl H3.out ?_))
 refine bodyPost_ret (v:=.agg x.cells.toArray) (by rw[Zv rfl];first|exact HR.out|(have hr:=HR.out;go_simp;exact hr)) rfl ?_
 exact ⟨rfl,HB.out⟩
theorem Z79 (o:OpD) (v:Int) (w:World):Calls Tryz.prog 58 #[o.val,.int .i64 13,.int .i64 v] w fun e w'=>e=.returned (o.putF 13 v).val∧Below w.heap.size w w':=by
 obtain ⟨W3,W4,h1,h2,h3,h4,h5⟩:=Yz o (o.putF 13 v) w (T:=64) Z2v 13 v (by omega) rfl
 unfold OpD.val
 generalize o.putF 13 v=x at h2 h3 h4 ⊢
 have hl:=h2.whole
 have hr:=h4.whole
 have HB:=Lib.hid h5
 have HL:=Lib.hid hl
 have H3:=Lib.hid h3
 have H1:=Lib.hid h1
 have HR:=Lib.hid hr
 clear hl h3 h2 h4 h1 hr h5
 go_enter Tryz.func58,Tryz.ntmps58
 go_wp2_with (first|(refine Z2 (T:=64) (v:=.int .i64 v) rfl rfl rfl rfl H1.out ?_)|(refine Zs (T:=68) (v:=.agg x.cells.toArray) rfl rfl rfl HL.out ?_)|(refine Z2 (T:=68) (v:=.agg x.cells.toArray) rfl rfl rfl rfl H3.out ?_))
 refine bodyPost_ret (v:=.agg x.cells.toArray) (by rw[Zv rfl];first|exact HR.out|(have hr:=HR.out;go_simp;exact hr)) rfl ?_
 exact ⟨rfl,HB.out⟩
theorem Z6a (o:OpD) (v:Int) (w:World):Calls Tryz.prog 58 #[o.val,.int .i64 14,.int .i64 v] w fun e w'=>e=.returned (o.putF 14 v).val∧Below w.heap.size w w':=by
 obtain ⟨W3,W4,h1,h2,h3,h4,h5⟩:=Yz o (o.putF 14 v) w (T:=3) YF 14 v (by omega) rfl
 unfold OpD.val
 generalize o.putF 14 v=x at h2 h3 h4 ⊢
 have hl:=h2.whole
 have hr:=h4.whole
 have HB:=Lib.hid h5
 have HL:=Lib.hid hl
 have H3:=Lib.hid h3
 have H1:=Lib.hid h1
 have HR:=Lib.hid hr
 clear hl h3 h2 h4 h1 hr h5
 go_enter Tryz.func58,Tryz.ntmps58
 go_wp2_with (first|(refine Z2 (T:=3) (v:=.int .i64 v) rfl rfl rfl rfl H1.out ?_)|(refine Zs (T:=68) (v:=.agg x.cells.toArray) rfl rfl rfl HL.out ?_)|(refine Z2 (T:=68) (v:=.agg x.cells.toArray) rfl rfl rfl rfl H3.out ?_))
 refine bodyPost_ret (v:=.agg x.cells.toArray) (by rw[Zv rfl];first|exact HR.out|(have hr:=HR.out;go_simp;exact hr)) rfl ?_
 exact ⟨rfl,HB.out⟩
theorem Z6I (o:OpD) (v:Int) (w:World):Calls Tryz.prog 58 #[o.val,.int .i64 15,.int .i64 v] w fun e w'=>e=.returned (o.putF 15 v).val∧Below w.heap.size w w':=by
 obtain ⟨W3,W4,h1,h2,h3,h4,h5⟩:=Yz o (o.putF 15 v) w (T:=3) YF 15 v (by omega) rfl
 unfold OpD.val
 generalize o.putF 15 v=x at h2 h3 h4 ⊢
 have hl:=h2.whole
 have hr:=h4.whole
 have HB:=Lib.hid h5
 have HL:=Lib.hid hl
 have H3:=Lib.hid h3
 have H1:=Lib.hid h1
 have HR:=Lib.hid hr
 clear hl h3 h2 h4 h1 hr h5
 go_enter Tryz.func58,Tryz.ntmps58
 go_wp2_with (first|(refine Z2 (T:=3) (v:=.int .i64 v) rfl rfl rfl rfl H1.out ?_)|(refine Zs (T:=68) (v:=.agg x.cells.toArray) rfl rfl rfl HL.out ?_)|(refine Z2 (T:=68) (v:=.agg x.cells.toArray) rfl rfl rfl rfl H3.out ?_))
 refine bodyPost_ret (v:=.agg x.cells.toArray) (by rw[Zv rfl];first|exact HR.out|(have hr:=HR.out;go_simp;exact hr)) rfl ?_
 exact ⟨rfl,HB.out⟩
theorem Z6u (o:OpD) (v:Int) (w:World):Calls Tryz.prog 58 #[o.val,.int .i64 16,.int .i64 v] w fun e w'=>e=.returned (o.putF 16 v).val∧Below w.heap.size w w':=by
 obtain ⟨W3,W4,h1,h2,h3,h4,h5⟩:=Yz o (o.putF 16 v) w (T:=3) YF 16 v (by omega) rfl
 unfold OpD.val
 generalize o.putF 16 v=x at h2 h3 h4 ⊢
 have hl:=h2.whole
 have hr:=h4.whole
 have HB:=Lib.hid h5
 have HL:=Lib.hid hl
 have H3:=Lib.hid h3
 have H1:=Lib.hid h1
 have HR:=Lib.hid hr
 clear hl h3 h2 h4 h1 hr h5
 go_enter Tryz.func58,Tryz.ntmps58
 go_wp2_with (first|(refine Z2 (T:=3) (v:=.int .i64 v) rfl rfl rfl rfl H1.out ?_)|(refine Zs (T:=68) (v:=.agg x.cells.toArray) rfl rfl rfl HL.out ?_)|(refine Z2 (T:=68) (v:=.agg x.cells.toArray) rfl rfl rfl rfl H3.out ?_))
 refine bodyPost_ret (v:=.agg x.cells.toArray) (by rw[Zv rfl];first|exact HR.out|(have hr:=HR.out;go_simp;exact hr)) rfl ?_
 exact ⟨rfl,HB.out⟩
theorem Z6o (o:OpD) (v:Int) (w:World):Calls Tryz.prog 58 #[o.val,.int .i64 17,.int .i64 v] w fun e w'=>e=.returned (o.putF 17 v).val∧Below w.heap.size w w':=by
 obtain ⟨W3,W4,h1,h2,h3,h4,h5⟩:=Yz o (o.putF 17 v) w (T:=3) YF 20 v (by omega) rfl
 unfold OpD.val
 generalize o.putF 17 v=x at h2 h3 h4 ⊢
 have hl:=h2.whole
 have hr:=h4.whole
 have HB:=Lib.hid h5
 have HL:=Lib.hid hl
 have H3:=Lib.hid h3
 have H1:=Lib.hid h1
 have HR:=Lib.hid hr
 clear hl h3 h2 h4 h1 hr h5
 go_enter Tryz.func58,Tryz.ntmps58
 go_wp2_with (first|(refine Z2 (T:=3) (v:=.int .i64 v) rfl rfl rfl rfl H1.out ?_)|(refine Zs (T:=68) (v:=.agg x.cells.toArray) rfl rfl rfl HL.out ?_)|(refine Z2 (T:=68) (v:=.agg x.cells.toArray) rfl rfl rfl rfl H3.out ?_))
 refine bodyPost_ret (v:=.agg x.cells.toArray) (by rw[Zv rfl];first|exact HR.out|(have hr:=HR.out;go_simp;exact hr)) rfl ?_
 exact ⟨rfl,HB.out⟩
theorem Z6H (o:OpD) (v:Int) (w:World):Calls Tryz.prog 58 #[o.val,.int .i64 18,.int .i64 v] w fun e w'=>e=.returned (o.putF 18 v).val∧Below w.heap.size w w':=by
 obtain ⟨W3,W4,h1,h2,h3,h4,h5⟩:=Yz o (o.putF 18 v) w (T:=3) YF 21 v (by omega) rfl
 unfold OpD.val
 generalize o.putF 18 v=x at h2 h3 h4 ⊢
 have hl:=h2.whole
 have hr:=h4.whole
 have HB:=Lib.hid h5
 have HL:=Lib.hid hl
 have H3:=Lib.hid h3
 have H1:=Lib.hid h1
 have HR:=Lib.hid hr
 clear hl h3 h2 h4 h1 hr h5
 go_enter Tryz.func58,Tryz.ntmps58
 go_wp2_with (first|(refine Z2 (T:=3) (v:=.int .i64 v) rfl rfl rfl rfl H1.out ?_)|(refine Zs (T:=68) (v:=.agg x.cells.toArray) rfl rfl rfl HL.out ?_)|(refine Z2 (T:=68) (v:=.agg x.cells.toArray) rfl rfl rfl rfl H3.out ?_))
 refine bodyPost_ret (v:=.agg x.cells.toArray) (by rw[Zv rfl];first|exact HR.out|(have hr:=HR.out;go_simp;exact hr)) rfl ?_
 exact ⟨rfl,HB.out⟩
theorem Z71 (o:OpD) (v:Int) (w:World):Calls Tryz.prog 58 #[o.val,.int .i64 19,.int .i64 v] w fun e w'=>e=.returned (o.putF 19 v).val∧Below w.heap.size w w':=by
 obtain ⟨W3,W4,h1,h2,h3,h4,h5⟩:=Yz o (o.putF 19 v) w (T:=3) YF 23 v (by omega) rfl
 unfold OpD.val
 generalize o.putF 19 v=x at h2 h3 h4 ⊢
 have hl:=h2.whole
 have hr:=h4.whole
 have HB:=Lib.hid h5
 have HL:=Lib.hid hl
 have H3:=Lib.hid h3
 have H1:=Lib.hid h1
 have HR:=Lib.hid hr
 clear hl h3 h2 h4 h1 hr h5
 go_enter Tryz.func58,Tryz.ntmps58
 go_wp2_with (first|(refine Z2 (T:=3) (v:=.int .i64 v) rfl rfl rfl rfl H1.out ?_)|(refine Zs (T:=68) (v:=.agg x.cells.toArray) rfl rfl rfl HL.out ?_)|(refine Z2 (T:=68) (v:=.agg x.cells.toArray) rfl rfl rfl rfl H3.out ?_))
 refine bodyPost_ret (v:=.agg x.cells.toArray) (by rw[Zv rfl];first|exact HR.out|(have hr:=HR.out;go_simp;exact hr)) rfl ?_
 exact ⟨rfl,HB.out⟩
theorem Z6F (o:OpD) (v:Int) (w:World):Calls Tryz.prog 58 #[o.val,.int .i64 20,.int .i64 v] w fun e w'=>e=.returned (o.putF 20 v).val∧Below w.heap.size w w':=by
 obtain ⟨W3,W4,h1,h2,h3,h4,h5⟩:=Yz o (o.putF 20 v) w (T:=3) YF 24 v (by omega) rfl
 unfold OpD.val
 generalize o.putF 20 v=x at h2 h3 h4 ⊢
 have hl:=h2.whole
 have hr:=h4.whole
 have HB:=Lib.hid h5
 have HL:=Lib.hid hl
 have H3:=Lib.hid h3
 have H1:=Lib.hid h1
 have HR:=Lib.hid hr
 clear hl h3 h2 h4 h1 hr h5
 go_enter Tryz.func58,Tryz.ntmps58
 go_wp2_with (first|(refine Z2 (T:=3) (v:=.int .i64 v) rfl rfl rfl rfl H1.out ?_)|(refine Zs (T:=68) (v:=.agg x.cells.toArray) rfl rfl rfl HL.out ?_)|(refine Z2 (T:=68) (v:=.agg x.cells.toArray) rfl rfl rfl rfl H3.out ?_))
 refine bodyPost_ret (v:=.agg x.cells.toArray) (by rw[Zv rfl];first|exact HR.out|(have hr:=HR.out;go_simp;exact hr)) rfl ?_
 exact ⟨rfl,HB.out⟩
theorem R7 (o:OpD) (c:Nat) (hc:c<21) (v:Int) (w:World):Calls Tryz.prog 58 #[o.val,.int .i64 c,.int .i64 v] w fun e w'=>e=.returned (o.putF c v).val∧Below w.heap.size w w':=by
 rcases (by omega:c=0∨c=1∨c=2∨c=3∨c=4∨c=5∨c=6∨c=7∨c=8∨c=9∨c=10∨c=11∨c=12∨c=13∨c=14∨c=15∨c=16∨c=17∨c=18∨c=19∨c=20) with rfl|rfl|rfl|rfl|rfl|rfl|rfl|rfl|rfl|rfl|rfl|rfl|rfl|rfl|rfl|rfl|rfl|rfl|rfl|rfl|rfl
 ·exact Z7x o v w
 ·exact Z7I o v w
 ·exact Z7K o v w
 ·exact Z7p o v w
 ·exact Z7m o v w
 ·exact Z7N o v w
 ·exact Z7y o v w
 ·exact Z7A o v w
 ·exact Z7o o v w
 ·exact Z7C o v w
 ·exact Z6x o v w
 ·exact Z6m o v w
 ·exact Z6f o v w
 ·exact Z79 o v w
 ·exact Z6a o v w
 ·exact Z6I o v w
 ·exact Z6u o v w
 ·exact Z6o o v w
 ·exact Z6H o v w
 ·exact Z71 o v w
 ·exact Z6F o v w
def Z28 (d:List Int) (i:Nat) (S:Int):Prop:=(i=0∧S=0)∨∃ j,i=j+1∧(Yf d)[j]?=some (Ya S)
theorem Z28.next {d:List Int} {i:Nat} {S x:Int} (h:Z28 d i S) (hx:d[i]?=some x) (hin:-9223372036854775808≤x∧x≤9223372036854775807):(Yf d)[i]?=some (IntKind.i64.wrap (IntKind.u64.wrap (S+IntKind.u64.wrap x))):=by
 rw[VY,Yc,Yc]
 rcases h with ⟨rfl,rfl⟩|⟨j,rfl,h⟩
 ·rw[show Ya ((0+x % 18446744073709551616) % 18446744073709551616)=x by unfold Ya;omega]
  exact QK hx
 ·rw[Z1n hx h]
  congr 1
  unfold Ya
  omega
theorem Own.lower8 {α:Type} {ea:α→List Value} {k:Nat} {e:TypeId} {B C:Nat} {w:World} {v:Value} {l:List α} (h:Own ea k e C w v l) (hb:B≤C):Own ea k e B w v l:=by
 obtain ⟨h1,h2⟩:=h
 refine ⟨h1,?_⟩
 rcases h2 with h2|⟨g,c,cs,e1,h3,h4⟩
 ·exact .inl h2
 ·exact .inr ⟨g,c,cs,e1,Nat.le_trans hb h3,h4⟩
theorem Ts (v:Value) (b:List UInt8) (n:Nat) (w:World) (h:Z0 u8c 1 w v b) (hn0:n≤65536):Calls Tryz.prog 57 #[v,.int .i64 n] w fun e w'=>Z5s w b n e w':=by
 have HC:=Jh (WG v b n w h hn0)
 clear h
 obtain ⟨i0,hi,hy0,hy1,hy2⟩:=info_parts Wi
 go_enter Tryz.func57,Tryz.ntmps57
 go_wp2_with fail
 refine HC.out.mono ?_
 rintro e w5 (⟨d,u,v5,hd,rfl,hown,hb⟩|⟨hd,rfl,hb⟩)
 ·obtain ⟨⟨sa,sn,sc⟩,e5⟩:=hown.sl
  dsimp only at e5
  subst e5
  obtain rfl:=(hown.nlen Zf).1
  have hdl:=(U4 n (by omega) none b d u).1 hd
  have hdn:d.length≤65536:=by rcases hdl with ⟨h,_⟩|⟨_,rfl,_⟩;omega;simp
  have HIN:Hid (∀ x∈d,-9223372036854775808≤x∧x≤9223372036854775807):=Jh (fun x hx=>by
   rcases hdl with ⟨_,_,h,_⟩|⟨_,rfl,_⟩
   ·exact Z2F (h x hx)
   ·simp at hx)
  have HD:=Jh (show VT n b=some (Yf d,u) from by unfold VT;rw[hd];rfl)
  have hsl:=Tm d
  have HSL:=Lib.hid hsl
  have HU:=Jh (And.intro hown hb)
  clear hd hdl hown hb hsl HC hn0
  go_wp2_with fail
  go_loopg [10,11,12] d.length (fun g lv sv iv wr=>∃ (i:Nat) (S:Int) (s:Sl),g=d.length - i∧lv=.slice s.a s.n s.cap∧sv=.int .u64 S∧iv=.int .i64 i∧i≤d.length∧Hid (Z28 d i S)∧Hid (Own Zi 1 3 w5.heap.size wr (.slice s.a s.n s.cap) ((Yf d).take i)∧Below w5.heap.size w5 wr))
  case atStart=>exact ⟨0,0,⟨none,0,0⟩,rfl,rfl,rfl,rfl,Nat.zero_le _,Jh (.inl ⟨rfl,rfl⟩),Lib.hid ⟨Own.nil,Below.refl _ _⟩⟩
  case round =>
   obtain ⟨HW,HW0⟩:∃ hw:Hid (Own Zi 1 3 w.heap.size w5 (.slice sa d.length sc) d∧Below w.heap.size w w5),True:=⟨HU,trivial⟩
   clear HU HW0
   obtain ⟨i,S,⟨ta,tn,tc⟩,hg,rfl,rfl,rfl,hil,HS,HU⟩:=hrel
   dsimp only at HU ⊢
   have HG:=Lib.hid hg
   clear hg
   by_cases hlt:i<d.length
   ·have hi1:(i:Int)<(d.length:Int):=by omega
    obtain ⟨x,hx⟩:∃ x,d[i]?=some x:=⟨_,List.getElem?_eq_getElem hlt⟩
    obtain ⟨bb,oo,rfl,c0⟩:=((HW.out.1.slice Zf).below HU.out.2).at1 hx rfl
    obtain ⟨xu,hxu⟩:=Je (IntKind.u64.wrap x)
    obtain ⟨S2,hS2⟩:=Je (IntKind.u64.wrap (S+xu))
    obtain ⟨z,hz⟩:=Je (IntKind.i64.wrap S2)
    have hnx:(Yf d)[i]?=some z:=by rw[HS.out.next hx (HIN.out x (List.mem_of_getElem? hx)),hxu,hS2,hz]
    have HNS:Hid (Z28 d (i+1) S2):=Jh (.inr ⟨i,rfl,by rw[hnx,←hz,VY]⟩)
    have htk:(Yf d).take i++[z]=(Yf d).take (i+1):=by rw[List.take_add_one,hnx];rfl
    have HTK:=Lib.hid htk
    have hbd:((Yf d).take i).length+1≤maxLen∧(((Yf d).take i).length+1)*8≤140737488355328:=by rw[List.length_take];unfold maxLen;omega
    have HBD:=Lib.hid hbd
    have hsz:=HU.out.2.size
    clear hnx htk hbd hx hlt
    go_wp2_with (at_builtin;refine Y8 rfl _ _ _ rfl i0 _ 8 Tryz.underlying100 hi hy0 hy1 hy2 rfl (by omega) Zf XA rfl (HU.out.1.alloc _) z wr.heap.size 1 rfl (Wp _ z) HBD.out.1 HBD.out.2 (by simp;omega) ?_)
    intro v' w3 hown3 hx3
    have hB3:=Ext.new (HU.out.2.alloc HU.out.2.size (.cells #[.int .i64 z] 3)) hx3 (fun i hi _ e=>by have:=(HU.out.1.blk i e).1;omega) (by simp;omega)
    rw[HTK.out] at hown3
    obtain ⟨⟨ua,un,uc⟩,e3⟩:=hown3.sl
    dsimp only at e3
    subst e3
    have HN:=Jh (And.intro hown3 hB3)
    clear hown3 hx3 hB3
    go_wp2_with fail
    go_roundg (d.length - (i+1))
    case measure=>rw[HG.out];omega
    case rel=>exact ⟨i+1,S2,⟨ua,un,uc⟩,rfl,rfl,rfl,by simp,by omega,HNS,HN⟩
   ·obtain rfl:i=d.length:=by omega
    have hi1:¬ (d.length:Int)<(d.length:Int):=by omega
    have HO:Hid (Own Zi 1 3 w.heap.size wr (.slice ta tn tc) (Yf d)∧Below w.heap.size w wr):=Jh (by have h:=HU.out;rw[←HSL.out,List.take_length] at h;exact ⟨h.1.lower8 HW.out.2.size,HW.out.2.trans (h.2.mono HW.out.2.size)⟩)
    clear hlt HU
    go_wp2_with fail
    go_ret3
    exact .inl ⟨Yf d,u,_,HD.out,rfl,HO.out.1,HO.out.2⟩
 ·have HD:=Jh (show VT n b=none from by unfold VT;rw[hd];rfl)
  have HB:=Lib.hid hb
  clear hd hb
  go_wp2_with fail
  go_ret3
  exact .inr ⟨HD.out,rfl,HB.out⟩
theorem Z3P (v:Value) (l:List Int) (w:World) (h:Z0 Zi 1 w v l) (hn:l.length≤1000000000000) (hin:∀ x∈l,-9223372036854775808≤x∧x≤9223372036854775807):Calls Tryz.prog 160 #[v] w fun e w'=>Xv w (Zd (ZM l)) e w':=by
 obtain ⟨a,cap,rfl,hcap,hmax,-⟩:=id h
 unfold maxLen at hmax
 have HH:=Lib.hid h
 have HIN:=Lib.hid hin
 obtain ⟨i0,hi,hz0,hz1,hz2⟩:=info_parts Wi
 clear h hin
 go_enter Tryz.func160,Tryz.ntmps160
 go_wp2_with fail
 go_loopg [3,4] l.length (fun g ov iv wr=>∃ (i:Nat) (s:Sl),g=l.length - i∧ov=.slice s.a s.n s.cap∧iv=.int .i64 i∧i≤l.length∧Hid (Own Zi 1 3 w.heap.size wr (.slice s.a s.n s.cap) (ZM (l.take i))∧Below w.heap.size w wr))
 case atStart=>exact ⟨0,⟨none,0,0⟩,rfl,rfl,rfl,Nat.zero_le _,Lib.hid ⟨Own.nil,Below.refl _ _⟩⟩
 case round =>
  obtain ⟨i,⟨sa,sn,sc⟩,hg,rfl,rfl,hil,HU⟩:=hrel
  dsimp only at HU ⊢
  have HG:=Lib.hid hg
  clear hg
  have hsz:=HU.out.2.size
  have hdl:(ZM (l.take i)).length=i:=by rw[Xg,List.length_take];omega
  by_cases hlt:i<l.length
  ·have hi1:(i:Int)<(l.length:Int):=by omega
   obtain ⟨x,hx⟩:∃ x,l[i]?=some x:=⟨_,List.getElem?_eq_getElem (by omega)⟩
   obtain ⟨bb,o,rfl,c0⟩:=(HH.out.below HU.out.2).at1 hx rfl
   cases i with
   | zero =>
    have HD:Hid (ZM []++[x]=ZM (l.take 1)):=Jh (by rw[List.take_add_one,hx];simp[ZM,YQ])
    have c00:wr.cell? ⟨bb,o,none⟩=some (.int .i64 x):=c0
    clear hx
    go_wp2_with (at_builtin;refine Y8 rfl _ _ _ rfl i0 _ 8 Tryz.underlying100 hi hz0 hz1 hz2 rfl (by omega) Zf XA rfl (HU.out.1.alloc _) x wr.heap.size 1 rfl (Wp _ x) (by unfold maxLen;omega) (by omega) (by simp;omega) ?_)
    intro v' w3 hown3 hx3
    have hB3:=Ext.new (HU.out.2.alloc HU.out.2.size (.cells #[.int .i64 x] 3)) hx3 (fun i hi _ e=>by have:=(HU.out.1.blk i e).1;omega) (by simp;omega)
    rw[HD.out] at hown3
    obtain ⟨⟨ua,un,uc⟩,e3⟩:=hown3.sl
    dsimp only at e3
    subst e3
    have HN:=Jh (And.intro hown3 hB3)
    clear hown3 hx3 hB3
    go_wp2_with fail
    go_roundg (l.length - 1)
    case measure=>rw[HG.out];omega
    case rel=>exact ⟨1,⟨ua,un,uc⟩,rfl,rfl,by simp,by omega,HN⟩
   | succ j =>
    obtain ⟨y,hy⟩:∃ y,l[j]?=some y:=⟨_,List.getElem?_eq_getElem (by omega)⟩
    obtain ⟨bb2,o2,e2,c1⟩:=(HH.out.below HU.out.2).at1 hy rfl
    cases e2
    have hbb:bb<w.heap.size:=by
     obtain ⟨b3,o3,e3,c3⟩:=HH.out.at1 hy rfl
     cases e3
     exact Zu c3
    have hds:=Z3F hx hy
    obtain ⟨d,hd⟩:∃ d,d=Ya (x - y):=⟨_,rfl⟩
    rw[←hd] at hds
    have hin1:=HIN.out x (List.mem_of_getElem? hx)
    have hin2:=HIN.out y (List.mem_of_getElem? hy)
    obtain ⟨xu,hxu⟩:=Je (IntKind.u64.wrap x)
    obtain ⟨yu,hyu⟩:=Je (IntKind.u64.wrap y)
    obtain ⟨du,hdu⟩:=Je (IntKind.u64.wrap (xu - yu))
    have hdd:IntKind.i64.wrap du=d:=by rw[←hdu,←hxu,←hyu,hd,VY,Yc,Yc,Yc];unfold Ya;omega
    have hj1:IntKind.i64.wrap (((j+1:Nat):Int) - 1)=(j:Int):=by rw[IntWalk.i64_in _ (by omega)];omega
    have hj0:IntKind.i64.wrap (j:Int)=(j:Int):=IntWalk.i64_in _ (by omega)
    have hj2:(j:Int)<(l.length:Int):=by omega
    have HDS:=Lib.hid hds
    clear hd hds hx hy hin1 hin2
    go_upto_region 7 with fail
    have hS0:(fun W:World=>W.cell? ⟨bb,o+(j+1),none⟩=some (.int .i64 x)∧W.cell? ⟨bb,o+j,none⟩=some (.int .i64 y)) wr.drew:=⟨c0,c1⟩
    refine Z7 (fun W:World=>W.cell? ⟨bb,o+(j+1),none⟩=some (.int .i64 x)∧W.cell? ⟨bb,o+j,none⟩=some (.int .i64 y)) (fun _=>false) (by kernel_rfl) ?_
    have HU1:Hid (Own Zi 1 3 w.heap.size wr.drew (.slice sa sn sc) (ZM (l.take (j+1)))∧Below w.heap.size w wr.drew):=Lib.hid ⟨HU.out.1.drew,HU.out.2.drew⟩
    clear HU c0 c1 hsz
    generalize wr.drew=W1 at hS0 HU1 ⊢
    refine J0 0 20 _ hS0 ?_
    try simp only[Ja]
    refine J0 1 21 _ hS0 ?_
    try simp only[Ja]
    refine J0 2 22 _ hS0 ?_
    try simp only[Ja]
    refine J0 3 23 _ hS0 ?_
    try simp only[Ja]
    refine J2 4 24 (.int .i64 x) hS0 ?_
    try simp only[Ja]
    refine J0 5 25 (.int .u64 xu) hS0 ?_
    try simp only[Ja]
    refine J0 6 26 _ hS0 ?_
    try simp only[Ja]
    refine J0 7 27 _ hS0 ?_
    try simp only[Ja]
    refine J0 8 28 (.int .i64 j) hS0 ?_
    try simp only[Ja]
    refine J0 9 29 _ hS0 ?_
    try simp only[Ja]
    refine J2 10 30 (.int .i64 y) hS0 ?_
    try simp only[Ja]
    refine J0 11 31 (.int .u64 yu) hS0 ?_
    try simp only[Ja]
    refine J0 12 32 (.int .u64 du) hS0 ?_
    try simp only[Ja]
    refine J0 13 33 (.int .i64 d) hS0 ?_
    try simp only[Ja]
    have hsz1:=HU1.out.2.size
    obtain ⟨v',w3,hr3,hown3,hx3,-⟩:=Wl (P:=Tryz.prog) 100 100 i0 _ 8 Tryz.underlying100 hi hz0 hz1 hz2 rfl (by omega) Zf XA (HU1.out.1.alloc (.cells #[.int .i64 d] 3)) d W1.heap.size 1 (Wp W1 d) (by unfold maxLen;omega) (by omega) (by simp;omega)
    obtain ⟨⟨ua,un,uc⟩,e3⟩:=hown3.sl
    dsimp only at e3
    subst e3
    have hSa:(W1.alloc (.cells #[.int .i64 d] 3)).cell? ⟨bb,o+(j+1),none⟩=some (.int .i64 x)∧(W1.alloc (.cells #[.int .i64 d] 3)).cell? ⟨bb,o+j,none⟩=some (.int .i64 y):=⟨Zy hS0.1 _,Zy hS0.2 _⟩
    have hnb:¬ (Value.slice sa sn sc).ownBlock=some bb:=fun e=>by have:=(HU1.out.1.blk bb e).1;omega
    have hS3:w3.cell? ⟨bb,o+(j+1),none⟩=some (.int .i64 x)∧w3.cell? ⟨bb,o+j,none⟩=some (.int .i64 y):=⟨hx3.keep hSa.1 hnb,hx3.keep hSa.2 hnb⟩
    have hB3:=Ext.new (HU1.out.2.alloc HU1.out.2.size (.cells #[.int .i64 d] 3)) hx3 (fun i hi _ e=>by have:=(HU1.out.1.blk i e).1;omega) (by simp;omega)
    rw[←HDS.out] at hown3
    have HN:=Jh (And.intro hown3 hB3)
    refine Zj (i:=14) (d:=some 34) (v:=.slice (some ⟨W1.heap.size,0,none⟩) 1 1) (w':=W1.alloc (.cells #[.int .i64 d] 3)) (by kernel_rfl) rfl rfl (by rfl) (by go_simp;try rfl) (fun _=>hSa) ?_
    try simp only[Ja]
    refine Zj (i:=15) (d:=some 35) (v:=.slice ua un uc) (w':=w3) (by kernel_rfl) rfl rfl (by rfl) (Xq rfl rfl rfl hr3) (fun _=>hS3) ?_
    try simp only[Ja]
    refine Zj (i:=16) (d:=some 3) (v:=.slice ua un uc) (w':=w3) (by kernel_rfl) rfl rfl (by rfl) (by go_simp;try rfl) (fun _=>hS3) ?_
    try simp only[Ja]
    refine Z3 (by kernel_rfl) ?_ _
    clear hS0 hSa hS3 hr3 hx3 hown3 hB3 HU1 hsz1
    go_wp2_with fail
    go_roundg (l.length - (j+2))
    case measure=>rw[HG.out];omega
    case rel=>exact ⟨j+2,⟨ua,un,uc⟩,rfl,rfl,by first|rfl|(simp;omega),by omega,HN⟩
  ·obtain rfl:i=l.length:=by omega
   have hi1:¬ (l.length:Int)<(l.length:Int):=by omega
   have HO:Hid (Own Zi 1 3 w.heap.size wr (.slice sa sn sc) (ZM l)∧Below w.heap.size w wr):=Lib.hid ⟨by have h1:=HU.out.1;rw[List.take_length] at h1;exact h1,HU.out.2⟩
   clear hlt HU hdl
   go_wp2_with fail
   refine (TA _ (ZM l) _ (HO.out.1.slice Zf) (by rw[Xg];exact hn) (Uk HIN.out)).mono ?_
   rintro e w5 ⟨v5,rfl,hown5,b5⟩
   have HN5:=Jh (And.intro (hown5.mono HO.out.2.size) (HO.out.2.trans (b5.mono HO.out.2.size)))
   clear hown5 b5
   go_wp2_with fail
   go_ret
   exact ⟨_,rfl,HN5.out.1,HN5.out.2⟩
theorem Qm (l:List OpD) (c:Nat):(Y9 l c).length=l.length:=by simp[Y9]
theorem Z5J {l:List OpD} {k:Nat} {x:OpD} (hx:l[k]?=some x) (c:Nat):Y9 (l.take (k+1)) c=Y9 (l.take k) c++[fld x c]:=by
 unfold Y9
 rw[List.take_add_one,hx,Option.toList_some,List.map_append]
 rfl
def Sp (l:List OpD) (c:Nat):ByteArray:=⟨(ZF l c).toArray⟩
theorem Z1r (l:List OpD) (c:Nat):(Sp l c).size=(ZF l c).length:=by
 show (ZF l c).toArray.size=_
 simp
theorem Z55 {l:List OpD} {k:Nat} {x:OpD} (hx:l[k]?=some x) (c:Nat):Sp (l.take k) c++txt x c=Sp (l.take (k+1)) c:=by
 unfold Sp
 rw[Tk hx]
 apply ByteArray.ext
 simp
theorem Z3S {W:World} {b o n cap:Nat} {l:List OpD} (h:Z0 OpD.cells 26 W (.slice (some ⟨b,o,none⟩) n cap) l) {k:Nat} {x:OpD} (hx:l[k]?=some x) {j:Nat} {u:Value} (hu:x.cells[j]?=some u):W.cell? ⟨b,o+k*26+j,none⟩=some u:=by
 obtain ⟨_,_,e,_,_,h4⟩:=h
 cases e
 obtain ⟨b2,o2,e2,h5⟩:=h4 (by rintro rfl;simp at hx)
 cases e2
 exact h5 k x hx j u hu
theorem Z63 (v:Value) (l:List OpD) (w:World) (h:Z0 OpD.cells 26 w v l) (hwf:∀ x∈l,x.wf) (hn:l.length≤200) (hall:∀ x∈l,x.right=true) :
  Calls Tryz.prog 110 #[v] w fun e w'=>∃ v',e=.returned v'∧Own u8c 1 5 w.heap.size w' v' (Xj l)∧Below w.heap.size w w':=by
 obtain ⟨a,cap,rfl,hcap,hmax,-⟩:=id h
 unfold maxLen at hmax
 have HH:=Lib.hid h
 have HWF:=Lib.hid hwf
 have HALL:=Lib.hid hall
 clear h hwf hall
 have hlw:IntKind.u64.wrap (l.length:Int)=(l.length:Int):=by rw[Yc];omega
 go_enter Tryz.func110,Tryz.ntmps110
 go_wp2_with fail
 refine (WV l.length _ (by omega)).mono ?_
 rintro e w4 ⟨v4,rfl,hown4,b4⟩
 obtain ⟨⟨pa,pn,pc⟩,e4⟩:=hown4.sl
 dsimp only at e4
 subst e4
 have HO:Hid (R4 w w4 (.slice pa pn pc) (Z5 l.length++ZR l 0)):=Jh (by rw[show ZR l 0=[] from rfl,List.append_nil];exact ⟨hown4,b4⟩)
 clear hown4 b4 hlw
 go_wp2_with fail
 go_loopg [4,3] 21 (fun g kv ov wx=>∃ (k:Nat) (s:Sl),g=21 - k∧kv=.int .i64 k∧ov=.slice s.a s.n s.cap∧k≤21∧Hid (R4 w wx (.slice s.a s.n s.cap) (Z5 l.length++ZR l k)))
 case atStart=>exact ⟨0,⟨pa,pn,pc⟩,rfl,rfl,rfl,by omega,HO⟩
 case round =>
  clear HO
  obtain ⟨k,⟨ta,tn,tc⟩,hg,rfl,rfl,hk,HR⟩:=hrel
  dsimp only at HR ⊢
  have HG:=Lib.hid hg
  clear hg
  obtain ⟨w9,rfl⟩:∃ w9,w9=wr:=⟨_,rfl⟩
  by_cases hlk:k<21
  ·have hk20:(k:Int)≤20:=by omega
   obtain ⟨i0,hi,hy0,hy1,hy2⟩:=info_parts Wi
   go_wp2_with fail
   go_loopg [6,5] l.length (fun g kv nv wx=>∃ (j:Nat) (s:Sl),g=l.length - j∧kv=.int .i64 j∧nv=.slice s.a s.n s.cap∧j≤l.length∧Hid (Own Zi 1 3 w9.heap.size wx (.slice s.a s.n s.cap) (Y9 (l.take j) k)∧Below w9.heap.size w9 wx))
   case atStart=>exact ⟨0,⟨none,0,0⟩,rfl,rfl,rfl,Nat.zero_le _,Lib.hid ⟨Own.nil,Below.refl _ _⟩⟩
   case round =>
    obtain ⟨j,⟨sa,sn,sc⟩,hg,rfl,rfl,hj,HI⟩:=hrel
    dsimp only at HI ⊢
    have HG2:=Lib.hid hg
    clear hg
    by_cases hlt:j<l.length
    ·have hk1:(j:Int)<(l.length:Int):=by omega
     have hj0:(0:Int)≤(j:Int):=by omega
     obtain ⟨x,hx⟩:∃ x,l[j]?=some x:=⟨_,List.getElem?_eq_getElem hlt⟩
     have hsl:=HH.out.below (HR.out.bel.trans (HI.out.2.mono HR.out.bel.size))
     obtain ⟨b0,o0,rfl⟩:=hsl.some8 (by rintro rfl;simp at hlt)
     have HLD:=Jh (X9 hsl hx)
     have HX:=Lib.hid hx
     clear hsl hx
     go_wp2_with ((with_reducible_and_instances refine Za (o:=⟨some 32,_,_,_,_,_⟩) (v:=.agg x.cells.toArray) ?_ ?_ ?_);rfl;exact Z9 rfl rfl HLD.out)
     refine (Z4L x k hlk _).mono ?_
     rintro e w3 ⟨rfl,b3⟩
     have HI2:=Jh (HI.out.1.below1 b3)
     have HB3:Hid (Below w9.heap.size w9 w3):=Jh (HI.out.2.trans (b3.mono HI.out.2.size))
     have HBD:Hid ((Y9 (l.take j) k).length+1≤maxLen∧((Y9 (l.take j) k).length+1)*8≤140737488355328):=Jh (by rw[Qm,List.length_take];unfold maxLen;omega)
     obtain ⟨F,hF⟩:=Je (fld x k)
     rw[hF]
     have HF:=Lib.hid hF
     clear b3 HLD HI hF
     go_wp2_with (at_builtin;refine ZI rfl _ _ _ rfl i0 _ 8 Tryz.underlying100 hi hy0 hy1 hy2 rfl (by omega) Zf XA rfl (HI2.out.alloc _) F w3.heap.size 1 rfl (Wp _ F) HBD.out.1 HBD.out.2 (by have:=HB3.out.size;simp;omega) ?_)
     intro v' w4 hown4 hx4 hn4
     rw[←HF.out,←Z5J HX.out] at hown4
     obtain ⟨⟨ua,un,uc⟩,e4⟩:=hown4.sl
     dsimp only at e4
     subst e4
     have HN:Hid (Own Zi 1 3 w9.heap.size w4 (.slice ua un uc) (Y9 (l.take (j+1)) k)∧Below w9.heap.size w9 w4):=Lib.hid ⟨hown4,Ext.new (HB3.out.alloc HB3.out.size _) hx4 (fun i hi _ e=>by have:=(HI2.out.blk i e).1;omega) (by have:=HB3.out.size;simp;omega)⟩
     clear hown4 hx4 hn4 HI2 HB3
     go_wp2_with fail
     go_roundg (l.length - (j+1))
     case measure=>rw[HG2.out];omega
     case rel=>exact ⟨j+1,⟨ua,un,uc⟩,rfl,by simp,rfl,by omega,HN⟩
    ·obtain rfl:j=l.length:=by omega
     have hk1:¬ (l.length:Int)<(l.length:Int):=by omega
     have HBL:Hid (Z0 Zi 1 wr (.slice sa sn sc) (Y9 l k)):=Jh (by have:=HI.out.1.slice Zf;rwa [List.take_length] at this)
     have HRR:Hid (R4 w wr (.slice ta tn tc) (Z5 l.length++ZR l k)):=Jh (HR.out.below HI.out.2 (Nat.le_refl _))
     have HCL:=Jh (Qc HWF.out hn hlk)
     have HLEN:Hid ((Z5 l.length++ZR l k).length+(Wv l k).length≤140737488355328):=Jh (by have h1:=XL HWF.out hn k (by omega);have h3:=Xt (n:=l.length) (by omega);have h4:=HCL.out.1;rw[List.length_append];omega)
     clear HI HR hlt hj
     go_wp2_with fail
     refine (UP k hlk _).mono ?_
     rintro e w5 ⟨rfl,rfl⟩
     cases hd:dlt k with
     | false =>
      have HCB:Hid (Wv l k=Zd (Y9 l k)):=Jh (by unfold Wv;rw[hd];rfl)
      clear hd
      go_wp2_with fail
      refine (TA _ (Y9 l k) _ HBL.out (by rw[Qm];omega) HCL.out.2).mono ?_
      rintro e w7 ⟨v7,rfl,hown7,b7⟩
      obtain ⟨⟨ua,un,uc⟩,w8,hr8,h8,-⟩:=R4.app (HRR.out.below b7 (Nat.le_refl _)) (hown7.slice Z6) (by have:=HLEN.out;rw[HCB.out] at this;exact this)
      rw[←HCB.out,List.append_assoc,←WB] at h8
      have HN:=Lib.hid h8
      clear h8 hown7 b7 HBL HRR HLEN HCL
      go_wp2_with (at_builtin;refine Lib.wpList_append_run _ rfl _ _ _ _ rfl _ _ rfl rfl _ _ hr8 ?_)
      go_roundg (21 - (k+1))
      case measure=>rw[HG.out];omega
      case rel=>exact ⟨k+1,⟨ua,un,uc⟩,rfl,by simp,rfl,by omega,HN⟩
     | true =>
      have HCB:Hid (Wv l k=Zd (ZM (Y9 l k))):=Jh (by unfold Wv;rw[hd];rfl)
      clear hd
      go_wp2_with fail
      refine (Z3P _ (Y9 l k) _ HBL.out (by rw[Qm];omega) HCL.out.2).mono ?_
      rintro e w7 ⟨v7,rfl,hown7,b7⟩
      obtain ⟨⟨ua,un,uc⟩,w8,hr8,h8,-⟩:=R4.app (HRR.out.below b7 (Nat.le_refl _)) (hown7.slice Z6) (by have:=HLEN.out;rw[HCB.out] at this;exact this)
      rw[←HCB.out,List.append_assoc,←WB] at h8
      have HN:=Lib.hid h8
      clear h8 hown7 b7 HBL HRR HLEN HCL
      go_wp2_with (at_builtin;refine Lib.wpList_append_run _ rfl _ _ _ _ rfl _ _ rfl rfl _ _ hr8 ?_)
      go_roundg (21 - (k+1))
      case measure=>rw[HG.out];omega
      case rel=>exact ⟨k+1,⟨ua,un,uc⟩,rfl,by simp,rfl,by omega,HN⟩
  ·obtain rfl:k=21:=by omega
   have hk20:¬ (21:Int)≤20:=by omega
   have HO:Hid (R4 w w9 (.slice ta tn tc) (Z5 l.length++ZR l 21)):=Lib.hid HR.out
   clear HR hlk hk HG
   obtain ⟨i0,hi,hy0,hy1,hy2⟩:=info_parts UH
   go_wp2_with fail
   go_loopg [9,7,8] l.length (fun g kv fv tv wx=>∃ (j:Nat) (s r:Sl),g=l.length - j∧kv=.int .i64 j∧fv=.slice s.a s.n s.cap∧tv=.slice r.a r.n r.cap∧j≤l.length∧Hid (Own btc 1 4 w9.heap.size wx (.slice s.a s.n s.cap) (Zx (l.take j) 0)∧Own btc 1 4 w9.heap.size wx (.slice r.a r.n r.cap) (Zx (l.take j) 1)∧Below w9.heap.size w9 wx∧∀ b,(Value.slice s.a s.n s.cap).ownBlock=some b→(Value.slice r.a r.n r.cap).ownBlock=some b→False))
   case atStart=>exact ⟨0,⟨none,0,0⟩,⟨none,0,0⟩,rfl,rfl,rfl,rfl,Nat.zero_le _,Lib.hid ⟨Own.nil,Own.nil,Below.refl _ _,fun b h=>by cases h⟩⟩
   case round =>
    obtain ⟨j,⟨sa,sn,sc⟩,⟨ra,rn,rc⟩,hg,rfl,rfl,rfl,hj,HI⟩:=hrel
    dsimp only at HI ⊢
    have HG2:=Lib.hid hg
    clear hg
    by_cases hlt:j<l.length
    ·have hk1:(j:Int)<(l.length:Int):=by omega
     have hj0:(0:Int)≤(j:Int):=by omega
     obtain ⟨x,hx⟩:∃ x,l[j]?=some x:=⟨_,List.getElem?_eq_getElem hlt⟩
     have hsl:=HH.out.below (HO.out.bel.trans (HI.out.2.2.1.mono HO.out.bel.size))
     obtain ⟨b0,o0,rfl⟩:=hsl.some8 (by rintro rfl;simp at hlt)
     have cf:wr.cell? ⟨b0,o0+j*26+22,none⟩=some (.bool (tru x 0)):=Z3S hsl hx rfl
     have HX:=Lib.hid hx
     have HBD:Hid ((Zx (l.take j) 0).length+1≤maxLen∧((Zx (l.take j) 0).length+1)*1≤140737488355328):=Jh (by rw[YC,List.length_take];unfold maxLen;omega)
     have HBE:Hid ((Zx (l.take j) 1).length+1≤maxLen∧((Zx (l.take j) 1).length+1)*1≤140737488355328):=Jh (by rw[YC,List.length_take];unfold maxLen;omega)
     clear hsl hx
     go_wp2_with (at_builtin;refine ZI rfl _ _ _ rfl i0 _ 1 Tryz.underlying75 hi hy0 hy1 hy2 rfl (by omega) Y3 VA rfl (HI.out.1.alloc _) (tru x 0) wr.heap.size 1 rfl (Un _ (tru x 0)) HBD.out.1 HBD.out.2 (by have:=HI.out.2.2.1.size;simp;omega) ?_)
     intro v' w4 hown4 hx4 hn4
     rw[←Tv HX.out] at hown4
     obtain ⟨⟨ua,un,uc⟩,e4⟩:=hown4.sl
     dsimp only at e4
     subst e4
     have HT4:=Jh ((HI.out.2.1.alloc (.cells #[.bool (tru x 0)] 4)).ext hx4 (fun b hb e=>HI.out.2.2.2 b e hb))
     have HB4:Hid (Below w9.heap.size w9 w4):=Jh (Ext.new (HI.out.2.2.1.alloc HI.out.2.2.1.size _) hx4 (fun i hi _ e=>by have:=(HI.out.1.blk i e).1;omega) (by have:=HI.out.2.2.1.size;simp;omega))
     have HO4:=Lib.hid hown4
     have HAP:Hid (∀ b,(Value.slice ua un uc).ownBlock=some b→(Value.slice ra rn rc).ownBlock=some b→False):=Jh (fun b h1 h2=>by
      rcases hn4 b h1 with h3|h3
      ·exact HI.out.2.2.2 b h3 h2
      ·have h4:=(HI.out.2.1.blk b h2).2
       try simp at h3
       omega)
     have hsl4:=HH.out.below (HO.out.bel.trans (HB4.out.mono HO.out.bel.size))
     have ct:w4.cell? ⟨b0,o0+j*26+25,none⟩=some (.bool (tru x 1)):=Z3S hsl4 HX.out rfl
     clear hown4 hx4 hn4 HI cf hsl4
     go_wp2_with (at_builtin;refine ZI rfl _ _ _ rfl i0 _ 1 Tryz.underlying75 hi hy0 hy1 hy2 rfl (by omega) Y3 VA rfl (HT4.out.alloc _) (tru x 1) w4.heap.size 1 rfl (Un _ (tru x 1)) HBE.out.1 HBE.out.2 (by have:=HB4.out.size;simp;omega) ?_)
     intro v' w5 hown5 hx5 hn5
     rw[←Tv HX.out] at hown5
     obtain ⟨⟨qa,qn,qc⟩,e5⟩:=hown5.sl
     dsimp only at e5
     subst e5
     have HN:Hid (Own btc 1 4 w9.heap.size w5 (.slice ua un uc) (Zx (l.take (j+1)) 0)∧Own btc 1 4 w9.heap.size w5 (.slice qa qn qc) (Zx (l.take (j+1)) 1)∧Below w9.heap.size w9 w5∧∀ b,(Value.slice ua un uc).ownBlock=some b→(Value.slice qa qn qc).ownBlock=some b→False):=Lib.hid ⟨(HO4.out.alloc _).ext hx5 (fun b hb e=>HAP.out b hb e),hown5,Ext.new (HB4.out.alloc HB4.out.size _) hx5 (fun i hi _ e=>by have:=(HT4.out.blk i e).1;omega) (by have:=HB4.out.size;simp;omega),fun b h1 h2=>by
      rcases hn5 b h2 with h3|h3
      ·exact HAP.out b h1 h3
      ·have h4:=(HO4.out.blk b h1).2
       try simp at h3
       omega⟩
     clear hown5 hx5 hn5 HT4 HB4 HO4 HAP ct
     go_wp2_with fail
     go_roundg (l.length - (j+1))
     case measure=>rw[HG2.out];omega
     case rel=>exact ⟨j+1,⟨ua,un,uc⟩,⟨qa,qn,qc⟩,rfl,by simp,rfl,rfl,by omega,HN⟩
    ·obtain rfl:j=l.length:=by omega
     have hk1:¬ (l.length:Int)<(l.length:Int):=by omega
     have HF:Hid (Z0 btc 1 wr (.slice sa sn sc) (Zx l 0)∧Z0 btc 1 wr (.slice ra rn rc) (Zx l 1)∧Own btc 1 4 w9.heap.size wr (.slice ra rn rc) (Zx l 1)):=Jh (by have h1:=HI.out.1.slice Y3;have h2:=HI.out.2.1.slice Y3;have h3:=HI.out.2.1;rw[List.take_length] at h1 h2 h3;exact ⟨h1,h2,h3⟩)
     have HRR:Hid (R4 w wr (.slice ta tn tc) (Z5 l.length++ZR l 21)):=Jh (HO.out.below HI.out.2.2.1 (Nat.le_refl _))
     have HLEN:Hid ((Z5 l.length++ZR l 21).length+(Yx (Zx l 0)).length+(Yx (Zx l 1)).length≤140737488355328):=Jh (by have h1:=XL HWF.out hn 21 (by omega);have h2:=WA (l:=Zx l 0) (by rw[YC];omega);rw[YC] at h2;have h4:=WA (l:=Zx l 1) (by rw[YC];omega);rw[YC] at h4;have h3:=Xt (n:=l.length) (by omega);rw[List.length_append];omega)
     have HAP:Hid (∀ b,(Value.slice ra rn rc).ownBlock=some b→(Value.slice ta tn tc).ownBlock=some b→False):=Jh (fun b h1 h2=>by have h3:=(HF.out.2.2.blk b h1).1;have h4:=(HO.out.own.blk b h2).2;omega)
     clear HI HO hlt hj
     go_wp2_with fail
     refine (UE _ (Zx l 0) _ HF.out.1 (by rw[YC];omega)).mono ?_
     rintro e w7 ⟨v7,rfl,hown7,b7⟩
     obtain ⟨⟨ua,un,uc⟩,w8,hr8,h8,hx8⟩:=R4.app (HRR.out.below b7 (Nat.le_refl _)) (hown7.slice Z6) (by have:=HLEN.out;omega)
     have H8:=Lib.hid h8
     have HT8:=Jh (((HF.out.2.2.below1 b7).ext hx8 (fun b hb e=>HAP.out b hb e)).slice Y3)
     clear h8 hx8 hown7 b7 HF HRR HAP
     go_wp2_with (at_builtin;refine Lib.wpList_append_run _ rfl _ _ _ _ rfl _ _ rfl rfl _ _ hr8 ?_)
     clear hr8
     refine (UE _ (Zx l 1) _ HT8.out (by rw[YC];omega)).mono ?_
     rintro e w10 ⟨v10,rfl,hown10,b10⟩
     obtain ⟨⟨za,zn,zc⟩,w11,hr11,h11,-⟩:=R4.app (H8.out.below b10 (Nat.le_refl _)) (hown10.slice Z6) (by have:=HLEN.out;rw[List.length_append];omega)
     have HT0:Hid (R4 w w11 (.slice za zn zc) (Z5 l.length++ZR l 21++Yy l 2++X7 l 0)):=Jh (by
      have e:Yy l 2=Yx (Zx l 0)++Yx (Zx l 1):=by rw[Wu,Wu];rfl
      rw[e,show X7 l 0=[] from rfl,List.append_nil,←List.append_assoc]
      exact h11)
     clear h11 hown10 b10 H8 HT8 HLEN hi hy0 hy1 hy2
     go_wp2_with (at_builtin;refine Lib.wpList_append_run _ rfl _ _ _ _ rfl _ _ rfl rfl _ _ hr11 ?_)
     clear hr11
     go_loopg [10,3] 3 (fun g kv ov wx=>∃ (k:Nat) (s:Sl),g=3 - k∧kv=.int .i64 k∧ov=.slice s.a s.n s.cap∧k≤3∧Hid (R4 w wx (.slice s.a s.n s.cap) (Z5 l.length++ZR l 21++Yy l 2++X7 l k)))
     case atStart=>exact ⟨0,⟨za,zn,zc⟩,rfl,rfl,rfl,by omega,HT0⟩
     case round =>
      clear HT0 HG2
      obtain ⟨k,⟨ta,tn,tc⟩,hg,rfl,rfl,hk,HR⟩:=hrel
      dsimp only at HR ⊢
      have HG:=Lib.hid hg
      clear hg
      obtain ⟨w9,rfl⟩:∃ w9,w9=wr:=⟨_,rfl⟩
      by_cases hlk:k<3
      ·have hk3:(k:Int)<3:=by omega
       obtain ⟨i0,hi,hy0,hy1,hy2⟩:=info_parts Wi
       go_wp2_with fail
       go_loopg [13,11,12] l.length (fun g kv nv sv wx=>∃ (j:Nat) (s:Sl),g=l.length - j∧kv=.int .i64 j∧nv=.slice s.a s.n s.cap∧sv=.string (Sp (l.take j) k)∧j≤l.length∧Hid (Own Zi 1 3 w9.heap.size wx (.slice s.a s.n s.cap) (ZA (l.take j) k)∧Below w9.heap.size w9 wx))
       case atStart=>exact ⟨0,⟨none,0,0⟩,rfl,rfl,rfl,rfl,Nat.zero_le _,Lib.hid ⟨Own.nil,Below.refl _ _⟩⟩
       case round =>
        obtain ⟨j,⟨sa,sn,sc⟩,hg,rfl,rfl,rfl,hj,HI⟩:=hrel
        dsimp only at HI ⊢
        have HG2:=Lib.hid hg
        clear hg
        by_cases hlt:j<l.length
        ·have hk1:(j:Int)<(l.length:Int):=by omega
         have hj0:(0:Int)≤(j:Int):=by omega
         obtain ⟨x,hx⟩:∃ x,l[j]?=some x:=⟨_,List.getElem?_eq_getElem hlt⟩
         have hsl:=HH.out.below (HR.out.bel.trans (HI.out.2.mono HR.out.bel.size))
         obtain ⟨b0,o0,rfl⟩:=hsl.some8 (by rintro rfl;simp at hlt)
         have HLD:=Jh (X9 hsl hx)
         have HX:=Lib.hid hx
         have HTX:=Jh (OpD.right_txt (HALL.out x (List.mem_of_getElem? hx)) k)
         have HCT:Hid ((Sp (l.take j) k).size≤12800):=Jh (by rw[Z1r];have:=WC (l:=l.take j) (fun y hy=>HALL.out y (List.mem_of_mem_take hy)) k;rw[List.length_take] at this;omega)
         have HBD:Hid ((ZA (l.take j) k).length+1≤maxLen∧((ZA (l.take j) k).length+1)*8≤140737488355328):=Jh (by rw[Wf,List.length_take];unfold maxLen;omega)
         obtain ⟨T,hT⟩:=Je (txt x k)
         obtain ⟨C,hC⟩:=Je (Sp (l.take j) k)
         have HT:=Lib.hid hT
         have HC:=Lib.hid hC
         have hsum:∀ W,(Op.stringOp .add C T).run Tryz.prog W=.ok (.string (C++T)) W:=fun W=>run_string_add_sum W _ _ (by rw[←hC,←hT];have:=HTX.out;have:=HCT.out;omega)
         rw[hC]
         clear hsl hx hC
         go_wp2_with ((with_reducible_and_instances refine Za (o:=⟨some 93,_,_,_,_,_⟩) (v:=.agg x.cells.toArray) ?_ ?_ ?_);rfl;exact Z9 rfl rfl HLD.out)
         refine (Z1b x k hlk _).mono ?_
         rintro e w3 ⟨rfl,b3⟩
         rw[hT]
         have htl:T.size≤64:=by rw[←hT];exact HTX.out
         clear hT
         have HI2:=Jh (HI.out.1.below1 b3)
         have HB3:Hid (Below w9.heap.size w9 w3):=Jh (HI.out.2.trans (b3.mono HI.out.2.size))
         clear b3 HLD HI
         go_wp2_with (at_builtin;refine ZI rfl _ _ _ rfl i0 _ 8 Tryz.underlying100 hi hy0 hy1 hy2 rfl (by omega) Zf XA rfl (HI2.out.alloc _) (T.size:Int) w3.heap.size 1 rfl (Wp _ (T.size:Int)) HBD.out.1 HBD.out.2 (by have:=HB3.out.size;simp;omega) ?_)
         intro v' w4 hown4 hx4 hn4
         rw[←HT.out,←Tz HX.out] at hown4
         obtain ⟨⟨ua,un,uc⟩,e4⟩:=hown4.sl
         dsimp only at e4
         subst e4
         have HN4:Hid (Own Zi 1 3 w9.heap.size w4 (.slice ua un uc) (ZA (l.take (j+1)) k)∧Below w9.heap.size w9 w4):=Lib.hid ⟨hown4,Ext.new (HB3.out.alloc HB3.out.size _) hx4 (fun i hi _ e=>by have:=(HI2.out.blk i e).1;omega) (by have:=HB3.out.size;simp;omega)⟩
         have hsl4:=HH.out.below (HR.out.bel.trans (HN4.out.2.mono HR.out.bel.size))
         have HLD4:=Jh (X9 hsl4 HX.out)
         clear hown4 hx4 hn4 HI2 HB3 hsl4
         go_wp2_with ((with_reducible_and_instances refine Za (o:=⟨some 103,_,_,_,_,_⟩) (v:=.agg x.cells.toArray) ?_ ?_ ?_);rfl;exact Z9 rfl rfl HLD4.out)
         refine (Z1b x k hlk _).mono ?_
         rintro e w5 ⟨rfl,b5⟩
         rw[HT.out]
         have HN:Hid (Own Zi 1 3 w9.heap.size w5 (.slice ua un uc) (ZA (l.take (j+1)) k)∧Below w9.heap.size w9 w5):=Lib.hid ⟨HN4.out.1.below1 b5,HN4.out.2.trans (b5.mono HN4.out.2.size)⟩
         have HCC:Hid (C++T=Sp (l.take (j+1)) k):=Jh (by rw[←HC.out,←HT.out];exact Z55 HX.out k)
         clear b5 HN4 HLD4
         go_wp2_with fail
         go_roundg (l.length - (j+1))
         case measure=>rw[HG2.out];omega
         case rel=>exact ⟨j+1,⟨ua,un,uc⟩,rfl,by simp,rfl,by rw[HCC.out],by omega,HN⟩
        ·obtain rfl:j=l.length:=by omega
         have hk1:¬ (l.length:Int)<(l.length:Int):=by omega
         have HBL:Hid (Z0 Zi 1 wr (.slice sa sn sc) (ZA l k)):=Jh (by have h1:=HI.out.1.slice Zf;rw[List.take_length] at h1;exact h1)
         have HRR:Hid (R4 w wr (.slice ta tn tc) (Z5 l.length++ZR l 21++Yy l 2++X7 l k)):=Jh (HR.out.below HI.out.2 (Nat.le_refl _))
         have HLEN:Hid ((Z5 l.length++ZR l 21++Yy l 2++X7 l k).length+(Zd (ZA l k)).length+(ZF l k).length≤140737488355328):=Jh (by have h1:=XL HWF.out hn 21 (by omega);have h2:=WU (l:=l) hn 2;have h3:=Xt (n:=l.length) (by omega);have h4:=Ul HALL.out hn k;have h5:=UN HALL.out hn k;have h6:=WC HALL.out k;rw[List.length_append,List.length_append,List.length_append];omega)
         obtain ⟨C,hC⟩:=Je (Sp l k)
         have HC:=Lib.hid hC
         rw[List.take_length,hC]
         clear HI HR hlt hj hC
         go_wp2_with fail
         refine (TA _ (ZA l k) _ HBL.out (by rw[Wf];omega) (UI HALL.out k)).mono ?_
         rintro e w7 ⟨v7,rfl,hown7,b7⟩
         obtain ⟨⟨ua,un,uc⟩,w8,hr8,h8,-⟩:=R4.app (HRR.out.below b7 (Nat.le_refl _)) (hown7.slice Z6) (by have:=HLEN.out;omega)
         have hCs:C.size=(ZF l k).length:=by rw[←HC.out,Z1r]
         obtain ⟨⟨xa,xn,xc⟩,w10,hr10,h10,hx10⟩:=UD h8.own C h8.bel.size (by have:=HLEN.out;rw[List.length_append,hCs];omega)
         have hCd:C.data.toList=ZF l k:=by rw[←HC.out];rfl
         rw[hCd,List.append_assoc,List.append_assoc,←XZ] at h10
         have HN:Hid (R4 w w10 (.slice xa xn xc) (Z5 l.length++ZR l 21++Yy l 2++X7 l (k+1))):=Lib.hid ⟨h10,Ext.new h8.bel hx10 (fun i hi _ e=>by have:=(h8.own.blk i e).1;omega) h8.bel.size⟩
         clear h8 h10 hx10 hown7 b7 HBL HRR HLEN hCs hCd
         go_wp2_with (at_builtin;first|(refine Lib.wpList_append_run _ rfl _ _ _ _ rfl _ _ rfl rfl _ _ hr8 ?_)|(refine Lib.wpList_append_run _ rfl _ _ _ _ rfl _ _ rfl rfl _ _ hr10 ?_))
         go_roundg (3 - (k+1))
         case measure=>rw[HG.out];omega
         case rel=>exact ⟨k+1,⟨xa,xn,xc⟩,rfl,by simp,rfl,by omega,HN⟩
      ·obtain rfl:k=3:=by omega
       have hk3:¬ (3:Int)<3:=by omega
       go_wp2_with fail
       go_ret
       exact ⟨_,rfl,HR.out.own,HR.out.bel⟩
theorem Rx {s:ByteArray} {k:Nat} (h:k<s.size):s.data.toList[k]?=some s[k]:=by
 have h2:k<s.data.size:=h
 rw[Array.getElem?_toList,Array.getElem?_eq_getElem h2]
 rfl
theorem Vm {l:List UInt8} {p:UInt8→Prop} {k:Nat} {x:UInt8} (h:∀ y∈l.take k,p y) (hx:l[k]?=some x) (hp:p x):∀ y∈l.take (k+1),p y:=by
 intro y hy
 rw[List.take_add_one,hx,Option.toList_some] at hy
 rcases List.mem_append.1 hy with hy|hy
 ·exact h y hy
 ·rw[List.mem_singleton.1 hy];exact hp
theorem TJ {l:List UInt8} {p:UInt8→Prop} [DecidablePred p] (h:∀ y∈l.take l.length,p y):(l.all fun c=>decide (p c))=true:=by
 rw[List.take_length] at h
 exact List.all_eq_true.2 fun y hy=>decide_eq_true (h y hy)
theorem U1 {l:List UInt8} {p:UInt8→Prop} [DecidablePred p] {k:Nat} {x:UInt8} (hx:l[k]?=some x) (hp:¬ p x):(l.all fun c=>decide (p c))=false:=by
 rw[Bool.eq_false_iff]
 intro h
 exact hp (of_decide_eq_true (List.all_eq_true.1 h x (List.mem_of_getElem? hx)))
theorem Z10 (s:ByteArray) (hs:s.size≤9223372036854775807) (w:World):Calls Tryz.prog 136 #[.string s] w fun e w'=>e=.returned (.bool (YG s))∧w'=w:=by
 go_enter Tryz.func136,Tryz.ntmps136
 go_wp2_with fail
 go_loopg [3] s.size (fun g kv wx=>∃ k:Nat,g=s.size - k∧kv=.int .i64 k∧k≤s.size∧wx=w∧Hid (∀ c∈s.data.toList.take k,97≤c.toNat∧c.toNat≤122))
 case atStart=>exact ⟨0,rfl,rfl,Nat.zero_le _,rfl,Jh (fun x hx=>by simp at hx)⟩
 case round =>
  obtain ⟨k,hg,rfl,hk,rfl,HR⟩:=hrel
  have HG:=Lib.hid hg
  clear hg
  by_cases hlt:k<s.size
  ·have hk1:(k:Int)<(s.size:Int):=by omega
   have hk0:(0:Int)≤(k:Int):=by omega
   obtain ⟨c,hc⟩:=Je (s[k])
   have hx:=Rx hlt
   rw[hc] at hx
   have HX:=Lib.hid hx
   clear hx
   by_cases ha:c.toNat<97
   ·have ha1:(c.toNat:Int)<97:=by omega
    have HBAD:Hid (YG s=false):=Jh (by unfold YG;rw[U1 (p:=fun c=>97≤c.toNat∧c.toNat≤122) HX.out (by omega)];simp)
    go_wp2_with fail
    go_ret
    exact ⟨by rw[HBAD.out];rfl,rfl⟩
   ·have ha1:¬ (c.toNat:Int)<97:=by omega
    by_cases hb:122<c.toNat
    ·have hb1:(122:Int)<(c.toNat:Int):=by omega
     have HBAD:Hid (YG s=false):=Jh (by unfold YG;rw[U1 (p:=fun c=>97≤c.toNat∧c.toNat≤122) HX.out (by omega)];simp)
     go_wp2_with fail
     go_ret
     exact ⟨by rw[HBAD.out];rfl,rfl⟩
    ·have hb1:¬ (122:Int)<(c.toNat:Int):=by omega
     have HN:Hid (∀ c∈s.data.toList.take (k+1),97≤c.toNat∧c.toNat≤122):=Jh (Vm HR.out HX.out (by omega))
     go_wp2_with fail
     go_roundg (s.size - (k+1))
     case measure=>rw[HG.out];omega
     case rel=>exact ⟨k+1,rfl,by simp,by omega,rfl,HN⟩
  ·obtain rfl:k=s.size:=by omega
   have hk1:¬ (s.size:Int)<(s.size:Int):=by omega
   have hall:=TJ (p:=fun c=>97≤c.toNat∧c.toNat≤122) (by have h:=HR.out;rwa [←WQ] at h)
   by_cases h1:1≤s.size
   ·have h11:(1:Int)≤(s.size:Int):=by omega
    by_cases h2:s.size≤8
    ·have h21:(s.size:Int)≤8:=by omega
     have HE:Hid (YG s=true):=Jh (by unfold YG;rw[hall,decide_eq_true (by omega)];rfl)
     clear hall
     go_wp2_with fail
     go_ret
     exact ⟨by rw[HE.out];rfl,rfl⟩
    ·have h21:¬ (s.size:Int)≤8:=by omega
     have HE:Hid (YG s=false):=Jh (by unfold YG;rw[decide_eq_false (by omega)];rfl)
     clear hall
     go_wp2_with fail
     go_ret
     exact ⟨by rw[HE.out];rfl,rfl⟩
   ·have h11:¬ (1:Int)≤(s.size:Int):=by omega
    have HE:Hid (YG s=false):=Jh (by unfold YG;rw[decide_eq_false (by omega)];rfl)
    clear hall
    go_wp2_with fail
    go_ret
    exact ⟨by rw[HE.out];rfl,rfl⟩
theorem Z07 (s:ByteArray) (hs:s.size≤9223372036854775807) (w:World):Calls Tryz.prog 137 #[.string s] w fun e w'=>e=.returned (.bool (YD s))∧w'=w:=by
 go_enter Tryz.func137,Tryz.ntmps137
 go_wp2_with fail
 go_loopg [3] s.size (fun g kv wx=>∃ k:Nat,g=s.size - k∧kv=.int .i64 k∧k≤s.size∧wx=w∧Hid (∀ c∈s.data.toList.take k,32≤c.toNat∧c.toNat≤126))
 case atStart=>exact ⟨0,rfl,rfl,Nat.zero_le _,rfl,Jh (fun x hx=>by simp at hx)⟩
 case round =>
  obtain ⟨k,hg,rfl,hk,rfl,HR⟩:=hrel
  have HG:=Lib.hid hg
  clear hg
  by_cases hlt:k<s.size
  ·have hk1:(k:Int)<(s.size:Int):=by omega
   have hk0:(0:Int)≤(k:Int):=by omega
   obtain ⟨c,hc⟩:=Je (s[k])
   have hx:=Rx hlt
   rw[hc] at hx
   have HX:=Lib.hid hx
   clear hx
   by_cases ha:c.toNat<32
   ·have ha1:(c.toNat:Int)<32:=by omega
    have HBAD:Hid (YD s=false):=Jh (by unfold YD;rw[U1 (p:=fun c=>32≤c.toNat∧c.toNat≤126) HX.out (by omega)];simp)
    go_wp2_with fail
    go_ret
    exact ⟨by rw[HBAD.out];rfl,rfl⟩
   ·have ha1:¬ (c.toNat:Int)<32:=by omega
    by_cases hb:126<c.toNat
    ·have hb1:(126:Int)<(c.toNat:Int):=by omega
     have HBAD:Hid (YD s=false):=Jh (by unfold YD;rw[U1 (p:=fun c=>32≤c.toNat∧c.toNat≤126) HX.out (by omega)];simp)
     go_wp2_with fail
     go_ret
     exact ⟨by rw[HBAD.out];rfl,rfl⟩
    ·have hb1:¬ (126:Int)<(c.toNat:Int):=by omega
     have HN:Hid (∀ c∈s.data.toList.take (k+1),32≤c.toNat∧c.toNat≤126):=Jh (Vm HR.out HX.out (by omega))
     go_wp2_with fail
     go_roundg (s.size - (k+1))
     case measure=>rw[HG.out];omega
     case rel=>exact ⟨k+1,rfl,by simp,by omega,rfl,HN⟩
  ·obtain rfl:k=s.size:=by omega
   have hk1:¬ (s.size:Int)<(s.size:Int):=by omega
   have hall:=TJ (p:=fun c=>32≤c.toNat∧c.toNat≤126) (by have h:=HR.out;rwa [←WQ] at h)
   by_cases h2:s.size≤16
   ·have h21:(s.size:Int)≤16:=by omega
    have HE:Hid (YD s=true):=Jh (by unfold YD;rw[hall,decide_eq_true (by omega)];rfl)
    clear hall
    go_wp2_with fail
    go_ret
    exact ⟨by rw[HE.out];rfl,rfl⟩
   ·have h21:¬ (s.size:Int)≤16:=by omega
    have HE:Hid (YD s=false):=Jh (by unfold YD;rw[decide_eq_false (by omega)];rfl)
    clear hall
    go_wp2_with fail
    go_ret
    exact ⟨by rw[HE.out];rfl,rfl⟩
theorem Z6p (s:ByteArray) (hs:s.size≤9223372036854775807) (w:World):Calls Tryz.prog 135 #[.string s] w fun e w'=>e=.returned (.bool (YS s))∧w'=w:=by
 go_enter Tryz.func135,Tryz.ntmps135
 go_wp2_with fail
 go_loopg [3] s.size (fun g kv wx=>∃ k:Nat,g=s.size - k∧kv=.int .i64 k∧k≤s.size∧wx=w∧Hid (∀ c∈s.data.toList.take k,48≤c.toNat∧c.toNat≤57∨97≤c.toNat∧c.toNat≤122))
 case atStart=>exact ⟨0,rfl,rfl,Nat.zero_le _,rfl,Jh (fun x hx=>by simp at hx)⟩
 case round =>
  obtain ⟨k,hg,rfl,hk,rfl,HR⟩:=hrel
  have HG:=Lib.hid hg
  clear hg
  by_cases hlt:k<s.size
  ·have hk1:(k:Int)<(s.size:Int):=by omega
   have hk0:(0:Int)≤(k:Int):=by omega
   obtain ⟨c,hc⟩:=Je (s[k])
   have hx:=Rx hlt
   rw[hc] at hx
   have HX:=Lib.hid hx
   clear hx
   by_cases ha:48≤c.toNat
   ·have ha1:(48:Int)≤(c.toNat:Int):=by omega
    by_cases hb:c.toNat≤57
    ·have hb1:(c.toNat:Int)≤57:=by omega
     have HN:Hid (∀ c∈s.data.toList.take (k+1),48≤c.toNat∧c.toNat≤57∨97≤c.toNat∧c.toNat≤122):=Jh (Vm HR.out HX.out (by omega))
     go_wp2_with fail
     go_roundg (s.size - (k+1))
     case measure=>rw[HG.out];omega
     case rel=>exact ⟨k+1,rfl,by simp,by omega,rfl,HN⟩
    ·have hb1:¬ (c.toNat:Int)≤57:=by omega
     by_cases hd:97≤c.toNat
     ·have hd1:(97:Int)≤(c.toNat:Int):=by omega
      by_cases he:c.toNat≤122
      ·have he1:(c.toNat:Int)≤122:=by omega
       have HN:Hid (∀ c∈s.data.toList.take (k+1),48≤c.toNat∧c.toNat≤57∨97≤c.toNat∧c.toNat≤122):=Jh (Vm HR.out HX.out (by omega))
       go_wp2_with fail
       go_roundg (s.size - (k+1))
       case measure=>rw[HG.out];omega
       case rel=>exact ⟨k+1,rfl,by simp,by omega,rfl,HN⟩
      ·have he1:¬ (c.toNat:Int)≤122:=by omega
       have HBAD:Hid (YS s=false):=Jh (by unfold YS;rw[U1 (p:=fun c=>48≤c.toNat∧c.toNat≤57∨97≤c.toNat∧c.toNat≤122) HX.out (by omega)];simp)
       go_wp2_with fail
       go_ret
       exact ⟨by rw[HBAD.out];rfl,rfl⟩
     ·have hd1:¬ (97:Int)≤(c.toNat:Int):=by omega
      have HBAD:Hid (YS s=false):=Jh (by unfold YS;rw[U1 (p:=fun c=>48≤c.toNat∧c.toNat≤57∨97≤c.toNat∧c.toNat≤122) HX.out (by omega)];simp)
      go_wp2_with fail
      go_ret
      exact ⟨by rw[HBAD.out];rfl,rfl⟩
   ·have ha1:¬ (48:Int)≤(c.toNat:Int):=by omega
    have HBAD:Hid (YS s=false):=Jh (by unfold YS;rw[U1 (p:=fun c=>48≤c.toNat∧c.toNat≤57∨97≤c.toNat∧c.toNat≤122) HX.out (by omega)];simp)
    go_wp2_with fail
    go_ret
    exact ⟨by rw[HBAD.out];rfl,rfl⟩
  ·obtain rfl:k=s.size:=by omega
   have hk1:¬ (s.size:Int)<(s.size:Int):=by omega
   have hall:=TJ (p:=fun c=>48≤c.toNat∧c.toNat≤57∨97≤c.toNat∧c.toNat≤122) (by have h:=HR.out;rwa [←WQ] at h)
   by_cases h1:1≤s.size
   ·have h11:(1:Int)≤(s.size:Int):=by omega
    by_cases h2:s.size≤64
    ·have h21:(s.size:Int)≤64:=by omega
     have hlast:s.data.toList.getLast?=some (s[s.size - 1]):=by rw[List.getLast?_eq_getElem?,WQ];exact Rx (by omega)
     obtain ⟨c,hc⟩:=Je (s[s.size - 1])
     rw[hc] at hlast
     have hidx:((s.size:Int) - 1)=((s.size - 1:Nat):Int):=by omega
     by_cases h3:c.toNat=48
     ·have h31:(c.toNat:Int)=48:=by omega
      have hc48:c=48:=UInt8.toNat_inj.1 h3
      have HE:Hid (YS s=false):=Jh (by unfold YS;rw[hlast,hc48];simp)
      clear hall hlast hc48 h3
      go_wp2_with fail
      go_ret
      exact ⟨by rw[HE.out];rfl,rfl⟩
     ·have h31:¬ (c.toNat:Int)=48:=by omega
      have hc48:c≠48:=fun e=>h3 (by rw[e];rfl)
      have HE:Hid (YS s=true):=Jh (by unfold YS;rw[hall,hlast,decide_eq_true (by omega),decide_eq_true (by simpa using hc48)];rfl)
      clear hall hlast hc48 h3
      go_wp2_with fail
      go_ret
      exact ⟨by rw[HE.out];first|rfl|(simp;done)|(simp;omega),rfl⟩
    ·have h21:¬ (s.size:Int)≤64:=by omega
     have HE:Hid (YS s=false):=Jh (by unfold YS;rw[decide_eq_false (by omega)];rfl)
     clear hall
     go_wp2_with fail
     go_ret
     exact ⟨by rw[HE.out];rfl,rfl⟩
   ·have h11:¬ (1:Int)≤(s.size:Int):=by omega
    have HE:Hid (YS s=false):=Jh (by unfold YS;rw[decide_eq_false (by omega)];rfl)
    clear hall
    go_wp2_with fail
    go_ret
    exact ⟨by rw[HE.out];rfl,rfl⟩
end Go.Proofs.YtgmdimbiipemhaaGreatDoor
namespace Go.Proofs.YtgmdimbiipemhaaGreatDoor
open Go.RowKit
theorem Sy (a b:Int) (w:World) :
  Calls Tryz.prog 132 #[.agg #[.int .i64 a,.int .i64 b]] w
   fun e w'=>e=.returned (.bool (ZS ⟨a,b⟩))∧Below w.heap.size w w':=by
 by_cases h1:1≤a
 ·by_cases h2:a≤1048576
  ·by_cases h3:0≤b
   ·by_cases h4:b<8
    ·have hr:ZS ⟨a,b⟩=true:=by simp only[ZS,decide_eq_true_eq];exact ⟨h1,h2,h3,h4⟩
     rw[hr];clear hr
     go_enter Tryz.func132,Tryz.ntmps132
     go_wp2
     go_ret
     exact ⟨rfl,(Below.refl _ _).alloc (Nat.le_refl _) _⟩
    ·have hr:ZS ⟨a,b⟩=false:=by simp only[ZS,decide_eq_false_iff_not];omega
     rw[hr];clear hr
     go_enter Tryz.func132,Tryz.ntmps132
     go_wp2
     go_ret
     exact ⟨rfl,(Below.refl _ _).alloc (Nat.le_refl _) _⟩
   ·have hr:ZS ⟨a,b⟩=false:=by simp only[ZS,decide_eq_false_iff_not];omega
    rw[hr];clear hr
    go_enter Tryz.func132,Tryz.ntmps132
    go_wp2
    go_ret
    exact ⟨rfl,(Below.refl _ _).alloc (Nat.le_refl _) _⟩
  ·have hr:ZS ⟨a,b⟩=false:=by simp only[ZS,decide_eq_false_iff_not];omega
   rw[hr];clear hr
   go_enter Tryz.func132,Tryz.ntmps132
   go_wp2
   go_ret
   exact ⟨rfl,(Below.refl _ _).alloc (Nat.le_refl _) _⟩
 ·have hr:ZS ⟨a,b⟩=false:=by simp only[ZS,decide_eq_false_iff_not];omega
  rw[hr];clear hr
  go_enter Tryz.func132,Tryz.ntmps132
  go_wp2
  go_ret
  exact ⟨rfl,(Below.refl _ _).alloc (Nat.le_refl _) _⟩
end Go.Proofs.YtgmdimbiipemhaaGreatDoor
namespace Go.Proofs.YtgmdimbiipemhaaGreatDoor
open Go.RowKit Go.Deep
theorem Z1P (s:St) (w:World):Calls Tryz.prog 133 #[.agg #[.int .i64 s.n,.int .i64 s.r]] w fun e w'=>e=.returned (.bool (decide (s=⟨0,0⟩)))∧Below w.heap.size w w':=by
 obtain ⟨a,b⟩:=s
 by_cases h1:a=0
 ·subst h1
  by_cases h2:b=0
  ·subst h2
   go_enter Tryz.func133,Tryz.ntmps133
   go_wp2
   go_ret
   exact ⟨by simp,(Below.refl _ _).alloc (Nat.le_refl _) _⟩
  ·have hd:decide ((⟨0,b⟩:St)=⟨0,0⟩)=false:=decide_eq_false (by intro e;cases e;exact h2 rfl)
   rw[hd]
   go_enter Tryz.func133,Tryz.ntmps133
   go_wp2
   go_ret
   exact ⟨by first|rfl|simp[h2],(Below.refl _ _).alloc (Nat.le_refl _) _⟩
 ·have hd:decide ((⟨a,b⟩:St)=⟨0,0⟩)=false:=decide_eq_false (by intro e;cases e;exact h1 rfl)
  rw[hd]
  go_enter Tryz.func133,Tryz.ntmps133
  go_wp2
  go_ret
  exact ⟨by first|rfl|simp[h1],(Below.refl _ _).alloc (Nat.le_refl _) _⟩
def Z80 (d0 d1 d2 d3 d4 d5 d6 d7:Int):Array Value:=#[.int .i64 d0,.int .i64 d1,.int .i64 d2,.int .i64 d3,.int .i64 d4,.int .i64 d5,.int .i64 d6,.int .i64 d7]
theorem Z6E {W:World} {B:Nat} {T:TypeId} {d0 d1 d2 d3 d4 d5 d6 d7:Int} (h:W.heap[B]?=some (.cells (Z80 d0 d1 d2 d3 d4 d5 d6 d7) T (0,0))) {k:Nat} (hk:k<8):W.cell? ⟨B,k,none⟩=some (.int .i64 ([d0,d1,d2,d3,d4,d5,d6,d7].getD k 0)):=by
 unfold World.cell?
 simp only[h]
 match k,hk with
 | 0,_=>rfl
 | 1,_=>rfl
 | 2,_=>rfl
 | 3,_=>rfl
 | 4,_=>rfl
 | 5,_=>rfl
 | 6,_=>rfl
 | 7,_=>rfl
 | n+8,h=>exact absurd h (by omega)
theorem Z2K (d0 d1 d2 d3 d4 d5 d6 d7:Int) (s:St) (w:World):Calls Tryz.prog 173 #[.agg #[.int .i64 d0,.int .i64 d1,.int .i64 d2,.int .i64 d3,.int .i64 d4,.int .i64 d5,.int .i64 d6,.int .i64 d7],.agg #[.int .i64 s.n,.int .i64 s.r]] w fun e w'=>e=.returned (.bool (V5 [d0,d1,d2,d3,d4,d5,d6,d7] s))∧Below w.heap.size w w':=by
 obtain ⟨sn,sr⟩:=s
 obtain ⟨W1,hW1⟩:=Je ((w.alloc (.cells #[.int .i64 d0,.int .i64 d1,.int .i64 d2,.int .i64 d3,.int .i64 d4,.int .i64 d5,.int .i64 d6,.int .i64 d7] 32)).alloc (.cells #[.int .i64 sn,.int .i64 sr] 62))
 have hb1:Below w.heap.size w W1:=by rw[←hW1];exact ((Below.refl _ _).alloc (Nat.le_refl _) _).alloc (by simp) _
 have hv:W1.heap[w.heap.size]?=some (.cells (Z80 d0 d1 d2 d3 d4 d5 d6 d7) 32 (0,0)):=by rw[←hW1];exact (Below.heap_alloc _ _ _ (by simp)).trans (ZK w _)
 have hs:W1.heap[w.heap.size+1]?=some (.cells #[.int .i64 sn,.int .i64 sr] 62 (0,0)):=by
  rw[←hW1]
  have:=ZK (w.alloc (.cells #[.int .i64 d0,.int .i64 d1,.int .i64 d2,.int .i64 d3,.int .i64 d4,.int .i64 d5,.int .i64 d6,.int .i64 d7] 32)) (.cells #[.int .i64 sn,.int .i64 sr] 62)
  rwa [World.size_alloc] at this
 have c0:W1.cell? ⟨w.heap.size+1,0,none⟩=some (.int .i64 sn):=by simp[World.cell?,hs]
 have c1:W1.cell? ⟨w.heap.size+1,1,none⟩=some (.int .i64 sr):=by simp[World.cell?,hs]
 have HV:=Jh (And.intro hv hb1)
 clear hv hb1 hs
 by_cases hin:0≤sr∧sr<8
 ·obtain ⟨m,rfl⟩:∃ m:Nat,sr=(m:Int):=⟨sr.toNat,by omega⟩
  have hm:m<8:=by omega
  have cv:=Z6E HV.out.1 hm
  have hhas:V5 [d0,d1,d2,d3,d4,d5,d6,d7] ⟨sn,(m:Int)⟩=decide (sn≤[d0,d1,d2,d3,d4,d5,d6,d7].getD m 0):=by
   unfold V5
   rw[decide_eq_true hin]
   rfl
  obtain ⟨q,hq⟩:=Je ([d0,d1,d2,d3,d4,d5,d6,d7].getD m 0)
  rw[hq] at cv hhas
  have HH:=Lib.hid hhas
  clear hq hhas hin
  go_enter Tryz.func173,Tryz.ntmps173
  go_wp2_with fail
  go_loopg [5] 8 (fun g kv wx=>∃ k:Nat,g=8 - k∧kv=.int .i64 k∧k≤m∧wx=W1)
  case atStart=>exact ⟨0,rfl,rfl,by omega,rfl⟩
  case round =>
   obtain ⟨k,hg,rfl,hk,rfl⟩:=hrel
   have HG:=Lib.hid hg
   clear hg
   have hk8:(k:Int)<8:=by omega
   by_cases hkm:k=m
   ·subst hkm
    have hk0:(0:Int)≤(k:Int):=by omega
    by_cases hle:sn≤q
    ·go_wp2_with fail
     go_quiet (fail)
     go_wp2_with fail
     go_ret
     exact ⟨by rw[HH.out,decide_eq_true (by omega)];first|rfl|(simp;omega),Ug HV.out.2 _⟩
    ·go_wp2_with fail
     go_quiet (fail)
     go_wp2_with fail
     go_ret
     exact ⟨by rw[HH.out,decide_eq_false (by omega)];first|rfl|(simp;omega),Ug HV.out.2 _⟩
   ·have hne:¬ (k:Int)=(m:Int):=by omega
    go_wp2_with fail
    go_roundg (8 - (k+1))
    case measure=>rw[HG.out];omega
    case rel=>exact ⟨k+1,rfl,by simp,by omega,rfl⟩
 ·have hhas:V5 [d0,d1,d2,d3,d4,d5,d6,d7] ⟨sn,sr⟩=false:=by
   unfold V5
   rw[decide_eq_false hin]
   rfl
  have HH:=Lib.hid hhas
  clear hhas
  go_enter Tryz.func173,Tryz.ntmps173
  go_wp2_with fail
  go_loopg [5] 8 (fun g kv wx=>∃ k:Nat,g=8 - k∧kv=.int .i64 k∧k≤8∧wx=W1)
  case atStart=>exact ⟨0,rfl,rfl,by omega,rfl⟩
  case round =>
   obtain ⟨k,hg,rfl,hk,rfl⟩:=hrel
   have HG:=Lib.hid hg
   clear hg
   by_cases hk8:k<8
   ·have hk1:(k:Int)<8:=by omega
    have hne:¬ (k:Int)=sr:=by omega
    go_wp2_with fail
    go_roundg (8 - (k+1))
    case measure=>rw[HG.out];omega
    case rel=>exact ⟨k+1,rfl,by simp,by omega,rfl⟩
   ·have hk1:¬ (k:Int)<8:=by omega
    go_wp2_with fail
    go_ret
    exact ⟨by rw[HH.out];rfl,HV.out.2⟩
theorem WF (o:OpD) (s:St) (nb:Bool) (w:World):Calls Tryz.prog 134 #[o.val,.agg #[.int .i64 s.n,.int .i64 s.r],.bool nb] w fun e w'=>e=.returned (.bool (nb && decide (s=⟨0,0⟩) || o.may s))∧Below w.heap.size w w':=by
 unfold OpD.val
 obtain ⟨W1,hW1⟩:=Je ((w.alloc (.cells o.cells.toArray 68)).alloc (.cells #[.int .i64 s.n,.int .i64 s.r] 62))
 have hb1:Below w.heap.size w W1:=by rw[←hW1];exact ((Below.refl _ _).alloc (Nat.le_refl _) _).alloc (by simp) _
 have ho:OB w.heap.size o W1:=by rw[←hW1];exact (OB.new w o).alloc _
 have hs:W1.heap[w.heap.size+1]?=some (.cells #[.int .i64 s.n,.int .i64 s.r] 62 (0,0)):=by
  rw[←hW1]
  have:=ZK (w.alloc (.cells o.cells.toArray 68)) (.cells #[.int .i64 s.n,.int .i64 s.r] 62)
  rwa [World.size_alloc] at this
 have c0:W1.cell? ⟨w.heap.size+1,0,none⟩=some (.int .i64 s.n):=by simp[World.cell?,hs]
 have c1:W1.cell? ⟨w.heap.size+1,1,none⟩=some (.int .i64 s.r):=by simp[World.cell?,hs]
 have HV:=Jh (And.intro ho (And.intro hs hb1))
 clear ho hs hb1
 cases nb
 case false =>
  go_enter Tryz.func134,Tryz.ntmps134
  go_wp2_with fail
  refine (Sy s.n s.r _).mono ?_
  rintro e w2 ⟨rfl,b2⟩
  clear c0 c1
  simp only[show (⟨s.n,s.r⟩:St)=s from rfl]
  have HV2:Hid (OB w.heap.size o w2∧w2.heap[w.heap.size+1]?=some (.cells #[.int .i64 s.n,.int .i64 s.r] 62 (0,0))∧Below w.heap.size w w2):=Lib.hid ⟨HV.out.1.below b2 HV.out.1.lt,(b2.block _ (Array.getElem?_eq_some_iff.1 HV.out.2.1).1).trans HV.out.2.1,HV.out.2.2.trans (b2.mono HV.out.2.2.size)⟩
  clear b2
  cases hr:ZS s with
  | false =>
   have hm:o.may s=false:=by unfold OpD.may;rw[hr];rfl
   have HM:=Lib.hid hm
   clear hm hr
   go_wp2_with fail
   go_ret
   exact ⟨by rw[HM.out];simp,HV2.out.2.2⟩
  | true =>
   have hm:o.may s=V5 o.deps s:=by unfold OpD.may;rw[hr];rfl
   have HM:=Lib.hid hm
   clear hm hr
   have k0:w2.cell? ⟨w.heap.size+1,0,none⟩=some (.int .i64 s.n):=by simp[World.cell?,HV2.out.2.1]
   have k1:w2.cell? ⟨w.heap.size+1,1,none⟩=some (.int .i64 s.r):=by simp[World.cell?,HV2.out.2.1]
   have e0:w2.cell? ⟨w.heap.size,2,none⟩=some (.int .i64 o.d0):=HV2.out.1.cell rfl
   have e1:w2.cell? ⟨w.heap.size,3,none⟩=some (.int .i64 o.d1):=HV2.out.1.cell rfl
   have e2:w2.cell? ⟨w.heap.size,4,none⟩=some (.int .i64 o.d2):=HV2.out.1.cell rfl
   have e3:w2.cell? ⟨w.heap.size,5,none⟩=some (.int .i64 o.d3):=HV2.out.1.cell rfl
   have e4:w2.cell? ⟨w.heap.size,6,none⟩=some (.int .i64 o.d4):=HV2.out.1.cell rfl
   have e5:w2.cell? ⟨w.heap.size,7,none⟩=some (.int .i64 o.d5):=HV2.out.1.cell rfl
   have e6:w2.cell? ⟨w.heap.size,8,none⟩=some (.int .i64 o.d6):=HV2.out.1.cell rfl
   have e7:w2.cell? ⟨w.heap.size,9,none⟩=some (.int .i64 o.d7):=HV2.out.1.cell rfl
   go_wp2_with fail
   refine (Z2K o.d0 o.d1 o.d2 o.d3 o.d4 o.d5 o.d6 o.d7 s _).mono ?_
   rintro e w9 ⟨rfl,b9⟩
   have HZ:=Jh (HV2.out.2.2.trans (b9.mono HV2.out.2.2.size))
   clear b9 k0 k1 e0 e1 e2 e3 e4 e5 e6 e7
   have HMM:Hid (o.may s=V5 [o.d0,o.d1,o.d2,o.d3,o.d4,o.d5,o.d6,o.d7] s):=Lib.hid HM.out
   generalize V5 [o.d0,o.d1,o.d2,o.d3,o.d4,o.d5,o.d6,o.d7] s=hv at HMM ⊢
   go_wp2_with fail
   go_ret
   exact ⟨by rw[HMM.out];simp,HZ.out⟩
 case true =>
  go_enter Tryz.func134,Tryz.ntmps134
  go_wp2_with fail
  refine (Sy s.n s.r _).mono ?_
  rintro e w2 ⟨rfl,b2⟩
  clear c0 c1
  simp only[show (⟨s.n,s.r⟩:St)=s from rfl]
  have HV2:Hid (OB w.heap.size o w2∧w2.heap[w.heap.size+1]?=some (.cells #[.int .i64 s.n,.int .i64 s.r] 62 (0,0))∧Below w.heap.size w w2):=Lib.hid ⟨HV.out.1.below b2 HV.out.1.lt,(b2.block _ (Array.getElem?_eq_some_iff.1 HV.out.2.1).1).trans HV.out.2.1,HV.out.2.2.trans (b2.mono HV.out.2.2.size)⟩
  clear b2
  have k0:w2.cell? ⟨w.heap.size+1,0,none⟩=some (.int .i64 s.n):=by simp[World.cell?,HV2.out.2.1]
  have k1:w2.cell? ⟨w.heap.size+1,1,none⟩=some (.int .i64 s.r):=by simp[World.cell?,HV2.out.2.1]
  go_wp2_with fail
  refine (Z1P s _).mono ?_
  rintro e w3 ⟨rfl,b3⟩
  clear k0 k1
  have HV3:Hid (OB w.heap.size o w3∧w3.heap[w.heap.size+1]?=some (.cells #[.int .i64 s.n,.int .i64 s.r] 62 (0,0))∧Below w.heap.size w w3):=Lib.hid ⟨HV2.out.1.below b3 HV2.out.1.lt,(b3.block _ (Array.getElem?_eq_some_iff.1 HV2.out.2.1).1).trans HV2.out.2.1,HV2.out.2.2.trans (b3.mono HV2.out.2.2.size)⟩
  clear b3
  by_cases hz:s=⟨0,0⟩
  ·have HZ:=Lib.hid hz
   rw[decide_eq_true hz]
   clear hz
   go_wp2_with fail
   go_ret
   exact ⟨by rw[decide_eq_true HZ.out];first|rfl|simp,HV3.out.2.2⟩
  ·have HZ0:=Lib.hid hz
   rw[decide_eq_false hz]
   clear hz
   cases hr:ZS s with
   | false =>
    have hm:o.may s=false:=by unfold OpD.may;rw[hr];rfl
    have HM:=Lib.hid hm
    clear hm hr
    go_wp2_with fail
    go_ret
    exact ⟨by rw[HM.out];rw[decide_eq_false HZ0.out];simp,HV3.out.2.2⟩
   | true =>
    have hm:o.may s=V5 o.deps s:=by unfold OpD.may;rw[hr];rfl
    have HM:=Lib.hid hm
    clear hm hr
    have k0:w3.cell? ⟨w.heap.size+1,0,none⟩=some (.int .i64 s.n):=by simp[World.cell?,HV3.out.2.1]
    have k1:w3.cell? ⟨w.heap.size+1,1,none⟩=some (.int .i64 s.r):=by simp[World.cell?,HV3.out.2.1]
    have e0:w3.cell? ⟨w.heap.size,2,none⟩=some (.int .i64 o.d0):=HV3.out.1.cell rfl
    have e1:w3.cell? ⟨w.heap.size,3,none⟩=some (.int .i64 o.d1):=HV3.out.1.cell rfl
    have e2:w3.cell? ⟨w.heap.size,4,none⟩=some (.int .i64 o.d2):=HV3.out.1.cell rfl
    have e3:w3.cell? ⟨w.heap.size,5,none⟩=some (.int .i64 o.d3):=HV3.out.1.cell rfl
    have e4:w3.cell? ⟨w.heap.size,6,none⟩=some (.int .i64 o.d4):=HV3.out.1.cell rfl
    have e5:w3.cell? ⟨w.heap.size,7,none⟩=some (.int .i64 o.d5):=HV3.out.1.cell rfl
    have e6:w3.cell? ⟨w.heap.size,8,none⟩=some (.int .i64 o.d6):=HV3.out.1.cell rfl
    have e7:w3.cell? ⟨w.heap.size,9,none⟩=some (.int .i64 o.d7):=HV3.out.1.cell rfl
    go_wp2_with fail
    refine (Z2K o.d0 o.d1 o.d2 o.d3 o.d4 o.d5 o.d6 o.d7 s _).mono ?_
    rintro e w9 ⟨rfl,b9⟩
    have HZ:=Jh (HV3.out.2.2.trans (b9.mono HV3.out.2.2.size))
    clear b9 k0 k1 e0 e1 e2 e3 e4 e5 e6 e7
    have HMM:Hid (o.may s=V5 [o.d0,o.d1,o.d2,o.d3,o.d4,o.d5,o.d6,o.d7] s):=Lib.hid HM.out
    generalize V5 [o.d0,o.d1,o.d2,o.d3,o.d4,o.d5,o.d6,o.d7] s=hv at HMM ⊢
    go_wp2_with fail
    go_ret
    exact ⟨by rw[HMM.out];rw[decide_eq_false HZ0.out];simp,HZ.out⟩
end Go.Proofs.YtgmdimbiipemhaaGreatDoor
