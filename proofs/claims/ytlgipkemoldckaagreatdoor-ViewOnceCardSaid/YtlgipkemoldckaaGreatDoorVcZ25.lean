/- VAll20, part 25 of what the proof leans on (made short by a program). -/
import Derived.Test.YtlgipkemoldckaaGreatDoorVcZ24
set_option linter.unusedSimpArgs false
set_option linter.unusedVariables false
set_option linter.unusedSectionVars false
set_option maxRecDepth 20000
set_option maxHeartbeats 30000000
namespace Go.Proofs.YtlgipkemoldckaaGreatDoor
open Go.RowKit
theorem Z1a {l:List El} {mv:List RMv} {ws:List Z8} {ms:List OpD} {A D:List Ch} {n1 n2 n3 N:Nat} (ok:Sq l n1 n2 n3) (hA:Zh (ZC (Zt mv)) A) {i k:Nat} {s t:St} (hik:i<k) (hi:(YS l mv ws ms A N).ids[i]?=some s) (hk:(YS l mv ws ms A N).ids[k]?=some t) {c d:Ch} (hc:ZC (Zt mv) s=some c) (hd:ZC (Zt mv) t=some d) (hu:c.under=d.under):Y5 c d:=by
 have hlv:∀ s,(ZD l ms (XK (Zq ws).1) (ZC (Zt mv)) A).live s=true→s≠⟨0,0⟩:=fun s hs=>by
  obtain ⟨x,hx,_,rfl⟩:=Xn.1 hs
  exact Vu (ok.right x hx)
 have he:(YS l mv ws ms A N).ids=(ZD l ms (XK (Zq ws).1) (ZC (Zt mv)) A).ids N ⟨0,0⟩:=Vw.ids_tree _ hlv _ _
 rw[he] at hi hk
 have e0:ZJ (ZD l ms (XK (Zq ws).1) (ZC (Zt mv)) A).H 0 ⟨0,0⟩:=Y7 (XB mv)
 have hp:=Vw.ids_kids (V:=ZD l ms (XK (Zq ws).1) (ZC (Zt mv)) A) (n:=N) e0
 rw[List.pairwise_iff_getElem] at hp
 obtain ⟨h1,h2⟩:=List.getElem?_eq_some_iff.1 hi
 obtain ⟨h3,h4⟩:=List.getElem?_eq_some_iff.1 hk
 have:=hp i k h1 h3 hik c d
 rw[h2,h4] at this
 exact this (YR hc) (YR hd) (Y2 _ _ _ hc) (Y2 _ _ _ hd) hu
theorem Z0U (v:Value) (l:List El) (mv:List RMv) (ws:List Z8) (ms:List OpD) (w:World) (hm:SA w v l mv ws ms) (ht:Xe w) :
  Calls Tryz.prog 8 #[v] w fun e w'=>e=.returned (.bool true)∧Below w.heap.size w w':=by
 obtain ⟨⟨a0,n0,c0⟩,⟨a1,n1,c1⟩,⟨a2,n2,c2⟩,⟨a3,n3,c3⟩,rfl,h0,h1,h2,h3⟩:=hm.ex
 simp only at h0 h1 h2 h3
 have e0:=h0.len
 have e1:=h1.len
 have e2:=h2.len
 have e3:=h3.len
 have hB0:Below w.heap.size w (w.alloc (.cells #[.slice a0 n0 c0,.slice a1 n1 c1,.slice a2 n2 c2,.slice a3 n3 c3] 39)):=(Below.refl _ _).alloc (Nat.le_refl _) _
 have hz1:(w.alloc (.cells #[.slice a0 n0 c0,.slice a1 n1 c1,.slice a2 n2 c2,.slice a3 n3 c3] 39)).heap.size=w.heap.size+1:=by simp
 have x0:(w.alloc (.cells #[.slice a0 n0 c0,.slice a1 n1 c1,.slice a2 n2 c2,.slice a3 n3 c3] 39)).cell? ⟨w.heap.size,0,none⟩=some (.slice a0 n0 c0):=by go_simp
 have x1:(w.alloc (.cells #[.slice a0 n0 c0,.slice a1 n1 c1,.slice a2 n2 c2,.slice a3 n3 c3] 39)).cell? ⟨w.heap.size,1,none⟩=some (.slice a1 n1 c1):=by go_simp
 have x2:(w.alloc (.cells #[.slice a0 n0 c0,.slice a1 n1 c1,.slice a2 n2 c2,.slice a3 n3 c3] 39)).cell? ⟨w.heap.size,2,none⟩=some (.slice a2 n2 c2):=by go_simp
 have x3:(w.alloc (.cells #[.slice a0 n0 c0,.slice a1 n1 c1,.slice a2 n2 c2,.slice a3 n3 c3] 39)).cell? ⟨w.heap.size,3,none⟩=some (.slice a3 n3 c3):=by go_simp
 have HIN:=Jh (And.intro h0 (And.intro h1 (And.intro h2 h3)))
 have HLN:=Jh (And.intro e0 (And.intro e1 (And.intro e2 e3)))
 have HB0:=Lib.hid hB0
 have HT:=Lib.hid ht
 have HZ1:=Lib.hid hz1
 have HASK:=Jh (Tk a0 a1 a2 a3 n0 n1 n2 n3 c0 c1 c2 c3 l (w.alloc (.cells #[.slice a0 n0 c0,.slice a1 n1 c1,.slice a2 n2 c2,.slice a3 n3 c3] 39)) (h0.below hB0) (by omega) (by omega) (by omega))
 have HAL:Hid (∀ W,Below w.heap.size w W→Calls Tryz.prog 11 #[] W fun e w'=>e=.returned (.bool true)∧Below W.heap.size W w'):=Jh (fun W hW=>T2 W (ht.below hW))
 clear h0 h1 h2 h3 e0 e1 e2 e3 hB0 hz1 ht hm
 go_enter Tryz.func8,Tryz.ntmps8
 go_upto_region 1 with fail
 generalize (w.alloc (.cells #[.slice a0 n0 c0,.slice a1 n1 c1,.slice a2 n2 c2,.slice a3 n3 c3] 39))=w1 at *
 go_wp2_with fail
 refine HASK.out.mono ?_
 rintro e w2 ⟨r,rfl,hr,b2⟩
 have HB2:=Jh (HB0.out.trans (b2.mono HB0.out.size))
 have HR:=Lib.hid hr
 replace x0:=Z0 b2 x0
 replace x1:=Z0 b2 x1
 replace x2:=Z0 b2 x2
 replace x3:=Z0 b2 x3
 clear hr HASK b2
 cases r with
 | false =>
  go_wp2_with fail
  refine (HAL.out w2 HB2.out).mono ?_
  rintro e w3 ⟨rfl,b3⟩
  have HB3:=Jh (HB2.out.trans (b3.mono HB2.out.size))
  clear b3
  go_wp2_with fail
  go_ret
  exact ⟨rfl,HB3.out⟩
 | true =>
  have HOK:=Jh (HR.out rfl)
  have HLE:Hid (l.length≤60∧mv.length≤60∧ws.length≤60∧ms.length≤30):=Lib.hid ⟨HOK.out.el,by rw[←HLN.out.2.1.1];exact HOK.out.mv,by rw[←HLN.out.2.2.1.1];exact HOK.out.ws,by rw[←HLN.out.2.2.2.1];exact HOK.out.ms⟩
  have HBU:=Jh (T1 a0 a1 a2 a3 n0 n1 n2 n3 c0 c1 c2 c3 l mv ws ms w2 (HIN.out.1.below HB2.out) (HIN.out.2.1.below HB2.out) (HIN.out.2.2.1.below HB2.out) (HIN.out.2.2.2.below HB2.out) HLE.out.1 HOK.out.unlike HLE.out.2.1 HLE.out.2.2.1 HLE.out.2.2.2)
  go_wp2_with fail
  refine HBU.out.mono ?_
  rintro e w3 ⟨A,D,N,⟨⟨xn,xr⟩,xk,⟨xa,xb,xc⟩,⟨xd,xe,xf⟩,⟨xg,xh,xi⟩⟩,⟨⟨yn,yr⟩,yk,⟨ya,yb,yc⟩,⟨yd,ye,yf⟩,⟨yg,yh,yi⟩⟩,rfl,hA,hD,hN,hx,hy,b3⟩
  simp only[NdV.val]
  have hz3:=b3.size
  replace x0:=Z1 (Z1 (Z0 b3 x0) (.cells #[.int .i64 xn,.int .i64 xr,.string xk,.slice xa xb xc,.slice xd xe xf,.slice xg xh xi] 28)) (.cells #[.int .i64 yn,.int .i64 yr,.string yk,.slice ya yb yc,.slice yd ye yf,.slice yg yh yi] 28)
  replace x1:=Z1 (Z1 (Z0 b3 x1) (.cells #[.int .i64 xn,.int .i64 xr,.string xk,.slice xa xb xc,.slice xd xe xf,.slice xg xh xi] 28)) (.cells #[.int .i64 yn,.int .i64 yr,.string yk,.slice ya yb yc,.slice yd ye yf,.slice yg yh yi] 28)
  replace x2:=Z1 (Z1 (Z0 b3 x2) (.cells #[.int .i64 xn,.int .i64 xr,.string xk,.slice xa xb xc,.slice xd xe xf,.slice xg xh xi] 28)) (.cells #[.int .i64 yn,.int .i64 yr,.string yk,.slice ya yb yc,.slice yd ye yf,.slice yg yh yi] 28)
  replace x3:=Z1 (Z1 (Z0 b3 x3) (.cells #[.int .i64 xn,.int .i64 xr,.string xk,.slice xa xb xc,.slice xd xe xf,.slice xg xh xi] 28)) (.cells #[.int .i64 yn,.int .i64 yr,.string yk,.slice ya yb yc,.slice yd ye yf,.slice yg yh yi] 28)
  have p0:((w3.alloc (.cells #[.int .i64 xn,.int .i64 xr,.string xk,.slice xa xb xc,.slice xd xe xf,.slice xg xh xi] 28)).alloc (.cells #[.int .i64 yn,.int .i64 yr,.string yk,.slice ya yb yc,.slice yd ye yf,.slice yg yh yi] 28)).cell? ⟨w3.heap.size,0,none⟩=some (.int .i64 xn):=by go_simp
  have q0:((w3.alloc (.cells #[.int .i64 xn,.int .i64 xr,.string xk,.slice xa xb xc,.slice xd xe xf,.slice xg xh xi] 28)).alloc (.cells #[.int .i64 yn,.int .i64 yr,.string yk,.slice ya yb yc,.slice yd ye yf,.slice yg yh yi] 28)).cell? ⟨w3.heap.size+1,0,none⟩=some (.int .i64 yn):=by go_simp
  have p1:((w3.alloc (.cells #[.int .i64 xn,.int .i64 xr,.string xk,.slice xa xb xc,.slice xd xe xf,.slice xg xh xi] 28)).alloc (.cells #[.int .i64 yn,.int .i64 yr,.string yk,.slice ya yb yc,.slice yd ye yf,.slice yg yh yi] 28)).cell? ⟨w3.heap.size,1,none⟩=some (.int .i64 xr):=by go_simp
  have q1:((w3.alloc (.cells #[.int .i64 xn,.int .i64 xr,.string xk,.slice xa xb xc,.slice xd xe xf,.slice xg xh xi] 28)).alloc (.cells #[.int .i64 yn,.int .i64 yr,.string yk,.slice ya yb yc,.slice yd ye yf,.slice yg yh yi] 28)).cell? ⟨w3.heap.size+1,1,none⟩=some (.int .i64 yr):=by go_simp
  have p2:((w3.alloc (.cells #[.int .i64 xn,.int .i64 xr,.string xk,.slice xa xb xc,.slice xd xe xf,.slice xg xh xi] 28)).alloc (.cells #[.int .i64 yn,.int .i64 yr,.string yk,.slice ya yb yc,.slice yd ye yf,.slice yg yh yi] 28)).cell? ⟨w3.heap.size,2,none⟩=some (.string xk):=by go_simp
  have q2:((w3.alloc (.cells #[.int .i64 xn,.int .i64 xr,.string xk,.slice xa xb xc,.slice xd xe xf,.slice xg xh xi] 28)).alloc (.cells #[.int .i64 yn,.int .i64 yr,.string yk,.slice ya yb yc,.slice yd ye yf,.slice yg yh yi] 28)).cell? ⟨w3.heap.size+1,2,none⟩=some (.string yk):=by go_simp
  have p3:((w3.alloc (.cells #[.int .i64 xn,.int .i64 xr,.string xk,.slice xa xb xc,.slice xd xe xf,.slice xg xh xi] 28)).alloc (.cells #[.int .i64 yn,.int .i64 yr,.string yk,.slice ya yb yc,.slice yd ye yf,.slice yg yh yi] 28)).cell? ⟨w3.heap.size,3,none⟩=some (.slice xa xb xc):=by go_simp
  have q3:((w3.alloc (.cells #[.int .i64 xn,.int .i64 xr,.string xk,.slice xa xb xc,.slice xd xe xf,.slice xg xh xi] 28)).alloc (.cells #[.int .i64 yn,.int .i64 yr,.string yk,.slice ya yb yc,.slice yd ye yf,.slice yg yh yi] 28)).cell? ⟨w3.heap.size+1,3,none⟩=some (.slice ya yb yc):=by go_simp
  have p4:((w3.alloc (.cells #[.int .i64 xn,.int .i64 xr,.string xk,.slice xa xb xc,.slice xd xe xf,.slice xg xh xi] 28)).alloc (.cells #[.int .i64 yn,.int .i64 yr,.string yk,.slice ya yb yc,.slice yd ye yf,.slice yg yh yi] 28)).cell? ⟨w3.heap.size,4,none⟩=some (.slice xd xe xf):=by go_simp
  have q4:((w3.alloc (.cells #[.int .i64 xn,.int .i64 xr,.string xk,.slice xa xb xc,.slice xd xe xf,.slice xg xh xi] 28)).alloc (.cells #[.int .i64 yn,.int .i64 yr,.string yk,.slice ya yb yc,.slice yd ye yf,.slice yg yh yi] 28)).cell? ⟨w3.heap.size+1,4,none⟩=some (.slice yd ye yf):=by go_simp
  have p5:((w3.alloc (.cells #[.int .i64 xn,.int .i64 xr,.string xk,.slice xa xb xc,.slice xd xe xf,.slice xg xh xi] 28)).alloc (.cells #[.int .i64 yn,.int .i64 yr,.string yk,.slice ya yb yc,.slice yd ye yf,.slice yg yh yi] 28)).cell? ⟨w3.heap.size,5,none⟩=some (.slice xg xh xi):=by go_simp
  have q5:((w3.alloc (.cells #[.int .i64 xn,.int .i64 xr,.string xk,.slice xa xb xc,.slice xd xe xf,.slice xg xh xi] 28)).alloc (.cells #[.int .i64 yn,.int .i64 yr,.string yk,.slice ya yb yc,.slice yd ye yf,.slice yg yh yi] 28)).cell? ⟨w3.heap.size+1,5,none⟩=some (.slice yg yh yi):=by go_simp
  have hb4:Below w3.heap.size w3 ((w3.alloc (.cells #[.int .i64 xn,.int .i64 xr,.string xk,.slice xa xb xc,.slice xd xe xf,.slice xg xh xi] 28)).alloc (.cells #[.int .i64 yn,.int .i64 yr,.string yk,.slice ya yb yc,.slice yd ye yf,.slice yg yh yi] 28)):=((Below.refl _ _).alloc (Nat.le_refl _) _).alloc (by simp) _
  have HB4:=Jh ((HB2.out.trans (b3.mono HB2.out.size)).trans (hb4.mono (by have:=HB2.out.size;omega)))
  have HX:=Jh (hx.belowW hb4)
  have HY:=Jh (hy.belowW hb4)
  have HTR:=Jh (And.intro hA (And.intro hD hN))
  skip
  clear b3 hb4 hx hy hA hD hN hz3 HBU
  go_upto_region 5 with fail
  generalize ((w3.alloc (.cells #[.int .i64 xn,.int .i64 xr,.string xk,.slice xa xb xc,.slice xd xe xf,.slice xg xh xi] 28)).alloc (.cells #[.int .i64 yn,.int .i64 yr,.string yk,.slice ya yb yc,.slice yd ye yf,.slice yg yh yi] 28))=w4 at *
  have HFT:=Jh (U4 (ws:=ws) (ms:=ms) HOK.out HTR.out.1 HTR.out.2.1 HTR.out.2.2)
  have HOR:Hid (∀ i k s t c d,i<k→(YS l mv ws ms A N).ids[i]?=some s→(YS l mv ws ms A N).ids[k]?=some t→ZC (Zt mv) s=some c→ZC (Zt mv) t=some d→c.under=d.under→Y5 c d):=Jh (fun i k s t c d h1 h2 h3 h4 h5 h6=>Z1a (D:=D) HOK.out HTR.out.1 h1 h2 h3 h4 h5 h6)
  obtain ⟨TT,hTT⟩:=Je (YS l mv ws ms A N)
  rw[hTT] at HX HFT HOR
  have HAA:=Lib.hid HTR.out.1
  clear hTT HY HTR q0 q1 q2 q3 q4 q5
  have hil:TT.ids.length≤60:=by rw[HFT.out.1.length_eq,List.length_map];exact Nat.le_trans (List.length_filter_le _ _) HLE.out.1
  have HST:=Jh (S5 TT _ ⟨⟨xn,xr⟩,xk,⟨xa,xb,xc⟩,⟨xd,xe,xf⟩,⟨xg,xh,xi⟩⟩ w4 HX.out (by omega))
  simp only[NdV.val] at HST
  have HIL:=Lib.hid hil
  clear hil
  go_wp2_with fail
  refine HST.out.mono ?_
  rintro e w5 ⟨v5,rfl,ho5,b5⟩
  obtain ⟨a5,c5,rfl,-,-,-⟩:=ho5.slice (fun _=>rfl)
  have HI5:=Jh (ho5.slice (fun _=>rfl))
  have HB5:=Jh (HB4.out.trans (b5.mono HB4.out.size))
  replace x0:=Z0 b5 x0
  replace x1:=Z0 b5 x1
  replace x2:=Z0 b5 x2
  replace x3:=Z0 b5 x3
  generalize hI:TT.ids=I at *
  clear hI ho5 HST HX p0 p1 p2 p3 p4 p5 HFT
  obtain ⟨il,hil⟩:=Je (I.length)
  have HIN2:=Lib.hid hil
  have hil60:il≤60:=by rw[←hil];exact HIL.out
  have HIX:Hid (Z4 St.cells 2 w5 (.slice a5 il c5) I):=Jh (by rw[←hil];exact HI5.out)
  rw[hil]
  clear hil HI5 b5
  have HHG:=Jh (S0 a0 a1 a2 a3 n0 n1 n2 n3 c0 c1 c2 c3 mv w5 (HIN.out.2.1.below HB5.out) HLE.out.2.1)
  go_wp2_with fail
  refine HHG.out.mono ?_
  rintro e w6 ⟨v6,A6,rfl,ho6,hA6,b6⟩
  obtain rfl:A6=A:=hA6.unique HAA.out
  obtain ⟨a6,c6,rfl,-,-,-⟩:=ho6.slice (fun _=>rfl)
  have HB6:=Jh (HB5.out.trans (b6.mono HB5.out.size))
  have HA6:=Jh (ho6.slice (fun _=>rfl))
  have HI6:=Jh (HIX.out.below b6)
  have hal:A6.length≤60:=by have:=Tq hA6;have:=VV mv;have:=HLE.out.2.1;omega
  clear ho6 hA6 b6 HHG HIX x0 x1 x2 x3
  go_wp2_with fail
  go_loopg [8] il (fun g iv wr=>∃ i:Nat,g=il - i∧i≤il∧iv=.int .i64 i∧Hid (Below w6.heap.size w6 wr))
  case atStart=>exact ⟨0,by omega,Nat.zero_le _,rfl,Jh (Below.refl _ _)⟩
  case round =>
   obtain ⟨i,hg,hi,rfl,HB⟩:=hrel
   have HG:=Lib.hid hg
   clear hg
   have HBW:=Jh (HB6.out.trans (HB.out.mono HB6.out.size))
   by_cases hil:i<il
   ·obtain ⟨⟨sn,sr⟩,hs⟩:∃ x,I[i]?=some x:=⟨_,List.getElem?_eq_getElem (by have:=HIN2.out;omega)⟩
    obtain ⟨b7,o7,c7,e7,hcs7⟩:=(HI6.out.below HB.out).scells (by intro e;rw[e] at hs;simp at hs)
    injection e7 with e7 e8 e9
    clear e8 e9
    subst e7
    obtain ⟨z0,z1⟩:=hcs7 i _ hs
    try simp only at z0 z1
    have HS:=Lib.hid hs
    clear hs hcs7
    have hii:(i:Int)<(il:Int):=by omega
    go_wp2_with fail
    obtain ⟨wo,hwo⟩:∃ wo,wo=wr:=⟨_,rfl⟩
    subst hwo
    go_loopg [9] (il - (i+1)) (fun g kv wr=>∃ k:Nat,g=il - k∧i<k∧k≤il∧kv=.int .i64 k∧Hid (Below wo.heap.size wo wr))
    case atStart=>exact ⟨i+1,rfl,by omega,by omega,by go_num,Jh (Below.refl _ _)⟩
    case round =>
     obtain ⟨k,hg2,hik,hk,rfl,HB2⟩:=hrel
     have HG2:=Lib.hid hg2
     clear hg2
     replace z0:=Z0 HB2.out z0
     replace z1:=Z0 HB2.out z1
     have HBB:=Jh (HB.out.trans (HB2.out.mono HB.out.size))
     by_cases hkl:k<il
     ·obtain ⟨⟨tn,tr⟩,ht⟩:∃ x,I[k]?=some x:=⟨_,List.getElem?_eq_getElem (by have:=HIN2.out;omega)⟩
      obtain ⟨b8,o8,c8,e8,hcs8⟩:=(HI6.out.below HBB.out).scells (by intro e;rw[e] at ht;simp at ht)
      injection e8 with e8 e9 e10
      injection e8 with e8
      injection e8 with e11 e12
      subst e11
      subst e12
      clear e9 e10
      obtain ⟨y0,y1⟩:=hcs8 k _ ht
      try simp only at y0 y1
      have HT2:=Lib.hid ht
      clear ht hcs8
      have hkk:(k:Int)<(il:Int):=by omega
      have HF1:=Jh (WH (.slice a6 A6.length c6) A6 sn sr wr (HA6.out.below HBB.out) (by omega))
      go_wp2_with fail
      refine HF1.out.mono ?_
      rintro e w7 ⟨rfl,b7⟩
      replace z0:=Z0 b7 z0
      replace z1:=Z0 b7 z1
      replace y0:=Z0 b7 y0
      replace y1:=Z0 b7 y1
      have HB7:=Jh (HBB.out.trans (b7.mono HBB.out.size))
      have HO7:=Jh (HB2.out.trans (b7.mono HB2.out.size))
      clear b7
      have HF2:=Jh (WH (.slice a6 A6.length c6) A6 tn tr w7 (HA6.out.below HB7.out) (by omega))
      go_upto_region 14 with fail
      go_wp2_with fail
      refine HF2.out.mono ?_
      rintro e w8 ⟨rfl,b8⟩
      replace z0:=Z0 b8 z0
      replace z1:=Z0 b8 z1
      replace y0:=Z0 b8 y0
      replace y1:=Z0 b8 y1
      have HB8:=Jh (HB7.out.trans (b8.mono HB7.out.size))
      have HO8:=Jh (HO7.out.trans (b8.mono HO7.out.size))
      clear b8
      have HD:Hid (∀ q,Below wo.heap.size wo (w8.drewN q)):=Jh (fun q=>below_drewN HO8.out q)
      rcases HAA.out.find (Y2 _) (b:=⟨sn,sr⟩) with ⟨hf,-⟩|⟨ia,ca,hf,hca,hsa,hba⟩
      ·have hfi:ZT A6 ⟨sn,sr⟩=-1:=by unfold ZT;rw[hf]
       rw[hfi]
       clear hf hfi
       go_upto_region 15 with fail
       go_quiet (fail)
       go_wp2_with fail
       go_roundg (il - (k+1))
       case measure=>rw[HG2.out];omega
       case rel=>exact ⟨k+1,rfl,by omega,hkl,by go_num,Jh (HD.out _)⟩
      ·have hfi:ZT A6 ⟨sn,sr⟩=(ia:Int):=by unfold ZT;rw[hf]
       rw[hfi]
       clear hf hfi
       have hia:=(List.getElem?_eq_some_iff.1 hca).1
       have hi0:¬ ((ia:Int)<0):=by omega
       have HCA:=Jh (And.intro hca (And.intro hsa hba))
       clear hca hsa hba
       rcases HAA.out.find (Y2 _) (b:=⟨tn,tr⟩) with ⟨hf,-⟩|⟨ib,cb,hf,hcb,hsb,hbb⟩
       ·have hfi:ZT A6 ⟨tn,tr⟩=-1:=by unfold ZT;rw[hf]
        rw[hfi]
        clear hf hfi
        go_upto_region 15 with fail
        have hS0:(fun W:World=>True) w8.drew:=trivial
        refine Ze (fun W:World=>True) (fun _=>false) (by kernel_rfl) ?_
        refine J0 0 52 _ hS0 ?_
        try simp only[Ja]
        refine J0 1 53 _ hS0 ?_
        try simp only[Ja]
        refine J0 2 54 _ hS0 ?_
        try simp only[Ja]
        refine J0 3 55 _ hS0 ?_
        try simp only[Ja]
        refine J0 4 56 _ hS0 ?_
        try simp only[Ja]
        refine J0 5 57 _ hS0 ?_
        try simp only[Ja]
        refine J0 6 58 _ hS0 ?_
        try simp only[Ja]
        refine JO 7 59 rfl rfl hS0 ?_
        try simp only[Ja]
        refine JO 8 60 rfl rfl hS0 ?_
        try simp only[Ja]
        refine JO 9 61 rfl rfl hS0 ?_
        try simp only[Ja]
        refine JO 10 62 rfl rfl hS0 ?_
        try simp only[Ja]
        refine JO 11 63 rfl rfl hS0 ?_
        try simp only[Ja]
        refine JO 12 64 rfl rfl hS0 ?_
        try simp only[Ja]
        refine JO 13 65 rfl rfl hS0 ?_
        try simp only[Ja]
        refine JO 14 66 rfl rfl hS0 ?_
        try simp only[Ja]
        refine JO 15 67 rfl rfl hS0 ?_
        try simp only[Ja]
        refine JO 16 68 rfl rfl hS0 ?_
        try simp only[Ja]
        refine JO 17 69 rfl rfl hS0 ?_
        try simp only[Ja]
        refine J0 18 70 _ hS0 ?_
        try simp only[Ja]
        refine Zc (by kernel_rfl) ?_ _
        clear hS0
        go_wp2_with fail
        go_roundg (il - (k+1))
        case measure=>rw[HG2.out];omega
        case rel=>exact ⟨k+1,rfl,by omega,hkl,by go_num,Jh (HD.out 1)⟩
       ·have hfi:ZT A6 ⟨tn,tr⟩=(ib:Int):=by unfold ZT;rw[hf]
        rw[hfi]
        clear hf hfi
        have hib:=(List.getElem?_eq_some_iff.1 hcb).1
        have hj0:¬ ((ib:Int)<0):=by omega
        obtain ⟨hca,hsa,hba⟩:=HCA.out
        obtain ⟨b9,o9,c9,e9,hd9⟩:=(HA6.out.below HB8.out).dcells (by intro e;rw[e] at hia;simp at hia)
        injection e9 with e9 e10 e11
        clear e10 e11
        subst e9
        obtain ⟨-,-,d2,d3,d4⟩:=hd9 ia _ hca
        obtain ⟨-,-,f2,f3,f4⟩:=hd9 ib _ hcb
        have hi1:(0:Int)≤(ia:Int):=by omega
        have hi2:(ia:Int)<(A6.length:Int):=by omega
        have hj1:(0:Int)≤(ib:Int):=by omega
        have hj2:(ib:Int)<(A6.length:Int):=by omega
        obtain ⟨⟨can,car⟩,⟨un,ur⟩,ck⟩:=ca
        obtain ⟨⟨cbn,cbr⟩,⟨vn,vr⟩,dk⟩:=cb
        simp only at d2 d3 d4 f2 f3 f4 hba hbb
        have HKL:Hid ((⟨un,ur⟩:St)=⟨vn,vr⟩→Y5 ⟨⟨can,car⟩,⟨un,ur⟩,ck⟩ ⟨⟨cbn,cbr⟩,⟨vn,vr⟩,dk⟩):=Jh (fun e=>HOR.out i k _ _ _ _ hik HS.out HT2.out hsa hsb e)
        have HBK:=Jh (And.intro hba hbb)
        clear hd9 hca hcb hsa hsb hia hib hba hbb
        by_cases g1:un=vn
        ·by_cases g2:ur=vr
         ·have hkl2:=HKL.out (by rw[g1,g2])
          have HKL2:=Lib.hid hkl2
          subst g1
          subst g2
          clear hkl2 HKL
          go_upto_region 15 with fail
          have hS0:(fun W:World=>W.cell? ⟨b9,o9+ia*5+2,none⟩=some (.int .i64 un)∧W.cell? ⟨b9,o9+ia*5+3,none⟩=some (.int .i64 ur)∧W.cell? ⟨b9,o9+ib*5+2,none⟩=some (.int .i64 un)∧W.cell? ⟨b9,o9+ib*5+3,none⟩=some (.int .i64 ur)) w8.drew:=⟨d2,d3,f2,f3⟩
          refine Ze (fun W:World=>W.cell? ⟨b9,o9+ia*5+2,none⟩=some (.int .i64 un)∧W.cell? ⟨b9,o9+ia*5+3,none⟩=some (.int .i64 ur)∧W.cell? ⟨b9,o9+ib*5+2,none⟩=some (.int .i64 un)∧W.cell? ⟨b9,o9+ib*5+3,none⟩=some (.int .i64 ur)) (fun _=>false) (by kernel_rfl) ?_
          refine J4 0 52 _ hS0 ?_
          try simp only[Ja]
          refine J4 1 53 _ hS0 ?_
          try simp only[Ja]
          refine J4 2 54 _ hS0 ?_
          try simp only[Ja]
          refine J4 3 55 _ hS0 ?_
          try simp only[Ja]
          refine J4 4 56 _ hS0 ?_
          try simp only[Ja]
          refine J4 5 57 _ hS0 ?_
          try simp only[Ja]
          refine J4 6 58 _ hS0 ?_
          try simp only[Ja]
          refine J4 7 59 _ hS0 ?_
          try simp only[Ja]
          refine J4 8 60 _ hS0 ?_
          try simp only[Ja]
          refine J4 9 61 _ hS0 ?_
          try simp only[Ja]
          refine J4 10 62 _ hS0 ?_
          try simp only[Ja]
          refine J4 11 63 _ hS0 ?_
          try simp only[Ja]
          refine J4 12 64 _ hS0 ?_
          try simp only[Ja]
          refine J4 13 65 _ hS0 ?_
          try simp only[Ja]
          refine J4 14 66 _ hS0 ?_
          try simp only[Ja]
          refine J4 15 67 _ hS0 ?_
          try simp only[Ja]
          refine J4 16 68 _ hS0 ?_
          try simp only[Ja]
          refine J0 17 69 (.bool false) hS0 ?_
          try simp only[Ja]
          refine J0 18 70 _ hS0 ?_
          try simp only[Ja]
          refine Zc (by kernel_rfl) ?_ _
          clear hS0
          go_upto_region 16 with fail
          have HD2:Hid (Below wo.heap.size wo w8.drew.drew):=Jh (HO8.out.drew.drew)
          have h4a:w8.drew.drew.cell? ⟨b9,o9+ia*5+4,none⟩=some (.string ck):=d4
          have h4b:w8.drew.drew.cell? ⟨b9,o9+ib*5+4,none⟩=some (.string dk):=f4
          by_cases hlt:Ym (⟨⟨can,car⟩,⟨un,ur⟩,ck⟩:Ch)<Ym (⟨⟨cbn,cbr⟩,⟨un,ur⟩,dk⟩:Ch)
          ·have hb:Op.bytesLess ck.toList dk.toList=true:=by rw[bytesLess_eq];simpa [Ym] using hlt
           have hne:ck≠dk:=fun e=>by rw[e] at hlt;exact List.lt_irrefl _ hlt
           have hb2:(ck.toList == dk.toList)=false:=by simpa using fun e=>hne ((Y3 _ _).1 e)
           clear hlt hne
           have hS0:(fun W:World=>W.cell? ⟨b9,o9+ia*5+4,none⟩=some (.string ck)∧W.cell? ⟨b9,o9+ib*5+4,none⟩=some (.string dk)) w8.drew.drew:=⟨h4a,h4b⟩
           refine Ze (fun W:World=>W.cell? ⟨b9,o9+ia*5+4,none⟩=some (.string ck)∧W.cell? ⟨b9,o9+ib*5+4,none⟩=some (.string dk)) (fun _=>false) (by kernel_rfl) ?_
           refine J2 0 71 _ hS0 ?_
           try simp only[Ja]
           refine J2 1 72 _ hS0 ?_
           try simp only[Ja]
           refine J2 2 73 _ hS0 ?_
           try simp only[Ja]
           refine J2 3 74 _ hS0 ?_
           try simp only[Ja]
           refine J2 4 75 _ hS0 ?_
           try simp only[Ja]
           refine J2 5 76 _ hS0 ?_
           try simp only[Ja]
           refine J2 6 77 _ hS0 ?_
           try simp only[Ja]
           refine J2 7 78 _ hS0 ?_
           try simp only[Ja]
           refine J2 8 79 _ hS0 ?_
           try simp only[Ja]
           refine J2 9 80 _ hS0 ?_
           try simp only[Ja]
           refine J2 10 81 (.bool false) hS0 ?_
           try simp only[Ja]
           refine J2 11 82 _ hS0 ?_
           try simp only[Ja]
           refine J2 12 83 _ hS0 ?_
           try simp only[Ja]
           refine J2 13 84 _ hS0 ?_
           try simp only[Ja]
           refine J2 14 85 _ hS0 ?_
           try simp only[Ja]
           refine J2 15 86 _ hS0 ?_
           try simp only[Ja]
           refine J2 16 87 _ hS0 ?_
           try simp only[Ja]
           refine J2 17 88 _ hS0 ?_
           try simp only[Ja]
           refine J2 18 89 _ hS0 ?_
           try simp only[Ja]
           refine J2 19 90 _ hS0 ?_
           try simp only[Ja]
           refine J2 20 91 _ hS0 ?_
           try simp only[Ja]
           refine J2 21 92 _ hS0 ?_
           try simp only[Ja]
           refine J2 22 93 (.bool false) hS0 ?_
           try simp only[Ja]
           refine J2 23 94 _ hS0 ?_
           try simp only[Ja]
           refine JO 24 95 rfl rfl hS0 ?_
           try simp only[Ja]
           refine JO 25 96 rfl rfl hS0 ?_
           try simp only[Ja]
           refine JO 26 97 rfl rfl hS0 ?_
           try simp only[Ja]
           refine JO 27 98 rfl rfl hS0 ?_
           try simp only[Ja]
           refine JO 28 99 rfl rfl hS0 ?_
           try simp only[Ja]
           refine JO 29 100 rfl rfl hS0 ?_
           try simp only[Ja]
           refine JO 30 101 rfl rfl hS0 ?_
           try simp only[Ja]
           refine JO 31 102 rfl rfl hS0 ?_
           try simp only[Ja]
           refine JO 32 103 rfl rfl hS0 ?_
           try simp only[Ja]
           refine JO 33 104 rfl rfl hS0 ?_
           try simp only[Ja]
           refine J0 34 105 _ hS0 ?_
           try simp only[Ja]
           refine J0 35 106 _ hS0 ?_
           try simp only[Ja]
           refine Zc (by kernel_rfl) ?_ _
           clear hS0
           go_wp2_with fail
           go_roundg (il - (k+1))
           case measure=>rw[HG2.out];omega
           case rel=>exact ⟨k+1,rfl,by omega,hkl,by go_num,Jh (HD2.out)⟩
          ·have hke:ck=dk∧ZM ⟨can,car⟩ ⟨cbn,cbr⟩:=by
            rcases HKL2.out with h|⟨h1,h2⟩
            ·exact absurd h hlt
            ·exact ⟨(Y3 _ _).1 h1,h2⟩
           have hsl:ZM ⟨sn,sr⟩ ⟨tn,tr⟩:=by rw[←HBK.out.1,←HBK.out.2];exact hke.2
           have hck:=hke.1
           subst hck
           have hb:Op.bytesLess ck.toList ck.toList=false:=by rw[bytesLess_eq];simp[List.lt_irrefl]
           have hcm:¬ (0<Yg ⟨sn,sr⟩ ⟨tn,tr⟩):=fun h=>Zi _ (ZF hsl ((Uo _ _).1 h))
           obtain ⟨cv,hcv⟩:=Je (Yg ⟨sn,sr⟩ ⟨tn,tr⟩)
           rw[hcv] at hcm
           have HCM:Hid (∀ W:World,Calls Tryz.prog 23 #[.agg #[.int .i64 sn,.int .i64 sr],.agg #[.int .i64 tn,.int .i64 tr]] W fun e w'=>e=.returned (.int .i64 cv)∧Below W.heap.size W w'):=Jh (fun W=>by rw[←hcv];exact YV sn sr tn tr W)
           clear hlt hke hsl hcv HKL2
           have hS0:(fun W:World=>W.cell? ⟨b9,o9+ia*5+4,none⟩=some (.string ck)∧W.cell? ⟨b9,o9+ib*5+4,none⟩=some (.string ck)∧W.cell? ⟨b7,o7+i*2,none⟩=some (.int .i64 sn)∧W.cell? ⟨b7,o7+i*2+1,none⟩=some (.int .i64 sr)∧W.cell? ⟨b7,o7+k*2,none⟩=some (.int .i64 tn)∧W.cell? ⟨b7,o7+k*2+1,none⟩=some (.int .i64 tr)) w8.drew.drew:=⟨h4a,h4b,z0,z1,y0,y1⟩
           refine Ze (fun W:World=>W.cell? ⟨b9,o9+ia*5+4,none⟩=some (.string ck)∧W.cell? ⟨b9,o9+ib*5+4,none⟩=some (.string ck)∧W.cell? ⟨b7,o7+i*2,none⟩=some (.int .i64 sn)∧W.cell? ⟨b7,o7+i*2+1,none⟩=some (.int .i64 sr)∧W.cell? ⟨b7,o7+k*2,none⟩=some (.int .i64 tn)∧W.cell? ⟨b7,o7+k*2+1,none⟩=some (.int .i64 tr)) (fun _=>false) (by kernel_rfl) ?_
           refine JR 0 71 _ rfl rfl hS0 (fun W hW=>by obtain ⟨q0,q1,q2,q3,q4,q5⟩:=hW;go_simp;try rfl) ?_
           try simp only[Ja]
           refine JR 1 72 _ rfl rfl hS0 (fun W hW=>by obtain ⟨q0,q1,q2,q3,q4,q5⟩:=hW;go_simp;try rfl) ?_
           try simp only[Ja]
           refine JR 2 73 _ rfl rfl hS0 (fun W hW=>by obtain ⟨q0,q1,q2,q3,q4,q5⟩:=hW;go_simp;try rfl) ?_
           try simp only[Ja]
           refine JR 3 74 _ rfl rfl hS0 (fun W hW=>by obtain ⟨q0,q1,q2,q3,q4,q5⟩:=hW;go_simp;try rfl) ?_
           try simp only[Ja]
           refine JR 4 75 _ rfl rfl hS0 (fun W hW=>by obtain ⟨q0,q1,q2,q3,q4,q5⟩:=hW;go_simp;try rfl) ?_
           try simp only[Ja]
           refine JR 5 76 _ rfl rfl hS0 (fun W hW=>by obtain ⟨q0,q1,q2,q3,q4,q5⟩:=hW;go_simp;try rfl) ?_
           try simp only[Ja]
           refine JR 6 77 _ rfl rfl hS0 (fun W hW=>by obtain ⟨q0,q1,q2,q3,q4,q5⟩:=hW;go_simp;try rfl) ?_
           try simp only[Ja]
           refine JR 7 78 _ rfl rfl hS0 (fun W hW=>by obtain ⟨q0,q1,q2,q3,q4,q5⟩:=hW;go_simp;try rfl) ?_
           try simp only[Ja]
           refine JR 8 79 _ rfl rfl hS0 (fun W hW=>by obtain ⟨q0,q1,q2,q3,q4,q5⟩:=hW;go_simp;try rfl) ?_
           try simp only[Ja]
           refine JR 9 80 _ rfl rfl hS0 (fun W hW=>by obtain ⟨q0,q1,q2,q3,q4,q5⟩:=hW;go_simp;try rfl) ?_
           try simp only[Ja]
           refine JR 10 81 (.bool false) rfl rfl hS0 (fun W hW=>by obtain ⟨q0,q1,q2,q3,q4,q5⟩:=hW;go_simp;try rfl) ?_
           try simp only[Ja]
           refine JR 11 82 _ rfl rfl hS0 (fun W hW=>by obtain ⟨q0,q1,q2,q3,q4,q5⟩:=hW;go_simp;try rfl) ?_
           try simp only[Ja]
           refine JR 12 83 _ rfl rfl hS0 (fun W hW=>by obtain ⟨q0,q1,q2,q3,q4,q5⟩:=hW;go_simp;try rfl) ?_
           try simp only[Ja]
           refine JR 13 84 _ rfl rfl hS0 (fun W hW=>by obtain ⟨q0,q1,q2,q3,q4,q5⟩:=hW;go_simp;try rfl) ?_
           try simp only[Ja]
           refine JR 14 85 _ rfl rfl hS0 (fun W hW=>by obtain ⟨q0,q1,q2,q3,q4,q5⟩:=hW;go_simp;try rfl) ?_
           try simp only[Ja]
           refine JR 15 86 _ rfl rfl hS0 (fun W hW=>by obtain ⟨q0,q1,q2,q3,q4,q5⟩:=hW;go_simp;try rfl) ?_
           try simp only[Ja]
           refine JR 16 87 _ rfl rfl hS0 (fun W hW=>by obtain ⟨q0,q1,q2,q3,q4,q5⟩:=hW;go_simp;try rfl) ?_
           try simp only[Ja]
           refine JR 17 88 _ rfl rfl hS0 (fun W hW=>by obtain ⟨q0,q1,q2,q3,q4,q5⟩:=hW;go_simp;try rfl) ?_
           try simp only[Ja]
           refine JR 18 89 _ rfl rfl hS0 (fun W hW=>by obtain ⟨q0,q1,q2,q3,q4,q5⟩:=hW;go_simp;try rfl) ?_
           try simp only[Ja]
           refine JR 19 90 _ rfl rfl hS0 (fun W hW=>by obtain ⟨q0,q1,q2,q3,q4,q5⟩:=hW;go_simp;try rfl) ?_
           try simp only[Ja]
           refine JR 20 91 _ rfl rfl hS0 (fun W hW=>by obtain ⟨q0,q1,q2,q3,q4,q5⟩:=hW;go_simp;try rfl) ?_
           try simp only[Ja]
           refine JR 21 92 _ rfl rfl hS0 (fun W hW=>by obtain ⟨q0,q1,q2,q3,q4,q5⟩:=hW;go_simp;try rfl) ?_
           try simp only[Ja]
           refine JR 22 93 (.bool true) rfl rfl hS0 (fun W hW=>by obtain ⟨q0,q1,q2,q3,q4,q5⟩:=hW;go_simp;try rfl) ?_
           try simp only[Ja]
           refine JR 23 94 _ rfl rfl hS0 (fun W hW=>by obtain ⟨q0,q1,q2,q3,q4,q5⟩:=hW;go_simp;try rfl) ?_
           try simp only[Ja]
           refine JR 24 95 _ rfl rfl hS0 (fun W hW=>by obtain ⟨q0,q1,q2,q3,q4,q5⟩:=hW;go_simp;try rfl) ?_
           try simp only[Ja]
           refine JR 25 96 _ rfl rfl hS0 (fun W hW=>by obtain ⟨q0,q1,q2,q3,q4,q5⟩:=hW;go_simp;try rfl) ?_
           try simp only[Ja]
           refine JR 26 97 _ rfl rfl hS0 (fun W hW=>by obtain ⟨q0,q1,q2,q3,q4,q5⟩:=hW;go_simp;try rfl) ?_
           try simp only[Ja]
           refine JR 27 98 _ rfl rfl hS0 (fun W hW=>by obtain ⟨q0,q1,q2,q3,q4,q5⟩:=hW;go_simp;try rfl) ?_
           try simp only[Ja]
           refine JR 28 99 _ rfl rfl hS0 (fun W hW=>by obtain ⟨q0,q1,q2,q3,q4,q5⟩:=hW;go_simp;try rfl) ?_
           try simp only[Ja]
           refine JR 29 100 _ rfl rfl hS0 (fun W hW=>by obtain ⟨q0,q1,q2,q3,q4,q5⟩:=hW;go_simp;try rfl) ?_
           try simp only[Ja]
           refine JR 30 101 _ rfl rfl hS0 (fun W hW=>by obtain ⟨q0,q1,q2,q3,q4,q5⟩:=hW;go_simp;try rfl) ?_
           try simp only[Ja]
           refine JR 31 102 _ rfl rfl hS0 (fun W hW=>by obtain ⟨q0,q1,q2,q3,q4,q5⟩:=hW;go_simp;try rfl) ?_
           try simp only[Ja]
           refine ZA (i:=32) (d:=some 103) (f:=23) (args:=#[.agg #[.int .i64 sn,.int .i64 sr],.agg #[.int .i64 tn,.int .i64 tr]]) (w':=w8.drew.drew) (by kernel_rfl) rfl rfl (by rfl) (by go_simp;try rfl) ?_
           refine (HCM.out w8.drew.drew).mono ?_
           rintro e w9 ⟨rfl,b9x⟩
           have hS9:(fun W:World=>W.cell? ⟨b9,o9+ia*5+4,none⟩=some (.string ck)∧W.cell? ⟨b9,o9+ib*5+4,none⟩=some (.string ck)∧W.cell? ⟨b7,o7+i*2,none⟩=some (.int .i64 sn)∧W.cell? ⟨b7,o7+i*2+1,none⟩=some (.int .i64 sr)∧W.cell? ⟨b7,o7+k*2,none⟩=some (.int .i64 tn)∧W.cell? ⟨b7,o7+k*2+1,none⟩=some (.int .i64 tr)) w9:=⟨Z0 b9x h4a,Z0 b9x h4b,Z0 b9x z0,Z0 b9x z1,Z0 b9x y0,Z0 b9x y1⟩
           refine ⟨_,rfl,fun _=>hS9,?_⟩
           try simp only[Ja]
           refine JR 33 104 (.bool false) rfl rfl hS9 (fun W hW=>by obtain ⟨q0,q1,q2,q3,q4,q5⟩:=hW;go_simp;try rfl) ?_
           try simp only[Ja]
           refine J0 34 105 _ hS9 ?_
           try simp only[Ja]
           refine J0 35 106 _ hS9 ?_
           try simp only[Ja]
           refine Zc (by kernel_rfl) ?_ _
           have HD9:Hid (Below wo.heap.size wo w9):=Jh (HD2.out.trans (b9x.mono HD2.out.size))
           clear hS0 hS9 b9x
           go_wp2_with fail
           go_roundg (il - (k+1))
           case measure=>rw[HG2.out];omega
           case rel=>exact ⟨k+1,rfl,by omega,hkl,by go_num,Jh (HD9.out)⟩
         ·clear HKL HBK
          go_upto_region 15 with fail
          have hS0:(fun W:World=>W.cell? ⟨b9,o9+ia*5+2,none⟩=some (.int .i64 un)∧W.cell? ⟨b9,o9+ia*5+3,none⟩=some (.int .i64 ur)∧W.cell? ⟨b9,o9+ib*5+2,none⟩=some (.int .i64 vn)∧W.cell? ⟨b9,o9+ib*5+3,none⟩=some (.int .i64 vr)) w8.drew:=⟨d2,d3,f2,f3⟩
          refine Ze (fun W:World=>W.cell? ⟨b9,o9+ia*5+2,none⟩=some (.int .i64 un)∧W.cell? ⟨b9,o9+ia*5+3,none⟩=some (.int .i64 ur)∧W.cell? ⟨b9,o9+ib*5+2,none⟩=some (.int .i64 vn)∧W.cell? ⟨b9,o9+ib*5+3,none⟩=some (.int .i64 vr)) (fun _=>false) (by kernel_rfl) ?_
          refine J4 0 52 _ hS0 ?_
          try simp only[Ja]
          refine J4 1 53 _ hS0 ?_
          try simp only[Ja]
          refine J4 2 54 _ hS0 ?_
          try simp only[Ja]
          refine J4 3 55 _ hS0 ?_
          try simp only[Ja]
          refine J4 4 56 _ hS0 ?_
          try simp only[Ja]
          refine J4 5 57 _ hS0 ?_
          try simp only[Ja]
          refine J4 6 58 _ hS0 ?_
          try simp only[Ja]
          refine J4 7 59 _ hS0 ?_
          try simp only[Ja]
          refine J4 8 60 _ hS0 ?_
          try simp only[Ja]
          refine J4 9 61 _ hS0 ?_
          try simp only[Ja]
          refine J4 10 62 _ hS0 ?_
          try simp only[Ja]
          refine J4 11 63 _ hS0 ?_
          try simp only[Ja]
          refine J4 12 64 _ hS0 ?_
          try simp only[Ja]
          refine J4 13 65 _ hS0 ?_
          try simp only[Ja]
          refine J4 14 66 _ hS0 ?_
          try simp only[Ja]
          refine J4 15 67 _ hS0 ?_
          try simp only[Ja]
          refine J4 16 68 _ hS0 ?_
          try simp only[Ja]
          refine J0 17 69 (.bool true) hS0 ?_
          try simp only[Ja]
          refine J0 18 70 _ hS0 ?_
          try simp only[Ja]
          refine Zc (by kernel_rfl) ?_ _
          clear hS0
          go_wp2_with fail
          go_roundg (il - (k+1))
          case measure=>rw[HG2.out];omega
          case rel=>exact ⟨k+1,rfl,by omega,hkl,by go_num,Jh (HD.out 1)⟩
        ·clear HKL HBK
         go_upto_region 15 with fail
         have hS0:(fun W:World=>W.cell? ⟨b9,o9+ia*5+2,none⟩=some (.int .i64 un)∧W.cell? ⟨b9,o9+ia*5+3,none⟩=some (.int .i64 ur)∧W.cell? ⟨b9,o9+ib*5+2,none⟩=some (.int .i64 vn)∧W.cell? ⟨b9,o9+ib*5+3,none⟩=some (.int .i64 vr)) w8.drew:=⟨d2,d3,f2,f3⟩
         refine Ze (fun W:World=>W.cell? ⟨b9,o9+ia*5+2,none⟩=some (.int .i64 un)∧W.cell? ⟨b9,o9+ia*5+3,none⟩=some (.int .i64 ur)∧W.cell? ⟨b9,o9+ib*5+2,none⟩=some (.int .i64 vn)∧W.cell? ⟨b9,o9+ib*5+3,none⟩=some (.int .i64 vr)) (fun _=>false) (by kernel_rfl) ?_
         refine J4 0 52 _ hS0 ?_
         try simp only[Ja]
         refine J4 1 53 _ hS0 ?_
         try simp only[Ja]
         refine J4 2 54 _ hS0 ?_
         try simp only[Ja]
         refine J4 3 55 _ hS0 ?_
         try simp only[Ja]
         refine J4 4 56 _ hS0 ?_
         try simp only[Ja]
         refine J4 5 57 _ hS0 ?_
         try simp only[Ja]
         refine J4 6 58 _ hS0 ?_
         try simp only[Ja]
         refine J4 7 59 _ hS0 ?_
         try simp only[Ja]
         refine J4 8 60 _ hS0 ?_
         try simp only[Ja]
         refine J4 9 61 _ hS0 ?_
         try simp only[Ja]
         refine J4 10 62 _ hS0 ?_
         try simp only[Ja]
         refine J4 11 63 _ hS0 ?_
         try simp only[Ja]
         refine J4 12 64 _ hS0 ?_
         try simp only[Ja]
         refine J4 13 65 _ hS0 ?_
         try simp only[Ja]
         refine J4 14 66 _ hS0 ?_
         try simp only[Ja]
         refine J4 15 67 _ hS0 ?_
         try simp only[Ja]
         refine J4 16 68 _ hS0 ?_
         try simp only[Ja]
         refine J0 17 69 (.bool true) hS0 ?_
         try simp only[Ja]
         refine J0 18 70 _ hS0 ?_
         try simp only[Ja]
         refine Zc (by kernel_rfl) ?_ _
         clear hS0
         go_wp2_with fail
         go_roundg (il - (k+1))
         case measure=>rw[HG2.out];omega
         case rel=>exact ⟨k+1,rfl,by omega,hkl,by go_num,Jh (HD.out 1)⟩
     ·have hkk:¬ ((k:Int)<(il:Int)):=by omega
      have HB3:=Jh (HB.out.trans (HB2.out.mono HB.out.size))
      go_wp2_with fail
      go_roundg (il - (i+1))
      case measure=>rw[HG.out];omega
      case rel=>exact ⟨i+1,rfl,hil,by go_num,HB3⟩
   ·have hii:¬ ((i:Int)<(il:Int)):=by omega
    go_wp2_with fail
    refine (HAL.out wr HBW.out).mono ?_
    rintro e w9 ⟨rfl,b9⟩
    have HB9:=Jh (HBW.out.trans (b9.mono HBW.out.size))
    clear b9
    go_wp2_with fail
    go_ret
    exact ⟨rfl,HB9.out⟩
end Go.Proofs.YtlgipkemoldckaaGreatDoor
namespace Go.Proofs.YtlgipkemoldckaaGreatDoor
open Go Go.ChangeShapes Go.WideShapes Go.ChangeAt Go.RowKit
theorem TO (os:Os) (started:os.Started) (H:Type) (enc:TypeId × Value→H) :
  ReturnsInHanded {} Tryz.checked os 8 .any (fun w args=>(Rows.viewOrderSpec.pre enc Tryz.prog Tryz.f8 [] false w args∧laidMetH Tryz.prog YJ w)∧sizedMet enc Tryz.prog Tryz.f8 (OpenSpec.ofChange Rows.viewOrderSpec) false w args)
   (Rows.viewOrderSpec.post enc Tryz.prog Tryz.f8 false true false false):=by
 refine returnsInHanded_of_change_and (C:=Tryz.checked) (X:=fun w _=>laidMetH Tryz.prog YJ w) (fun _ _ _ hh h=>h.of_heap hh) Tryz.own started (by kernel_rfl) Tryz.func8
  (ChangeSpec.witness_shaped (enc:=enc) (C:=Tryz.checked) (os:=os) (X:=fun w _=>laidMetH Tryz.prog YJ w) false (Ul os) #[.agg #[.slice none 0 0,.slice none 0 0,.slice none 0 0,.slice none 0 0]] 8 (Tf os) (World.shaped_of_ZipB (by kernel_rfl) (by kernel_rfl)) (by kernel_rfl) (by kernel_rfl) (by kernel_rfl) (Ux os _)) ?_
 intro W base args ds gs before hval0 hW _ _ hL _
 have hval:∀ (j:Nat) t v,Tryz.f8.params[j]?=some t→args[j]?=some v→Value.okWide Tryz.prog W .any base t v:=hval0
 have hW':=hW
 obtain ⟨p,q,hA0,hV,rfl,hfz,hnd⟩:=hW
 have hA:DataW.TrodAll enc Tryz.prog W 0 (fun _=>true) true Tryz.f8.params.toList args.toList ds p:=hA0
 rw[Tryz.params8] at hA hval
 obtain ⟨v0,vs0,d0,ds0,p0,q0,hargs,rfl,rfl,h0,r0⟩:=trodAll_cons hA
 obtain ⟨rfl,rfl,rfl⟩:=trodAll_nil r0
 obtain rfl:args=#[v0]:=by cases args;simp_all
 obtain ⟨rfl,rfl⟩:=trodVars_none hV
 have k0:=h0
 have lt0:∀ x∈p0,x.block<W.heap.size:=by obtain ⟨m,hm⟩:=k0;exact DataW.trod_lt m _ _ _ hm
 obtain ⟨l,mv,ws,ms,hm0⟩:=T0 (hval 0 39 v0 rfl rfl) h0
 clear hA0 hval0
 refine (Z0U v0 l mv ws ms W hm0 (U2 hL)).mono fun e W' ⟨he,bel⟩=>?_
 subst he
 exact ⟨_,rfl,_,_,_,[],_,[],hW',trodAll_mk1 (shut_bool Tryz.underlying4 _),(trodAll_cons_mk (Below.trod Tryz.laidOut (by kernel_rfl) (of_decide_eq_true (by kernel_rfl)) k0 bel lt0) trodAll_mk0),rfl,bel.frame _,fun h=>by cases h⟩
theorem QX:(Rows.viewOrderRow.inPlace == Tryz.prog.inPlace 8)=true:=by kernel_rfl
theorem Q7:(Rows.viewOrderRow.unfollowed == Tryz.prog.unfollowed 8)=true:=by kernel_rfl
theorem QT:(Rows.viewOrderRow.recurses == Tryz.prog.recurses 8)=true:=by kernel_rfl
theorem Qq:(Rows.viewOrderRow.named == Tryz.prog.varsNamed 8)=true:=by kernel_rfl
theorem R6:joinedFacts Tryz.prog 8 Tryz.f8 Rows.viewOrderSpec Rows.viewOrderRow=true:=by
 unfold joinedFacts
 rw[QX,Q7,QT,Qq]
 kernel_rfl
theorem S7:Rows.ViewOrderSaid :=
 OpenClaim.holds_of_wide 8 Tryz.f8 rfl rfl rfl rfl rfl rfl rfl ⟨rfl,rfl,rfl,rfl,rfl⟩ rfl rfl rfl rfl rfl (by kernel_rfl) Tryz.func8 R6
  (of_decide_eq_true (by kernel_rfl)) (by unfold Func.isWrapper;first|(rw[if_pos (by decide +kernel)];kernel_rfl)|(rw[if_neg (by decide +kernel)];exact ⟨rfl,rfl⟩))
  (fun os started H enc _=>TO os started H enc)
theorem viewOrder_card:Rows.ViewOrderCardSaid :=
 Claim7.holds_tied_plain_at .later [] [.data,.data,.data] true Rows.viewOrderCard.stood.harness false
  S7 (fun _ h=>by cases h) (by kernel_rfl) (fun _ h=>by cases h) viewOrder_row_tie rfl ⟨rfl,rfl⟩ (by kernel_rfl) rfl
  (fun f fn hf hfn=>by
   obtain rfl : f = 8 := Option.some.inj ((show Tryz.prog.funcNamed "stemma/stemmalaw20.ViewOrder" = some 8 by kernel_rfl).symm.trans hf) |>.symm
   obtain rfl:fn=Tryz.f8:=(Option.some.inj (Tryz.func8.symm.trans hfn)).symm
   exact ⟨by kernel_rfl,fun j t ht=>by
    rw[Tryz.params8] at ht
    have hm:t∈[39]:=by simpa using Array.mem_of_getElem? ht
    have hall:([39].all fun u=>!Tryz.prog.wantsStandIn u)=true:=by kernel_rfl
    exact (show Tryz.prog.wantsStandIn t=false by simpa using List.all_eq_true.1 hall t hm)⟩)
  (by kernel_rfl)
#print axioms viewOrder_card
end Go.Proofs.YtlgipkemoldckaaGreatDoor
