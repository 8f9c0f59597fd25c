/- ViewKinds, part 9 of what the proof leans on (made short by a program). -/
import Derived.Test.YtlgipkemoldckaaGreatDoorVkZ8
set_option linter.unusedSimpArgs false
set_option linter.unusedVariables false
set_option linter.unusedSectionVars false
set_option maxRecDepth 20000
set_option maxHeartbeats 30000000
namespace Go.Proofs.YtlgipkemoldckaaGreatDoor
open Go.RowKit
section
variable {cap sz blk n:Nat} {lt:(Zb × Nat)→(Zb × Nat)→Prop}
theorem Z0Z (a m b:Nat) (hm:m=a+1) (f:Nat→(Zb × Nat)) (w:World) (hS:Z9 Zi 28 183 sz w blk n f) (R:Wd lt Prod.snd (fun x y:(Zb × Nat)=>Y3 x.1 y.1)) (h:Y2 lt Prod.snd a m b f) (hbn:b≤n) (hcap:n≤cap) (hn:cap≤maxLen) (hN:n≤1000000) :
  Calls Tryz.prog 143 #[.slice (some ⟨blk,0,none⟩) n cap,.int .i64 a,.int .i64 m,.int .i64 b,.func (.func 98) #[] #[]] w fun e w'=>(∃ v,e=.returned v)∧Hid (∃ g,Z9 Zi 28 183 sz w' blk n g∧Zt a b f g∧ZS lt a b g)∧Ext (·=blk) w w':=by
 have hmb:=h.mb
 have t1:((m:Int) - (a:Int) == 1)=true:=by rw[beq_iff_eq];omega
 have HE:=Lib.hid hm
 have ham:a<m:=by omega
 clear hm
 unfold maxLen at hn
 have HR:=Lib.hid R
 have HM:=Lib.hid h
 clear R h
 go_enter Tryz.func143,Tryz.ntmps143
 go_wp2_with fail
 go_loopg [10,11] (b - m) (fun g0 iv jv wx=>∃ i j:Nat,g0=j - i∧m≤i∧i≤j∧j≤b∧iv=.int .i64 i∧jv=.int .i64 j∧Z9 Zi 28 183 sz wx blk n f∧Hid (i=m∨lt (f (i - 1)) (f a))∧Hid (j=b∨¬ lt (f j) (f a))∧Ext (·=blk) w wx)
 case atStart=>exact ⟨m,b,rfl,Nat.le_refl _,by omega,Nat.le_refl _,rfl,rfl,hS,Jh (.inl rfl),Jh (.inl rfl),Ext.refl _ _⟩
 case round =>
  obtain ⟨i,j,hg,hi,hij,hj,rfl,rfl,hW,q1,q2,hx⟩:=hrel
  have HG:=Lib.hid hg
  clear hg hS
  have HX:=Lib.hid hx
  clear hx
  by_cases hlt:i<j
  ·skip
   obtain ⟨h,hh⟩:∃ h:Nat,h=(i+j) / 2:=⟨_,rfl⟩
   have hhi:i≤h∧h<j:=by omega
   have hhz:((i:Int)+(j:Int)) / 2=(h:Int):=by omega
   have hhn:h<n:=by omega
   have han:a<n:=by omega
   have b0h:(0:Int)≤(h:Int):=by omega
   have b1h:(h:Int)<(n:Int):=by omega
   have b0a:(0:Int)≤(a:Int):=by omega
   have b1a:(a:Int)<(n:Int):=by omega
   obtain ⟨x,hx⟩:∃ x,x=f h:=⟨_,rfl⟩
   have HRx:=Lib.hid hx
   obtain ⟨y,hy⟩:∃ y,y=f a:=⟨_,rfl⟩
   have HRy:=Lib.hid hy
   have hcc:Y3 x.1 y.1<0↔lt (f h) (f a):=by rw[hx,hy];exact HR.out.says _ _ (HM.out.apart a h (by omega) (by omega) (by omega) (by omega))
   have HCC:=Lib.hid hcc
   clear hcc hx hy hh
   go_wp2_with fail
   clear hhz
   have iap:(0:Int)≤(h:Int):=by omega
   have ibp:(h:Int)<(n:Int):=by omega
   have icp:((h:Int)).toNat=h:=by omega
   have idp:IntKind.i64.wrap ((h:Int))=(h:Int):=IntWalk.i64_in _ (by omega)
   have iaq:(0:Int)≤(a:Int):=by omega
   have ibq:(a:Int)<(n:Int):=by omega
   have icq:((a:Int)).toNat=a:=by omega
   have idq:IntKind.i64.wrap ((a:Int))=(a:Int):=IntWalk.i64_in _ (by omega)
   have hS0:(fun W=>Z9 Zi 28 183 sz W blk n f) wr.drew:=hW.drew
   have b00:Below wr.heap.size wr wr.drew:=(Below.refl _ _).drew
   refine wp_region_held_drew (S:=(fun W=>Z9 Zi 28 183 sz W blk n f)) (by kernel_rfl) hS0 (fun _=>?_)
   generalize wr.drew=W1 at hS0 b00 ⊢
   refine Za (i:=0) (d:=some 40) rfl rfl (by kernel_rfl) (by kernel_rfl) (by kernel_rfl) (fun _ _ _ h=>h) (.inl ⟨by rfl,fun W hW=>by go_simp;rfl⟩) hS0 ?_
   try simp only[Ja]
   refine Za (i:=1) (d:=some 41) rfl rfl (by kernel_rfl) (by kernel_rfl) (by kernel_rfl) (fun _ _ _ h=>h) (.inl ⟨by rfl,fun W hW=>by go_simp;rfl⟩) hS0 ?_
   try simp only[Ja]
   refine Za (i:=2) (d:=some 42) rfl rfl (by kernel_rfl) (by kernel_rfl) (by kernel_rfl) (fun _ _ _ h=>h) (.inl ⟨by rfl,fun W hW=>by go_simp;rfl⟩) hS0 ?_
   try simp only[Ja]
   refine Za (i:=3) (d:=some 43) rfl rfl (by kernel_rfl) (by kernel_rfl) (by kernel_rfl) (fun _ _ _ h=>h) (.inl ⟨by rfl,fun W hW=>by go_simp;rfl⟩) hS0 ?_
   try simp only[Ja]
   refine Za (i:=4) (d:=some 44) (v:=.agg (Zi x).toArray) rfl rfl (by kernel_rfl) (by kernel_rfl) (by kernel_rfl) (fun _ _ _ h=>h) (.inl ⟨by rfl,fun W hW=>ZT rfl rfl (by rw[HRx.out];exact Z9.load hW Yk YX hhn)⟩) hS0 ?_
   try simp only[Ja]
   refine Za (i:=5) (d:=some 45) rfl rfl (by kernel_rfl) (by kernel_rfl) (by kernel_rfl) (fun _ _ _ h=>h) (.inl ⟨by rfl,fun W hW=>by go_simp;rfl⟩) hS0 ?_
   try simp only[Ja]
   refine Za (i:=6) (d:=some 46) rfl rfl (by kernel_rfl) (by kernel_rfl) (by kernel_rfl) (fun _ _ _ h=>h) (.inl ⟨by rfl,fun W hW=>by go_simp;rfl⟩) hS0 ?_
   try simp only[Ja]
   refine Za (i:=7) (d:=some 47) rfl rfl (by kernel_rfl) (by kernel_rfl) (by kernel_rfl) (fun _ _ _ h=>h) (.inl ⟨by rfl,fun W hW=>by go_simp;rfl⟩) hS0 ?_
   try simp only[Ja]
   refine Za (i:=8) (d:=some 48) (v:=.agg (Zi y).toArray) rfl rfl (by kernel_rfl) (by kernel_rfl) (by kernel_rfl) (fun _ _ _ h=>h) (.inl ⟨by rfl,fun W hW=>ZT rfl rfl (by rw[HRy.out];exact Z9.load hW Yk YX han)⟩) hS0 ?_
   try simp only[Ja]
   refine VK (i:=9) (d:=some 49) (by kernel_rfl) rfl rfl (by rfl) (by go_simp;first|rfl|exact ⟨rfl,rfl⟩|exact ⟨⟨rfl,rfl⟩,rfl⟩) ?_
   (refine (Vg x.1 y.1 _).mono ?_)
   rintro e w5 ⟨rfl,b5⟩
   have hS5:(fun W=>Z9 Zi 28 183 sz W blk n f) w5:=Z9.below hS0 b5
   replace b5:=b00.trans (b5.mono b00.size)
   refine ⟨_,rfl,hS5,?_⟩
   try simp only[Ja]
   clear hS0 b00
   refine Za (i:=10) (d:=some 50) rfl rfl (by kernel_rfl) (by kernel_rfl) (by kernel_rfl) (fun _ _ _ h=>h) (.inl ⟨by rfl,fun W hW=>by go_simp;rfl⟩) hS5 ?_
   try simp only[Ja]
   refine wpAnyH_done (by kernel_rfl) ?_ _
   clear hS5 HRx HRy
   have HS5:=Jh (hW.below b5)
   have HX5:=Jh (HX.out.then_below b5)
   clear  hW b5
   by_cases hc:Y3 x.1 y.1<0
   ·have hcb:decide (Y3 x.1 y.1<0)=true:=decide_eq_true hc
    go_wp2_with fail
    go_roundg (j - (h+1))
    case measure=>rw[HG.out];omega
    case rel=>exact ⟨h+1,j,rfl,by omega,by omega,hj,by go_num,rfl,HS5.out,Jh (.inr (HCC.out.1 hc)),q2,HX5.out⟩
   ·have hcb:decide (Y3 x.1 y.1<0)=false:=decide_eq_false hc
    go_wp2_with fail
    go_roundg (h - i)
    case measure=>rw[HG.out];omega
    case rel=>exact ⟨i,h,rfl,by omega,by omega,by omega,rfl,rfl,HS5.out,q1,Jh (.inr (fun t=>by have:=HCC.out.2 t;omega)),HX5.out⟩
  ·obtain rfl:i=j:=by omega
   obtain ⟨k0,rfl⟩:∃ k0,i=k0+1:=⟨i - 1,by omega⟩
   have HD:=Jh (Z2C HR.out (by rw[←HE.out];exact HM.out) (by rw[←HE.out];exact hi) hj (by rw[←HE.out];exact q1.out) q2.out)
   clear q1 q2 hlt
   obtain ⟨wo,hwo⟩:∃ wo:World,wo=wr:=⟨_,rfl⟩
   subst hwo
   go_wp2_with fail
   go_loopg [13] (k0 - a) (fun g0 kv wx=>∃ k:Nat,g0=k0 - k∧a≤k∧k≤k0∧kv=.int .i64 k∧Z9 Zi 28 183 sz wx blk n (YY f a k)∧Ext (·=blk) w wx)
   case atStart=>exact ⟨a,rfl,Nat.le_refl _,by omega,rfl,by rw[Z0H];exact hW,HX.out⟩
   case round =>
    obtain ⟨k,hg,hk1,hk2,rfl,hW,hx⟩:=hrel
    have HG2:=Lib.hid hg
    clear hg
    have HX2:=Lib.hid hx
    clear hx
    by_cases hlt:k<k0
    ·have hp:k<n:=by omega
     have hq:k+1<n:=by omega
     have HW:Hid (Ym (YY f a k) k (k+1)=YY f a (k+1)):=Z13 f a k hk1
     generalize YY f a k=g0 at *
     have HSL:=Lib.hid hW
     clear hW
     have iap:(0:Int)≤(k:Int):=by omega
     have ibp:(k:Int)<(n:Int):=by omega
     have icp:((k:Int)).toNat=k:=by omega
     have idp:IntKind.i64.wrap ((k:Int))=(k:Int):=IntWalk.i64_in _ (by omega)
     have iaq:(0:Int)≤(k:Int)+1:=by omega
     have ibq:(k:Int)+1<(n:Int):=by omega
     have icq:((k:Int)+1).toNat=k+1:=by omega
     have idq:IntKind.i64.wrap ((k:Int)+1)=(k:Int)+1:=IntWalk.i64_in _ (by omega)
     go_wp2_with fail
     refine Zf (fun W=>Z9 Zi 28 183 sz W blk n g0) (fun i=>!(i == 9 || i == 13)) (by kernel_rfl) ?_
     have hS0:Z9 Zi 28 183 sz wr.drew blk n g0:=HSL.out.drew
     have X0:Ext (·=blk) wr wr.drew:=(Ext.refl _ _).drew
     generalize wr.drew=W1 at hS0 X0 ⊢
     refine Z4 (i:=0) (d:=some 61) rfl rfl rfl (by kernel_rfl) (by kernel_rfl) (by kernel_rfl) (fun _ _ _ h=>h) (.inl ⟨by rfl,fun W hW=>by go_simp;rfl⟩) ?_
     try simp only[Ja]
     refine Z4 (i:=1) (d:=some 62) rfl rfl rfl (by kernel_rfl) (by kernel_rfl) (by kernel_rfl) (fun _ _ _ h=>h) (.inl ⟨by rfl,fun W hW=>by go_simp;rfl⟩) ?_
     try simp only[Ja]
     refine Z4 (i:=2) (d:=some 63) rfl rfl rfl (by kernel_rfl) (by kernel_rfl) (by kernel_rfl) (fun _ _ _ h=>h) (.inl ⟨by rfl,fun W hW=>by go_simp;rfl⟩) ?_
     try simp only[Ja]
     refine Z4 (i:=3) (d:=some 64) rfl rfl rfl (by kernel_rfl) (by kernel_rfl) (by kernel_rfl) (fun _ _ _ h=>h) (.inl ⟨by rfl,fun W hW=>by go_simp;rfl⟩) ?_
     try simp only[Ja]
     refine Z4 (i:=4) (d:=some 65) rfl rfl rfl (by kernel_rfl) (by kernel_rfl) (by kernel_rfl) (fun _ _ _ h=>h) (.inl ⟨by rfl,fun W hW=>by go_simp;rfl⟩) ?_
     try simp only[Ja]
     refine Z4 (i:=5) (d:=some 66) rfl rfl rfl (by kernel_rfl) (by kernel_rfl) (by kernel_rfl) (fun _ _ _ h=>h) (.inl ⟨by rfl,fun W hW=>by go_simp;rfl⟩) ?_
     try simp only[Ja]
     refine Z4 (i:=6) (d:=some 67) rfl rfl rfl (by kernel_rfl) (by kernel_rfl) (by kernel_rfl) (fun _ _ _ h=>h) (.inl ⟨by rfl,fun W hW=>by go_simp;rfl⟩) ?_
     try simp only[Ja]
     refine Z4 (i:=7) (d:=some 68) rfl rfl rfl (by kernel_rfl) (by kernel_rfl) (by kernel_rfl) (fun _ _ _ h=>h) (.inl ⟨by rfl,fun W hW=>by go_simp;rfl⟩) ?_
     try simp only[Ja]
     refine Z4 (i:=8) (d:=some 69) rfl rfl rfl (by kernel_rfl) (by kernel_rfl) (by kernel_rfl) (fun _ _ _ h=>h) (.inl ⟨by rfl,fun W hW=>by go_simp;rfl⟩) ?_
     try simp only[Ja]
     refine Z4 (i:=10) (d:=some 71) rfl rfl rfl (by kernel_rfl) (by kernel_rfl) (by kernel_rfl) (fun _ _ _ h=>h) (.inl ⟨by rfl,fun W hW=>by go_simp;rfl⟩) ?_
     try simp only[Ja]
     refine Z4 (i:=11) (d:=some 72) rfl rfl rfl (by kernel_rfl) (by kernel_rfl) (by kernel_rfl) (fun _ _ _ h=>h) (.inl ⟨by rfl,fun W hW=>by go_simp;rfl⟩) ?_
     try simp only[Ja]
     refine Z4 (i:=12) (d:=some 73) rfl rfl rfl (by kernel_rfl) (by kernel_rfl) (by kernel_rfl) (fun _ _ _ h=>h) (.inl ⟨by rfl,fun W hW=>by go_simp;rfl⟩) ?_
     try simp only[Ja]
     refine JR 9 70 (.agg (Zi (g0 (k+1))).toArray) rfl rfl hS0 (fun W hW=>ZT rfl rfl (Z9.load hW Yk YX hq)) ?_
     try simp only[Ja]
     refine JR 13 74 (.agg (Zi (g0 k)).toArray) rfl rfl hS0 (fun W hW=>ZT rfl rfl (Z9.load hW Yk YX hp)) ?_
     try simp only[Ja]
     refine Z4 (i:=14) (d:=some 75) rfl rfl rfl (by kernel_rfl) (by kernel_rfl) (by kernel_rfl) (fun _ _ _ h=>h) (.inl ⟨by rfl,fun W hW=>by go_simp;rfl⟩) ?_
     try simp only[Ja]
     obtain ⟨W2,st2,s2,e2⟩:=Z9.store hS0 Yk VD YX hp (g0 (k+1))
     refine Zh (i:=15) (d:=none) (by kernel_rfl) rfl rfl (by rfl) (YW rfl rfl rfl st2) (fun h=>by cases h) ?_
     try simp only[Ja]
     refine Z4 (i:=16) (d:=some 76) rfl rfl rfl (by kernel_rfl) (by kernel_rfl) (by kernel_rfl) (fun _ _ _ h=>h) (.inl ⟨by rfl,fun W hW=>by go_simp;rfl⟩) ?_
     try simp only[Ja]
     obtain ⟨W3,st3,s3,e3⟩:=Z9.store s2 Yk VD YX hq (g0 k)
     refine Zh (i:=17) (d:=none) (by kernel_rfl) rfl rfl (by rfl) (YW rfl rfl rfl st3) (fun h=>by cases h) ?_
     try simp only[Ja]
     refine Zd (by kernel_rfl) ?_ _
     have HSW:Hid (Z9 Zi 28 183 sz W3 blk n (Ym g0 k (k+1))∧Ext (·=blk) wr W3):=Lib.hid ⟨by rw[VA];exact s3,(X0.trans e2).trans e3⟩
     clear hS0 X0 st2 s2 e2 st3 s3 e3
     clear HSL
     go_wp2_with fail
     go_roundg (k0 - (k+1))
     case measure=>rw[HG2.out];omega
     case rel=>exact ⟨k+1,rfl,by omega,by omega,by go_num,by rw[←HW.out];exact HSW.out.1,HX2.out.trans HSW.out.2⟩
    ·obtain rfl:k=k0:=by omega
     go_wp2_with fail
     refine bodyPost_ret (v:=.tuple #[]) (results_none rfl _ _ _) rfl ?_
     have hd:=HD.out
     rw[show k+1 - 1=k by omega] at hd
     exact ⟨⟨_,rfl⟩,Lib.hid ⟨_,hW,hd.2,hd.1⟩,HX2.out⟩
theorem Z0y (a m b:Nat) (hb:b=m+1) (f:Nat→(Zb × Nat)) (w:World) (hS:Z9 Zi 28 183 sz w blk n f) (R:Wd lt Prod.snd (fun x y:(Zb × Nat)=>Y3 x.1 y.1)) (h:Y2 lt Prod.snd a m b f) (h1:a+1<m) (hbn:b≤n) (hcap:n≤cap) (hn:cap≤maxLen) (hN:n≤1000000) :
  Calls Tryz.prog 143 #[.slice (some ⟨blk,0,none⟩) n cap,.int .i64 a,.int .i64 m,.int .i64 b,.func (.func 98) #[] #[]] w fun e w'=>(∃ v,e=.returned v)∧Hid (∃ g,Z9 Zi 28 183 sz w' blk n g∧Zt a b f g∧ZS lt a b g)∧Ext (·=blk) w w':=by
 unfold maxLen at hn
 have HR:=Lib.hid R
 have HM:=Lib.hid h
 clear R h
 have t1:((m:Int) - (a:Int) == 1)=false:=by rw[beq_eq_false_iff_ne];omega
 have t2:((b:Int) - (m:Int) == 1)=true:=by rw[beq_iff_eq];omega
 have HE:=Lib.hid hb
 have hmb:m<b:=by omega
 have ham:a<m:=by omega
 clear hb
 go_enter Tryz.func143,Tryz.ntmps143
 go_wp2_with fail
 go_loopg [14,15] (m - a) (fun g0 iv jv wx=>∃ i j:Nat,g0=j - i∧a≤i∧i≤j∧j≤m∧iv=.int .i64 i∧jv=.int .i64 j∧Z9 Zi 28 183 sz wx blk n f∧Hid (i=a∨¬ lt (f m) (f (i - 1)))∧Hid (j=m∨lt (f m) (f j))∧Ext (·=blk) w wx)
 case atStart=>exact ⟨a,m,rfl,Nat.le_refl _,by omega,Nat.le_refl _,rfl,rfl,hS,Jh (.inl rfl),Jh (.inl rfl),Ext.refl _ _⟩
 case round =>
  obtain ⟨i,j,hg,hi,hij,hj,rfl,rfl,hW,q1,q2,hx⟩:=hrel
  have HG:=Lib.hid hg
  clear hg hS
  have HX:=Lib.hid hx
  clear hx
  by_cases hlt:i<j
  ·skip
   obtain ⟨h,hh⟩:∃ h:Nat,h=(i+j) / 2:=⟨_,rfl⟩
   have hhi:i≤h∧h<j:=by omega
   have hhz:((i:Int)+(j:Int)) / 2=(h:Int):=by omega
   have hhn:h<n:=by omega
   have hmn:m<n:=by omega
   have b0h:(0:Int)≤(h:Int):=by omega
   have b1h:(h:Int)<(n:Int):=by omega
   have b0m:(0:Int)≤(m:Int):=by omega
   have b1m:(m:Int)<(n:Int):=by omega
   obtain ⟨x,hx⟩:∃ x,x=f m:=⟨_,rfl⟩
   have HRx:=Lib.hid hx
   obtain ⟨y,hy⟩:∃ y,y=f h:=⟨_,rfl⟩
   have HRy:=Lib.hid hy
   have hcc:Y3 x.1 y.1<0↔lt (f m) (f h):=by rw[hx,hy];exact HR.out.says _ _ (HM.out.apart h m (by omega) (by omega) (by omega) (by omega))
   have HCC:=Lib.hid hcc
   clear hcc hx hy hh
   go_wp2_with fail
   clear hhz
   have iap:(0:Int)≤(m:Int):=by omega
   have ibp:(m:Int)<(n:Int):=by omega
   have icp:((m:Int)).toNat=m:=by omega
   have idp:IntKind.i64.wrap ((m:Int))=(m:Int):=IntWalk.i64_in _ (by omega)
   have iaq:(0:Int)≤(h:Int):=by omega
   have ibq:(h:Int)<(n:Int):=by omega
   have icq:((h:Int)).toNat=h:=by omega
   have idq:IntKind.i64.wrap ((h:Int))=(h:Int):=IntWalk.i64_in _ (by omega)
   have hS0:(fun W=>Z9 Zi 28 183 sz W blk n f) wr.drew:=hW.drew
   have b00:Below wr.heap.size wr wr.drew:=(Below.refl _ _).drew
   refine wp_region_held_drew (S:=(fun W=>Z9 Zi 28 183 sz W blk n f)) (by kernel_rfl) hS0 (fun _=>?_)
   generalize wr.drew=W1 at hS0 b00 ⊢
   refine Za (i:=0) (d:=some 92) rfl rfl (by kernel_rfl) (by kernel_rfl) (by kernel_rfl) (fun _ _ _ h=>h) (.inl ⟨by rfl,fun W hW=>by go_simp;rfl⟩) hS0 ?_
   try simp only[Ja]
   refine Za (i:=1) (d:=some 93) rfl rfl (by kernel_rfl) (by kernel_rfl) (by kernel_rfl) (fun _ _ _ h=>h) (.inl ⟨by rfl,fun W hW=>by go_simp;rfl⟩) hS0 ?_
   try simp only[Ja]
   refine Za (i:=2) (d:=some 94) rfl rfl (by kernel_rfl) (by kernel_rfl) (by kernel_rfl) (fun _ _ _ h=>h) (.inl ⟨by rfl,fun W hW=>by go_simp;rfl⟩) hS0 ?_
   try simp only[Ja]
   refine Za (i:=3) (d:=some 95) rfl rfl (by kernel_rfl) (by kernel_rfl) (by kernel_rfl) (fun _ _ _ h=>h) (.inl ⟨by rfl,fun W hW=>by go_simp;rfl⟩) hS0 ?_
   try simp only[Ja]
   refine Za (i:=4) (d:=some 96) (v:=.agg (Zi x).toArray) rfl rfl (by kernel_rfl) (by kernel_rfl) (by kernel_rfl) (fun _ _ _ h=>h) (.inl ⟨by rfl,fun W hW=>ZT rfl rfl (by rw[HRx.out];exact Z9.load hW Yk YX hmn)⟩) hS0 ?_
   try simp only[Ja]
   refine Za (i:=5) (d:=some 97) rfl rfl (by kernel_rfl) (by kernel_rfl) (by kernel_rfl) (fun _ _ _ h=>h) (.inl ⟨by rfl,fun W hW=>by go_simp;rfl⟩) hS0 ?_
   try simp only[Ja]
   refine Za (i:=6) (d:=some 98) rfl rfl (by kernel_rfl) (by kernel_rfl) (by kernel_rfl) (fun _ _ _ h=>h) (.inl ⟨by rfl,fun W hW=>by go_simp;rfl⟩) hS0 ?_
   try simp only[Ja]
   refine Za (i:=7) (d:=some 99) rfl rfl (by kernel_rfl) (by kernel_rfl) (by kernel_rfl) (fun _ _ _ h=>h) (.inl ⟨by rfl,fun W hW=>by go_simp;rfl⟩) hS0 ?_
   try simp only[Ja]
   refine Za (i:=8) (d:=some 100) (v:=.agg (Zi y).toArray) rfl rfl (by kernel_rfl) (by kernel_rfl) (by kernel_rfl) (fun _ _ _ h=>h) (.inl ⟨by rfl,fun W hW=>ZT rfl rfl (by rw[HRy.out];exact Z9.load hW Yk YX hhn)⟩) hS0 ?_
   try simp only[Ja]
   refine VK (i:=9) (d:=some 101) (by kernel_rfl) rfl rfl (by rfl) (by go_simp;first|rfl|exact ⟨rfl,rfl⟩|exact ⟨⟨rfl,rfl⟩,rfl⟩) ?_
   (refine (Vg x.1 y.1 _).mono ?_)
   rintro e w5 ⟨rfl,b5⟩
   have hS5:(fun W=>Z9 Zi 28 183 sz W blk n f) w5:=Z9.below hS0 b5
   replace b5:=b00.trans (b5.mono b00.size)
   refine ⟨_,rfl,hS5,?_⟩
   try simp only[Ja]
   clear hS0 b00
   refine Za (i:=10) (d:=some 102) rfl rfl (by kernel_rfl) (by kernel_rfl) (by kernel_rfl) (fun _ _ _ h=>h) (.inl ⟨by rfl,fun W hW=>by go_simp;rfl⟩) hS5 ?_
   try simp only[Ja]
   refine Za (i:=11) (d:=some 103) rfl rfl (by kernel_rfl) (by kernel_rfl) (by kernel_rfl) (fun _ _ _ h=>h) (.inl ⟨by rfl,fun W hW=>by go_simp;rfl⟩) hS5 ?_
   try simp only[Ja]
   refine wpAnyH_done (by kernel_rfl) ?_ _
   clear hS5 HRx HRy
   have HS5:=Jh (hW.below b5)
   have HX5:=Jh (HX.out.then_below b5)
   clear  hW b5
   by_cases hc:Y3 x.1 y.1<0
   ·have hcb:decide (Y3 x.1 y.1<0)=true:=decide_eq_true hc
    simp only[hcb,Bool.not_true]
    go_wp2_with fail
    go_roundg (h - i)
    case measure=>rw[HG.out];omega
    case rel=>exact ⟨i,h,rfl,by omega,by omega,by omega,rfl,rfl,HS5.out,q1,Jh (.inr (HCC.out.1 hc)),HX5.out⟩
   ·have hcb:decide (Y3 x.1 y.1<0)=false:=decide_eq_false hc
    simp only[hcb,Bool.not_false]
    go_wp2_with fail
    go_roundg (j - (h+1))
    case measure=>rw[HG.out];omega
    case rel=>exact ⟨h+1,j,rfl,by omega,by omega,hj,by go_num,rfl,HS5.out,Jh (.inr (fun t=>by have:=HCC.out.2 t;omega)),q2,HX5.out⟩
  ·obtain rfl:i=j:=by omega
   have HD:=Jh (Z1s HR.out (by rw[←HE.out];exact HM.out) hi hj q1.out q2.out)
   clear q1 q2 hlt
   obtain ⟨wo,hwo⟩:∃ wo:World,wo=wr:=⟨_,rfl⟩
   subst hwo
   go_wp2_with fail
   go_loopg [17] (m - i) (fun g0 kv wx=>∃ k:Nat,g0=k - i∧i≤k∧k≤m∧kv=.int .i64 k∧Z9 Zi 28 183 sz wx blk n (YZ f m k)∧Ext (·=blk) w wx)
   case atStart=>exact ⟨m,rfl,by omega,Nat.le_refl _,rfl,by rw[Z0Y];exact hW,HX.out⟩
   case round =>
    obtain ⟨k,hg,hk1,hk2,rfl,hW,hx⟩:=hrel
    have HG2:=Lib.hid hg
    clear hg
    have HX2:=Lib.hid hx
    clear hx
    by_cases hlt:i<k
    ·obtain ⟨q,rfl⟩:∃ q,k=q+1:=⟨k - 1,by omega⟩
     have hp:q+1<n:=by omega
     have hq:q<n:=by omega
     have iw1:IntKind.i64.wrap ((q:Int)+1 - 1)=(q:Int):=by rw[show (q:Int)+1 - 1=(q:Int) by omega];exact IntWalk.i64_in _ (by omega)
     have iw3:IntKind.i64.wrap (q:Int)=(q:Int):=IntWalk.i64_in _ (by omega)
     have HW:Hid (Ym (YZ f m (q+1)) (q+1) q=YZ f m q):=Z0D f m q (by omega)
     generalize YZ f m (q+1)=g0 at *
     have HSL:=Lib.hid hW
     clear hW
     have iap:(0:Int)≤(q:Int)+1:=by omega
     have ibp:(q:Int)+1<(n:Int):=by omega
     have icp:((q:Int)+1).toNat=q+1:=by omega
     have idp:IntKind.i64.wrap ((q:Int)+1)=(q:Int)+1:=IntWalk.i64_in _ (by omega)
     have iaq:(0:Int)≤(q:Int):=by omega
     have ibq:(q:Int)<(n:Int):=by omega
     have icq:((q:Int)).toNat=q:=by omega
     have idq:IntKind.i64.wrap ((q:Int))=(q:Int):=IntWalk.i64_in _ (by omega)
     go_wp2_with fail
     refine Zf (fun W=>Z9 Zi 28 183 sz W blk n g0) (fun i=>!(i == 9 || i == 13)) (by kernel_rfl) ?_
     have hS0:Z9 Zi 28 183 sz wr.drew blk n g0:=HSL.out.drew
     have X0:Ext (·=blk) wr wr.drew:=(Ext.refl _ _).drew
     generalize wr.drew=W1 at hS0 X0 ⊢
     refine Z4 (i:=0) (d:=some 113) rfl rfl rfl (by kernel_rfl) (by kernel_rfl) (by kernel_rfl) (fun _ _ _ h=>h) (.inl ⟨by rfl,fun W hW=>by go_simp;rfl⟩) ?_
     try simp only[Ja]
     refine Z4 (i:=1) (d:=some 114) rfl rfl rfl (by kernel_rfl) (by kernel_rfl) (by kernel_rfl) (fun _ _ _ h=>h) (.inl ⟨by rfl,fun W hW=>by go_simp;rfl⟩) ?_
     try simp only[Ja]
     refine Z4 (i:=2) (d:=some 115) rfl rfl rfl (by kernel_rfl) (by kernel_rfl) (by kernel_rfl) (fun _ _ _ h=>h) (.inl ⟨by rfl,fun W hW=>by go_simp;rfl⟩) ?_
     try simp only[Ja]
     refine Z4 (i:=3) (d:=some 116) rfl rfl rfl (by kernel_rfl) (by kernel_rfl) (by kernel_rfl) (fun _ _ _ h=>h) (.inl ⟨by rfl,fun W hW=>by go_simp;rfl⟩) ?_
     try simp only[Ja]
     refine Z4 (i:=4) (d:=some 117) rfl rfl rfl (by kernel_rfl) (by kernel_rfl) (by kernel_rfl) (fun _ _ _ h=>h) (.inl ⟨by rfl,fun W hW=>by go_simp;rfl⟩) ?_
     try simp only[Ja]
     refine Z4 (i:=5) (d:=some 118) rfl rfl rfl (by kernel_rfl) (by kernel_rfl) (by kernel_rfl) (fun _ _ _ h=>h) (.inl ⟨by rfl,fun W hW=>by go_simp;rfl⟩) ?_
     try simp only[Ja]
     refine Z4 (i:=6) (d:=some 119) rfl rfl rfl (by kernel_rfl) (by kernel_rfl) (by kernel_rfl) (fun _ _ _ h=>h) (.inl ⟨by rfl,fun W hW=>by go_simp;rfl⟩) ?_
     try simp only[Ja]
     refine Z4 (i:=7) (d:=some 120) rfl rfl rfl (by kernel_rfl) (by kernel_rfl) (by kernel_rfl) (fun _ _ _ h=>h) (.inl ⟨by rfl,fun W hW=>by go_simp;rfl⟩) ?_
     try simp only[Ja]
     refine Z4 (i:=8) (d:=some 121) rfl rfl rfl (by kernel_rfl) (by kernel_rfl) (by kernel_rfl) (fun _ _ _ h=>h) (.inl ⟨by rfl,fun W hW=>by go_simp;rfl⟩) ?_
     try simp only[Ja]
     refine Z4 (i:=10) (d:=some 123) rfl rfl rfl (by kernel_rfl) (by kernel_rfl) (by kernel_rfl) (fun _ _ _ h=>h) (.inl ⟨by rfl,fun W hW=>by go_simp;rfl⟩) ?_
     try simp only[Ja]
     refine Z4 (i:=11) (d:=some 124) rfl rfl rfl (by kernel_rfl) (by kernel_rfl) (by kernel_rfl) (fun _ _ _ h=>h) (.inl ⟨by rfl,fun W hW=>by go_simp;rfl⟩) ?_
     try simp only[Ja]
     refine Z4 (i:=12) (d:=some 125) rfl rfl rfl (by kernel_rfl) (by kernel_rfl) (by kernel_rfl) (fun _ _ _ h=>h) (.inl ⟨by rfl,fun W hW=>by go_simp;rfl⟩) ?_
     try simp only[Ja]
     refine JR 9 122 (.agg (Zi (g0 q)).toArray) rfl rfl hS0 (fun W hW=>ZT rfl rfl (Z9.load hW Yk YX hq)) ?_
     try simp only[Ja]
     refine JR 13 126 (.agg (Zi (g0 (q+1))).toArray) rfl rfl hS0 (fun W hW=>ZT rfl rfl (Z9.load hW Yk YX hp)) ?_
     try simp only[Ja]
     refine Z4 (i:=14) (d:=some 127) rfl rfl rfl (by kernel_rfl) (by kernel_rfl) (by kernel_rfl) (fun _ _ _ h=>h) (.inl ⟨by rfl,fun W hW=>by go_simp;rfl⟩) ?_
     try simp only[Ja]
     obtain ⟨W2,st2,s2,e2⟩:=Z9.store hS0 Yk VD YX hp (g0 q)
     refine Zh (i:=15) (d:=none) (by kernel_rfl) rfl rfl (by rfl) (YW rfl rfl rfl st2) (fun h=>by cases h) ?_
     try simp only[Ja]
     refine Z4 (i:=16) (d:=some 128) rfl rfl rfl (by kernel_rfl) (by kernel_rfl) (by kernel_rfl) (fun _ _ _ h=>h) (.inl ⟨by rfl,fun W hW=>by go_simp;rfl⟩) ?_
     try simp only[Ja]
     obtain ⟨W3,st3,s3,e3⟩:=Z9.store s2 Yk VD YX hq (g0 (q+1))
     refine Zh (i:=17) (d:=none) (by kernel_rfl) rfl rfl (by rfl) (YW rfl rfl rfl st3) (fun h=>by cases h) ?_
     try simp only[Ja]
     refine Zd (by kernel_rfl) ?_ _
     have HSW:Hid (Z9 Zi 28 183 sz W3 blk n (Ym g0 (q+1) q)∧Ext (·=blk) wr W3):=Lib.hid ⟨by rw[VA];exact s3,(X0.trans e2).trans e3⟩
     clear hS0 X0 st2 s2 e2 st3 s3 e3
     clear HSL
     go_wp2_with fail
     go_roundg (q - i)
     case measure=>rw[HG2.out];omega
     case rel=>exact ⟨q,rfl,by omega,by omega,by go_num,by rw[←HW.out];exact HSW.out.1,HX2.out.trans HSW.out.2⟩
    ·obtain rfl:k=i:=by omega
     go_wp2_with fail
     refine bodyPost_ret (v:=.tuple #[]) (results_none rfl _ _ _) rfl ?_
     exact ⟨⟨_,rfl⟩,Lib.hid ⟨_,hW,by rw[HE.out];exact HD.out.2,by rw[HE.out];exact HD.out.1⟩,HX2.out⟩
end
section
variable {cap sz blk n:Nat} {lt:(Zb × Nat)→(Zb × Nat)→Prop}
theorem Sn {a m b:Nat} {f g:Nat→(Zb × Nat)} (h:Y2 lt Prod.snd a m b f) (hg:∀ i,a≤i→i<b→g i=f i):Y2 lt Prod.snd a m b g :=
 ⟨h.am,h.mb,h.left.congr (fun i h1 h2=>hg i h1 (by have:=h.mb;omega)),h.right.congr (fun i h1 h2=>hg i (by have:=h.am;omega) h2),fun i j h1 h2 h3 h4=>by have e1:=h.am;have e2:=h.mb;rw[hg i h1 (by omega),hg j (by omega) h4];exact h.apart i j h1 h2 h3 h4⟩
theorem Z0B (a m b:Nat) (f:Nat→(Zb × Nat)) (w:World) (hS:Z9 Zi 28 183 sz w blk n f) (R:Wd lt Prod.snd (fun x y:(Zb × Nat)=>Y3 x.1 y.1)) (h:Y2 lt Prod.snd a m b f) (h1:a+1<m) (h2:m+1<b) (hbn:b≤n) (hcap:n≤cap) (hn:cap≤maxLen) (hN:n≤1000000) (IH:∀ (a' m' b':Nat) (f':Nat→(Zb × Nat)) (w0:World),b' - a'<b - a→Z9 Zi 28 183 sz w0 blk n f'→Y2 lt Prod.snd a' m' b' f'→b'≤n→Calls Tryz.prog 143 #[.slice (some ⟨blk,0,none⟩) n cap,.int .i64 a',.int .i64 m',.int .i64 b',.func (.func 98) #[] #[]] w0 fun e w'=>(∃ v,e=.returned v)∧Hid (∃ g,Z9 Zi 28 183 sz w' blk n g∧Zt a' b' f' g∧ZS lt a' b' g)∧Ext (·=blk) w0 w') :
  Calls Tryz.prog 143 #[.slice (some ⟨blk,0,none⟩) n cap,.int .i64 a,.int .i64 m,.int .i64 b,.func (.func 98) #[] #[]] w fun e w'=>(∃ v,e=.returned v)∧Hid (∃ g,Z9 Zi 28 183 sz w' blk n g∧Zt a b f g∧ZS lt a b g)∧Ext (·=blk) w w':=by
 have HN:=Lib.hid hn
 unfold maxLen at hn
 have HR:=Lib.hid R
 have HM:=Lib.hid h
 have HI:=Lib.hid IH
 clear R h IH
 have t1:((m:Int) - (a:Int) == 1)=false:=by rw[beq_eq_false_iff_ne];omega
 have t2:((b:Int) - (m:Int) == 1)=false:=by rw[beq_eq_false_iff_ne];omega
 obtain ⟨c0,hc0⟩:∃ c0:Nat,c0=(a+b) / 2:=⟨_,rfl⟩
 have hcc:a<c0∧c0<b:=by omega
 have hcz:((a:Int)+(b:Int)) / 2=(c0:Int):=by omega
 have hc3:2*c0≤a+b∧a+b≤2*c0+1:=by omega
 clear hc0
 go_enter Tryz.func143,Tryz.ntmps143
 go_upto_if 140 with fail
 go_cut [20,21] (fun sv rv wx=>∃ s r:Nat,sv=.int .i64 s∧rv=.int .i64 r∧a≤s∧s≤r∧r≤m∧c0+m≤b+s∧r≤c0∧Hid (s=a∨c0+m - s=b∨¬ lt (f (c0+m - s)) (f (s - 1)))∧Hid (r=m∨c0+m - r=m∨lt (f (c0+m - r - 1)) (f r))∧w=wx)
 case first=>as_aux_lemma =>
  clear hcz
  by_cases hgt:c0<m
  ·go_wp2_with fail
   go_meet
   exact ⟨c0+m - b,c0,by go_num,rfl,by omega,by omega,by omega,by omega,Nat.le_refl _,Jh (.inr (.inl (by omega))),Jh (.inr (.inl (by omega))),rfl⟩
  ·go_wp2_with fail
   go_meet
   exact ⟨a,m,rfl,rfl,Nat.le_refl _,by omega,Nat.le_refl _,by omega,by omega,Jh (.inl rfl),Jh (.inl rfl),rfl⟩
 case rest =>
  obtain ⟨s0,r0,rfl,rfl,i1,i2,i3,i4,i5,l1,l2,rfl⟩:=hcut
  clear hcz
  go_wp2_with fail
  go_loopg [20,21] (r0 - s0) (fun g0 sv rv wx=>∃ s r:Nat,g0=r - s∧sv=.int .i64 s∧rv=.int .i64 r∧a≤s∧s≤r∧r≤m∧c0+m≤b+s∧r≤c0∧Hid (s=a∨c0+m - s=b∨¬ lt (f (c0+m - s)) (f (s - 1)))∧Hid (r=m∨c0+m - r=m∨lt (f (c0+m - r - 1)) (f r))∧Z9 Zi 28 183 sz wx blk n f∧Ext (·=blk) w wx)
  case atStart=>exact ⟨s0,r0,rfl,rfl,rfl,i1,i2,i3,i4,i5,l1,l2,hS,Ext.refl _ _⟩
  case round =>
   clear i1 i2 i3 i4 i5 l1 l2 hS
   obtain ⟨s,r,hg,rfl,rfl,i1,i2,i3,i4,i5,l1,l2,hW,hx⟩:=hrel
   have HG:=Lib.hid hg
   clear hg
   have HX:=Lib.hid hx
   clear hx
   by_cases hlt:s<r
   ·as_aux_lemma =>
    obtain ⟨c,hh⟩:∃ c:Nat,c=(s+r) / 2:=⟨_,rfl⟩
    have hhi:s≤c∧c<r:=by omega
    have hhz:((s:Int)+(r:Int)) / 2=(c:Int):=by omega
    obtain ⟨q,hq⟩:∃ q:Nat,q=c0+m - 1 - c:=⟨_,rfl⟩
    have hqn:q<n:=by omega
    have hcn:c<n:=by omega
    have iwq:IntKind.i64.wrap ((c0:Int)+(m:Int) - 1 - (c:Int))=(q:Int):=by rw[show (c0:Int)+(m:Int) - 1 - (c:Int)=(q:Int) by omega];exact IntWalk.i64_in _ (by omega)
    have b0q:(0:Int)≤(q:Int):=by omega
    have b1q:(q:Int)<(n:Int):=by omega
    have b0c:(0:Int)≤(c:Int):=by omega
    have b1c:(c:Int)<(n:Int):=by omega
    have eq1:c0+m - c - 1=q:=by omega
    have eq2:c0+m - (c+1)=q:=by omega
    have EQ1:=Lib.hid eq1
    have EQ2:=Lib.hid eq2
    clear eq1 eq2
    obtain ⟨x,hx⟩:∃ x,x=f q:=⟨_,rfl⟩
    have HRx:=Lib.hid hx
    obtain ⟨y,hy⟩:∃ y,y=f c:=⟨_,rfl⟩
    have HRy:=Lib.hid hy
    have hcc2:Y3 x.1 y.1<0↔lt (f q) (f c):=by rw[hx,hy];exact HR.out.says _ _ (HM.out.apart c q (by omega) (by omega) (by omega) (by omega))
    have HCC:=Lib.hid hcc2
    clear hcc2 hx hy hh hq
    go_wp2_with fail
    clear hhz
    have iap:(0:Int)≤(q:Int):=by omega
    have ibp:(q:Int)<(n:Int):=by omega
    have icp:((q:Int)).toNat=q:=by omega
    have idp:IntKind.i64.wrap ((q:Int))=(q:Int):=IntWalk.i64_in _ (by omega)
    have iaq:(0:Int)≤(c:Int):=by omega
    have ibq:(c:Int)<(n:Int):=by omega
    have icq:((c:Int)).toNat=c:=by omega
    have idq:IntKind.i64.wrap ((c:Int))=(c:Int):=IntWalk.i64_in _ (by omega)
    have hS0:(fun W=>Z9 Zi 28 183 sz W blk n f) wr.drew:=hW.drew
    have b00:Below wr.heap.size wr wr.drew:=(Below.refl _ _).drew
    refine wp_region_held_drew (S:=(fun W=>Z9 Zi 28 183 sz W blk n f)) (by kernel_rfl) hS0 (fun _=>?_)
    generalize wr.drew=W1 at hS0 b00 ⊢
    refine Za (i:=0) (d:=some 158) rfl rfl (by kernel_rfl) (by kernel_rfl) (by kernel_rfl) (fun _ _ _ h=>h) (.inl ⟨by rfl,fun W hW=>by go_simp;rfl⟩) hS0 ?_
    try simp only[Ja]
    refine Za (i:=1) (d:=some 159) rfl rfl (by kernel_rfl) (by kernel_rfl) (by kernel_rfl) (fun _ _ _ h=>h) (.inl ⟨by rfl,fun W hW=>by go_simp;rfl⟩) hS0 ?_
    try simp only[Ja]
    refine Za (i:=2) (d:=some 160) rfl rfl (by kernel_rfl) (by kernel_rfl) (by kernel_rfl) (fun _ _ _ h=>h) (.inl ⟨by rfl,fun W hW=>by go_simp;rfl⟩) hS0 ?_
    try simp only[Ja]
    refine Za (i:=3) (d:=some 161) rfl rfl (by kernel_rfl) (by kernel_rfl) (by kernel_rfl) (fun _ _ _ h=>h) (.inl ⟨by rfl,fun W hW=>by go_simp;rfl⟩) hS0 ?_
    try simp only[Ja]
    refine Za (i:=4) (d:=some 162) rfl rfl (by kernel_rfl) (by kernel_rfl) (by kernel_rfl) (fun _ _ _ h=>h) (.inl ⟨by rfl,fun W hW=>by go_simp;rfl⟩) hS0 ?_
    try simp only[Ja]
    refine Za (i:=5) (d:=some 163) rfl rfl (by kernel_rfl) (by kernel_rfl) (by kernel_rfl) (fun _ _ _ h=>h) (.inl ⟨by rfl,fun W hW=>by go_simp;rfl⟩) hS0 ?_
    try simp only[Ja]
    refine Za (i:=6) (d:=some 164) (v:=.agg (Zi x).toArray) rfl rfl (by kernel_rfl) (by kernel_rfl) (by kernel_rfl) (fun _ _ _ h=>h) (.inl ⟨by rfl,fun W hW=>ZT rfl rfl (by rw[HRx.out];exact Z9.load hW Yk YX hqn)⟩) hS0 ?_
    try simp only[Ja]
    refine Za (i:=7) (d:=some 165) rfl rfl (by kernel_rfl) (by kernel_rfl) (by kernel_rfl) (fun _ _ _ h=>h) (.inl ⟨by rfl,fun W hW=>by go_simp;rfl⟩) hS0 ?_
    try simp only[Ja]
    refine Za (i:=8) (d:=some 166) rfl rfl (by kernel_rfl) (by kernel_rfl) (by kernel_rfl) (fun _ _ _ h=>h) (.inl ⟨by rfl,fun W hW=>by go_simp;rfl⟩) hS0 ?_
    try simp only[Ja]
    refine Za (i:=9) (d:=some 167) rfl rfl (by kernel_rfl) (by kernel_rfl) (by kernel_rfl) (fun _ _ _ h=>h) (.inl ⟨by rfl,fun W hW=>by go_simp;rfl⟩) hS0 ?_
    try simp only[Ja]
    refine Za (i:=10) (d:=some 168) (v:=.agg (Zi y).toArray) rfl rfl (by kernel_rfl) (by kernel_rfl) (by kernel_rfl) (fun _ _ _ h=>h) (.inl ⟨by rfl,fun W hW=>ZT rfl rfl (by rw[HRy.out];exact Z9.load hW Yk YX hcn)⟩) hS0 ?_
    try simp only[Ja]
    refine VK (i:=11) (d:=some 169) (by kernel_rfl) rfl rfl (by rfl) (by go_simp;first|rfl|exact ⟨rfl,rfl⟩|exact ⟨⟨rfl,rfl⟩,rfl⟩) ?_
    (refine (Vg x.1 y.1 _).mono ?_)
    rintro e w5 ⟨rfl,b5⟩
    have hS5:(fun W=>Z9 Zi 28 183 sz W blk n f) w5:=Z9.below hS0 b5
    replace b5:=b00.trans (b5.mono b00.size)
    refine ⟨_,rfl,hS5,?_⟩
    try simp only[Ja]
    clear hS0 b00
    refine Za (i:=12) (d:=some 170) rfl rfl (by kernel_rfl) (by kernel_rfl) (by kernel_rfl) (fun _ _ _ h=>h) (.inl ⟨by rfl,fun W hW=>by go_simp;rfl⟩) hS5 ?_
    try simp only[Ja]
    refine Za (i:=13) (d:=some 171) rfl rfl (by kernel_rfl) (by kernel_rfl) (by kernel_rfl) (fun _ _ _ h=>h) (.inl ⟨by rfl,fun W hW=>by go_simp;rfl⟩) hS5 ?_
    try simp only[Ja]
    refine wpAnyH_done (by kernel_rfl) ?_ _
    clear hS5 HRx HRy
    have HS5:=Jh (hW.below b5)
    have HX5:=Jh (HX.out.then_below b5)
    clear  hW b5 iwq
    by_cases hc:Y3 x.1 y.1<0
    ·have hcb:decide (Y3 x.1 y.1<0)=true:=decide_eq_true hc
     simp only[hcb,Bool.not_true]
     go_wp2_with fail
     go_roundg (c - s)
     case measure=>rw[HG.out];omega
     case rel=>exact ⟨s,c,rfl,rfl,rfl,i1,by omega,by omega,i4,by omega,l1,Jh (.inr (.inr (by rw[EQ1.out];exact HCC.out.1 hc))),HS5.out,HX5.out⟩
    ·have hcb:decide (Y3 x.1 y.1<0)=false:=decide_eq_false hc
     simp only[hcb,Bool.not_false]
     go_wp2_with fail
     go_roundg (r - (c+1))
     case measure=>rw[HG.out];omega
     case rel=>exact ⟨c+1,r,rfl,by go_num,rfl,by omega,by omega,i3,by omega,i5,Jh (.inr (.inr (by rw[EQ2.out,Nat.add_sub_cancel];exact fun t=>by have:=HCC.out.2 t;omega))),l2,HS5.out,HX5.out⟩
   ·obtain rfl:s=r:=by omega
    obtain ⟨e1,he1⟩:∃ e1:Nat,e1=c0+m - s:=⟨_,rfl⟩
    have iwe:((c0:Int)+(m:Int) - (s:Int))=(e1:Int):=by omega
    have hce:s+e1=c0+m:=by omega
    have HC:Hid (Xa lt a m b c0 s e1 f):=Lib.hid ⟨i1,i3,by omega,by omega,by omega,by rw[he1];exact l1.out,by rw[he1];exact l2.out⟩
    clear l1 l2 he1 hlt
    go_upto_region 39 with fail
    clear iwe
    go_cut [185] (fun cv wx=>cv=.bool (decide (s<m) && decide (m<e1))∧wr=wx)
    case first=>as_aux_lemma =>
     by_cases hs1:s<m
     ·by_cases hs2:m<e1
      ·go_wp2_with fail
       go_meet
       exact ⟨by simp[hs1,hs2],rfl⟩
      ·go_wp2_with fail
       go_meet
       exact ⟨by simp[hs1,hs2],rfl⟩
     ·go_wp2_with fail
      go_meet
      exact ⟨by simp[hs1],rfl⟩
    case rest =>
     obtain ⟨rfl,rfl⟩:=hcut
     go_upto_if 185 with fail
     go_cut [] (fun wx=>Z9 Zi 28 183 sz wx blk n (Yr f s m e1)∧Ext (·=blk) w wx)
     case first=>as_aux_lemma =>
      by_cases hs:s<m∧m<e1
      ·have hb:(decide (s<m) && decide (m<e1))=true:=by simp[hs.1,hs.2]
       simp only[hb]
       go_wp2_with fail
       (with_reducible refine (Z0W s m e1 f _ _ hW hs.1 hs.2 (by omega) hcap HN.out).mono ?_)
       rintro e w5 ⟨⟨v5,rfl⟩,s5,x5⟩
       go_wp2_with fail
       go_meet
       exact ⟨s5,HX.out.trans x5⟩
      ·have hb:(decide (s<m) && decide (m<e1))=false:=by rw[Bool.eq_false_iff];simpa using hs
       simp only[hb]
       go_wp2_with fail
       go_meet
       exact ⟨by rw[Z3h f i3 (by omega) (by omega)];exact hW,HX.out⟩
     case rest =>
      obtain ⟨hW2,hx2⟩:=hcut
      have HX2:=Lib.hid hx2
      clear hx2 hW
      go_upto_region 41 with fail
      go_cut [199] (fun cv wx=>cv=.bool (decide (a<s) && decide (s<c0))∧wc=wx)
      case first=>as_aux_lemma =>
       by_cases hs1:a<s
       ·by_cases hs2:s<c0
        ·go_wp2_with fail
         go_meet
         exact ⟨by simp[hs1,hs2],rfl⟩
        ·go_wp2_with fail
         go_meet
         exact ⟨by simp[hs1,hs2],rfl⟩
       ·go_wp2_with fail
        go_meet
        exact ⟨by simp[hs1],rfl⟩
      case rest =>
       obtain ⟨rfl,rfl⟩:=hcut
       go_upto_if 199 with fail
       go_cut [] (fun wx=>Hid (∃ g,Z9 Zi 28 183 sz wx blk n g∧Zt a c0 (Yr f s m e1) g∧ZS lt a c0 g)∧Ext (·=blk) w wx)
       case first=>as_aux_lemma =>
        by_cases hs:a<s∧s<c0
        ·have hb:(decide (a<s) && decide (s<c0))=true:=by simp[hs.1,hs.2]
         simp only[hb]
         go_wp2_with fail
         (with_reducible refine (HI.out a s c0 _ _ (by omega) hW2 (HC.out.pre1 HM.out hs.1 hs.2) (by omega)).mono ?_)
         rintro e w5 ⟨⟨v5,rfl⟩,s5,x5⟩
         go_wp2_with fail
         go_meet
         exact ⟨s5,HX2.out.trans x5⟩
        ·have hb:(decide (a<s) && decide (s<c0))=false:=by rw[Bool.eq_false_iff];simpa using hs
         simp only[hb]
         go_wp2_with fail
         go_meet
         exact ⟨Lib.hid ⟨_,hW2,Zt.refl _ _ _,HC.out.sort1 HM.out hs⟩,HX2.out⟩
       case rest =>
        obtain ⟨hQ,hx3⟩:=hcut
        have HX3:=Lib.hid hx3
        clear hx3 hW2
        obtain ⟨g1,hW3,p1,q1⟩:=hQ.out
        have P1:=Lib.hid p1
        have Q1:=Lib.hid q1
        clear p1 q1 hQ
        go_upto_region 43 with fail
        go_cut [213] (fun cv wx=>cv=.bool (decide (c0<e1) && decide (e1<b))∧wc=wx)
        case first=>as_aux_lemma =>
         by_cases hs1:c0<e1
         ·by_cases hs2:e1<b
          ·go_wp2_with fail
           go_meet
           exact ⟨by simp[hs1,hs2],rfl⟩
          ·go_wp2_with fail
           go_meet
           exact ⟨by simp[hs1,hs2],rfl⟩
         ·go_wp2_with fail
          go_meet
          exact ⟨by simp[hs1],rfl⟩
        case rest =>
         obtain ⟨rfl,rfl⟩:=hcut
         go_upto_if 213 with fail
         have hfin:∀ (g2:Nat→(Zb × Nat)) (w6:World),Z9 Zi 28 183 sz w6 blk n g2→Zt c0 b g1 g2→ZS lt c0 b g2→Hid (∃ g,Z9 Zi 28 183 sz w6 blk n g∧Zt a b f g∧ZS lt a b g):=fun g2 w6 W6 p2 q2=>Lib.hid ⟨g2,W6,((Z1S f i3 (by omega) i1 (by omega)).trans (P1.out.mono (Nat.le_refl _) (by omega))).trans (p2.mono (by omega) (Nat.le_refl _)),Qt (fun i j=>HC.out.cross HR.out HM.out) P1.out Q1.out p2 q2⟩
         have HF:=Lib.hid hfin
         clear hfin
         by_cases hs:c0<e1∧e1<b
         ·have hb:(decide (c0<e1) && decide (e1<b))=true:=by simp[hs.1,hs.2]
          simp only[hb]
          go_wp2_with fail
          (with_reducible refine (HI.out c0 e1 b _ _ (by omega) hW3 (Sn (HC.out.pre2 HM.out hs.1 hs.2) (fun i h1 h2=>P1.out.out (.inr h1))) (by omega)).mono ?_)
          rintro e w5 ⟨⟨v5,rfl⟩,s5,x5⟩
          go_wp2_with fail
          go_end0
          obtain ⟨g2,a1,a2,a3⟩:=s5.out
          exact ⟨⟨_,rfl⟩,HF.out g2 _ a1 a2 a3,HX3.out.trans x5⟩
         ·have hb:(decide (c0<e1) && decide (e1<b))=false:=by rw[Bool.eq_false_iff];simpa using hs
          simp only[hb]
          go_wp2_with fail
          go_end0
          exact ⟨⟨_,rfl⟩,HF.out g1 _ hW3 (Zt.refl _ _ _) ((HC.out.sort2 HM.out hs).congr (fun i h1 h2=>P1.out.out (.inr h1))),HX3.out⟩
theorem UQ:∀ (k a m b:Nat) (f:Nat→(Zb × Nat)) (w:World),b - a≤k→Z9 Zi 28 183 sz w blk n f→Wd lt Prod.snd (fun x y:(Zb × Nat)=>Y3 x.1 y.1)→Y2 lt Prod.snd a m b f→b≤n→n≤cap→cap≤maxLen→n≤1000000→Calls Tryz.prog 143 #[.slice (some ⟨blk,0,none⟩) n cap,.int .i64 a,.int .i64 m,.int .i64 b,.func (.func 98) #[] #[]] w fun e w'=>(∃ v,e=.returned v)∧Hid (∃ g,Z9 Zi 28 183 sz w' blk n g∧Zt a b f g∧ZS lt a b g)∧Ext (·=blk) w w'
 | 0,a,m,b,f,w,hk,hS,R,h,hbn,hcap,hn,hN=>by have e1:=h.am;have e2:=h.mb;omega
 | k+1,a,m,b,f,w,hk,hS,R,h,hbn,hcap,hn,hN=>by
  by_cases c1:m=a+1
  ·exact Z0Z a m b c1 f w hS R h hbn hcap hn hN
  ·by_cases c2:b=m+1
   ·exact Z0y a m b c2 f w hS R h (by have:=h.am;omega) hbn hcap hn hN
   ·exact Z0B a m b f w hS R h (by have:=h.am;omega) (by have:=h.mb;omega) hbn hcap hn hN (fun a' m' b' f' w0 h1 h2 h3 h4=>UQ k a' m' b' f' w0 (by omega) h2 R h3 h4 hcap hn hN)
end
section
variable {cap sz blk n:Nat} {lt:(Zb × Nat)→(Zb × Nat)→Prop}
theorem UC (a b:Nat) (f:Nat→(Zb × Nat)) (w:World) (hS:Z9 Zi 28 183 sz w blk n f) (R:Wd lt Prod.snd (fun x y:(Zb × Nat)=>Y3 x.1 y.1)) (hab:a≤b) (hbn:b≤n) (hcap:n≤cap) (hn:cap≤maxLen) (hN:n≤1000000) (hp:∀ p q,a≤p→p<q→q<b→(f p).2<(f q).2):Calls Tryz.prog 142 #[.slice (some ⟨blk,0,none⟩) n cap,.int .i64 a,.int .i64 b,.func (.func 98) #[] #[]] w fun e w'=>(∃ v,e=.returned v)∧Hid (∃ g,Z9 Zi 28 183 sz w' blk n g∧Zt a b f g∧ZS lt a b g)∧Ext (·=blk) w w':=by
 by_cases h:a<b
 ·exact R7 a b f w hS R h hbn hcap hn hp
 ·obtain rfl:a=b:=by omega
  refine (VW _ a _ w (by omega)).mono ?_
  rintro e w' ⟨h1,rfl⟩
  exact ⟨h1,Lib.hid ⟨f,hS,Zt.refl _ _ _,fun i j h1 h2 h3=>by omega⟩,Ext.refl _ _⟩
theorem Qu (v fv:Value) (w:World):Calls Tryz.prog 129 #[v,.int .i64 0,fv] w fun e w'=>(∃ v,e=.returned v)∧w=w':=by
 go_enter Tryz.func129,Tryz.ntmps129
 go_wp2_with fail
 go_loopg [7,8] 1 (fun g av bv wx=>av=.int .i64 (0:Nat)∧bv=.int .i64 20∧w=wx)
 case atStart=>exact ⟨rfl,rfl,rfl⟩
 case round =>
  obtain ⟨rfl,rfl,rfl⟩:=hrel
  go_wp2_with fail
  have hK:=VW v 0 fv w (by omega)
  push_cast at hK
  (with_reducible refine hK.mono ?_)
  clear hK
  rintro e w5 ⟨⟨v5,rfl⟩,rfl⟩
  go_wp2_with fail
  go_loopg [6] 1 (fun g sv wx=>sv=.int .i64 20∧w=wx)
  case atStart=>exact ⟨rfl,rfl⟩
  case round =>
   obtain ⟨rfl,rfl⟩:=hrel
   go_wp2_with fail
   go_end0
   exact ⟨⟨_,rfl⟩,rfl⟩
theorem Z05 (f:Nat→(Zb × Nat)) (w:World) (hS:Z9 Zi 28 183 sz w blk n f) (R:Wd lt Prod.snd (fun x y:(Zb × Nat)=>Y3 x.1 y.1)) (hcap:n≤cap) (hn:cap≤maxLen) (hN:n≤1000000) (hp:∀ p q,p<q→q<n→(f p).2<(f q).2) :
  Calls Tryz.prog 129 #[.slice (some ⟨blk,0,none⟩) n cap,.int .i64 n,.func (.func 98) #[] #[]] w fun e w'=>(∃ v,e=.returned v)∧Hid (∃ g,Z9 Zi 28 183 sz w' blk n g∧Zt 0 n f g∧ZS lt 0 n g)∧Ext (·=blk) w w':=by
 have HN:=Lib.hid hn
 unfold maxLen at hn
 have HR:=Lib.hid R
 have HP:=Lib.hid hp
 clear R hp
 go_enter Tryz.func129,Tryz.ntmps129
 go_wp2_with fail
 go_loopg [7,8] (n+20) (fun g0 av bv wx=>∃ (a:Nat) (g:Nat→(Zb × Nat)),g0+a=n+20∧a≤n∧av=.int .i64 a∧bv=.int .i64 (a+20:Nat)∧Z9 Zi 28 183 sz wx blk n g∧Hid (Zt 0 n f g)∧Hid (Wn lt f 20 g a)∧Hid (∀ i,a≤i→i<n→g i=f i)∧Ext (·=blk) w wx)
 case atStart=>exact ⟨0,f,by omega,Nat.zero_le _,rfl,rfl,hS,Jh (Zt.refl _ _ _),Lib.hid .zero,Jh (fun _ _ _=>rfl),Ext.refl _ _⟩
 case round =>
  obtain ⟨a,g,hg,han,rfl,rfl,hW,hpm,hfr,hre,hx⟩:=hrel
  have HG:=Lib.hid hg
  clear hg hS
  have HX:=Lib.hid hx
  clear hx
  have hpos:∀ b,b≤n→∀ p q,a≤p→p<q→q<b→(g p).2<(g q).2:=fun b hb p q h1 h2 h3=>by rw[hre.out p h1 (by omega),hre.out q (by omega) (by omega)];exact HP.out p q h2 (by omega)
  have HO:=Lib.hid hpos
  clear hpos
  by_cases hlt:a+20≤n
  ·go_wp2_with fail
   have hK:=UC a (a+20) g _ hW HR.out (by omega) hlt hcap HN.out hN (HO.out _ hlt)
   rw[show ((a+20:Nat):Int)=(a:Int)+20 by omega] at hK
   (with_reducible refine hK.mono ?_)
   clear hK
   rintro e w5 ⟨⟨v5,rfl⟩,s5,x5⟩
   obtain ⟨g1,W1,p1,q1⟩:=s5.out
   have P1:=Lib.hid p1
   have Q1:=Lib.hid q1
   clear p1 q1 s5
   go_wp2_with fail
   go_roundg (n - a)
   case measure=>have:=HG.out;omega
   case rel=>exact ⟨a+20,g1,by omega,hlt,rfl,by go_num,W1,Jh (hpm.out.trans (P1.out.mono (Nat.zero_le _) hlt)),Jh (.snoc (hfr.out.congr fun i h=>P1.out.out (.inl h)) (TY (fun i h1 h2=>hre.out i h1 (by omega)) P1.out Q1.out)),Jh (fun i h1 h2=>by rw[P1.out.out (.inr h1)];exact hre.out i (by omega) h2),HX.out.trans x5⟩
  ·go_wp2_with fail
   have hK:=UC a n g _ hW HR.out han (Nat.le_refl _) hcap HN.out hN (HO.out _ (Nat.le_refl _))
   push_cast at hK
   (with_reducible refine hK.mono ?_)
   clear hK
   rintro e w5 ⟨⟨v5,rfl⟩,s5,x5⟩
   obtain ⟨g1,W1,p1,q1⟩:=s5.out
   have hru:Xy lt f 20 n g1 0:=Wn.runs (hfr.out.congr fun i h=>p1.out (.inl h)) han (by
    by_cases ha:a<n
    ·exact .step ha (by rw[Nat.min_eq_right (by omega)];exact TY (fun i h1 h2=>hre.out i h1 h2) p1 q1) (.done (by omega))
    ·exact .done (by omega))
   have HRU:=Lib.hid hru
   have HPM:=Jh (hpm.out.trans (p1.mono (Nat.zero_le _) (Nat.le_refl _)))
   have HX1:=Jh (HX.out.trans x5)
   clear hru p1 q1 s5 x5 hpm hfr hre hW
   go_wp2_with fail
   go_loopg [6] (n - 20) (fun g0 sv wx=>∃ (s:Nat) (g:Nat→(Zb × Nat)),g0=n - s∧1≤s∧s≤2*n+20∧sv=.int .i64 s∧Z9 Zi 28 183 sz wx blk n g∧Hid (Zt 0 n f g)∧Hid (Xy lt f s n g 0)∧Ext (·=blk) w wx)
   case atStart=>exact ⟨20,g1,rfl,by omega,by omega,rfl,W1,HPM,HRU,HX1.out⟩
   case round =>
    clear HPM HRU HX1 W1 HG HX HO
    obtain ⟨s,g,hg,hs1,hs2,rfl,hW,hpm,hru,hx⟩:=hrel
    have HG:=Lib.hid hg
    clear hg
    have HX:=Lib.hid hx
    clear hx
    by_cases hsn:s<n
    ·obtain ⟨wo,hwo⟩:∃ wo:World,wo=wr:=⟨_,rfl⟩
     subst hwo
     go_wp2_with fail
     go_loopg [7,8] (n+2*s) (fun g0 av bv wx=>∃ (a:Nat) (g:Nat→(Zb × Nat)),g0+a=n+2*s∧a≤n∧av=.int .i64 a∧bv=.int .i64 (a+2*s:Nat)∧Z9 Zi 28 183 sz wx blk n g∧Hid (Zt 0 n f g)∧Hid (Wn lt f (2*s) g a)∧Hid (Xy lt f s n g a)∧Ext (·=blk) w wx)
     case atStart=>exact ⟨0,g,by omega,Nat.zero_le _,rfl,by go_num,hW,hpm,Lib.hid .zero,hru,HX.out⟩
     case round =>
      clear hpm hru HX hW
      obtain ⟨a,g,hg,han,rfl,rfl,hW,hpm,hfr,hru,hx⟩:=hrel
      have HG2:=Lib.hid hg
      clear hg
      have HX:=Lib.hid hx
      clear hx
      by_cases hlt:a+2*s≤n
      ·have r1:=hru.out.first (by omega)
       have r2:=r1.2.first (by omega)
       rw[Nat.min_eq_left (by omega)] at r1 r2
       have e2:a+s+s=a+2*s:=by omega
       rw[e2] at r2
       have Q1:=Lib.hid r1.1
       have Q2:=Lib.hid r2.1
       have Q3:=Lib.hid r2.2
       clear r1 r2 e2
       have hpre:=Jh (T7 (pos:=Prod.snd) (show a<a+s by omega) (show a+s<a+2*s by omega) hlt HP.out Q1.out Q2.out)
       go_wp2_with fail
       have hK:=UQ (2*s) a (a+s) (a+2*s) g _ (by omega) hW HR.out hpre.out hlt hcap HN.out hN
       push_cast at hK
       (with_reducible refine hK.mono ?_)
       clear hK
       rintro e w5 ⟨⟨v5,rfl⟩,s5,x5⟩
       obtain ⟨g1,W1,p1,q1⟩:=s5.out
       have P1:=Lib.hid p1
       have O1:=Lib.hid q1
       clear p1 q1 s5
       go_wp2_with fail
       go_roundg (n+2*s - (a+2*s))
       case measure=>have:=HG2.out;omega
       case rel=>exact ⟨a+2*s,g1,by omega,hlt,rfl,by go_num,W1,Jh (hpm.out.trans (P1.out.mono (Nat.zero_le _) hlt)),Jh (.snoc (hfr.out.congr fun i h=>P1.out.out (.inl h)) (Z28 (by omega) (by omega) Q1.out Q2.out P1.out O1.out)),Jh (Q3.out.congr fun i h1 h2=>P1.out.out (.inr h1)),HX.out.trans x5⟩
      ·by_cases hmn:a+s<n
       ·have r1:=hru.out.first (by omega)
        have r2:=r1.2.first (by omega)
        rw[Nat.min_eq_left (by omega)] at r1
        rw[Nat.min_eq_right (by omega)] at r2
        have Q1:=Lib.hid r1.1
        have Q2:=Lib.hid r2.1
        clear r1 r2
        have hpre:=Jh (T7 (pos:=Prod.snd) (show a<a+s by omega) (show a+s<n by omega) (Nat.le_refl _) HP.out Q1.out Q2.out)
        go_wp2_with fail
        have hK:=UQ (2*s) a (a+s) n g _ (by omega) hW HR.out hpre.out (Nat.le_refl _) hcap HN.out hN
        push_cast at hK
        (with_reducible refine hK.mono ?_)
        clear hK
        rintro e w5 ⟨⟨v5,rfl⟩,s5,x5⟩
        obtain ⟨g1,W1,p1,q1⟩:=s5.out
        have P1:=Lib.hid p1
        have O1:=Lib.hid q1
        clear p1 q1 s5
        go_wp2_with fail
        go_roundg (n - 2*s)
        case measure=>rw[HG.out];omega
        case rel=>exact ⟨2*s,g1,rfl,by omega,by omega,by go_num,W1,Jh (hpm.out.trans (P1.out.mono (Nat.zero_le _) (Nat.le_refl _))),Jh (Wn.runs (hfr.out.congr fun i h=>P1.out.out (.inl h)) han (.step (by omega) (by rw[Nat.min_eq_right (by omega)];exact Z28 (by omega) (by omega) Q1.out Q2.out P1.out O1.out) (.done (by omega)))),HX.out.trans x5⟩
       ·go_wp2_with fail
        go_roundg (n - 2*s)
        case measure=>rw[HG.out];omega
        case rel=>exact ⟨2*s,g,rfl,by omega,by omega,by go_num,hW,hpm,Jh (hfr.out.runs han (hru.out.last (by omega) (by omega))),HX.out⟩
    ·go_wp2_with fail
     go_end0
     exact ⟨⟨_,rfl⟩,Lib.hid ⟨g,hW,hpm.out,hru.out.all (by omega)⟩,HX.out⟩
end
instance:Inhabited Zb:=⟨⟨⟨⟨0,0⟩,0,0,0,0,0,0,0,0,0,⟨0,0⟩,0,0,⟨0,0⟩,⟨#[]⟩,⟨#[]⟩,⟨#[]⟩,⟨0,0⟩,false,⟨0,0⟩,false⟩,0,0⟩⟩
def Sj (x:Zb):St:=x.op.id
theorem Z0x:Wd (ltT ZK Sj) Prod.snd (fun x y:Zb × Nat=>Y3 x.1 y.1) :=
 Rm Zm (fun a b c h k=>ZC h k) Y8 (fun x y=>WA _ _)
theorem Sm {base:Nat} {w:World} {v:Value} {l:List Zb} (h:Own Zb.cells 28 183 base w v l) (hl:l.length≤1000000) :
  Calls Tryz.prog 97 #[v,.func (.func 98) #[] #[]] w
   fun e w'=>(∃ u,e=.returned u)∧Hid (∃ l',XS ZK Sj l l'∧Own Zb.cells 28 183 base w' v l')∧Ext (fun b=>v.ownBlock=some b) w w':=by
 rcases h.eq_slice with ⟨rfl,rfl⟩|⟨g,cap,rfl,hb,hg⟩
 ·go_enter Tryz.func97,Tryz.ntmps97
  go_wp2_with fail
  refine (Qu _ _ _).mono ?_
  rintro e w' ⟨⟨u,rfl⟩,rfl⟩
  have HO:=Lib.hid h
  clear h
  go_wp2_with fail
  go_end0
  exact ⟨⟨_,rfl⟩,Lib.hid ⟨[],⟨[],List.Perm.refl _,List.Pairwise.nil,rfl⟩,HO.out⟩,Ext.refl _ _⟩
 ·obtain ⟨hS,hbg,hlc,hcm⟩:=Own.slab (ea:=Zb.cells) (k:=28) (fun _=>rfl) h
  have hS2:Z9 Zi 28 183 (cap*28) w g l.length (Z0i l):=hS
  have HC:=Jh (Z05 (Z0i l) w hS2 Z0x hlc hcm hl (fun p q h1 _=>h1))
  have hll:(l.length:Int)≤1000000:=by omega
  have HB:=Lib.hid hbg
  have HL:=Lib.hid hlc
  have HM:=Lib.hid hcm
  clear h hS hS2 hb hbg hlc hcm hl
  go_enter Tryz.func97,Tryz.ntmps97
  go_wp2_with fail
  refine HC.out.mono ?_
  rintro e w' ⟨⟨u,rfl⟩,hq,hx⟩
  clear HC
  have HX:=Lib.hid hx
  clear hx
  go_wp2_with fail
  go_end0
  obtain ⟨f,h1,h2,h3⟩:=hq.out
  refine ⟨⟨_,rfl⟩,Lib.hid ⟨((List.range l.length).map f).map (·.1),⟨_,by rw[←Z2w];exact h2.list,h3.list,rfl⟩,?_⟩,HX.out.mono (fun b _ e=>by rw[e];rfl)⟩
  have h4:Z9 Zb.cells 28 183 (cap*28) w' g l.length (fun i=>(f i).1):=h1
  have:=Z9.own (ea:=Zb.cells) (k:=28) (fun _=>rfl) (by omega) h4 HB.out HL.out HM.out
  rw[List.map_map]
  have e1:((List.range l.length).map (Prod.fst ∘ f)).length=l.length:=by simp
  exact this
section
variable {P:Program}
theorem V9 {T:TypeId} {k b o:Nat} {w:World} {cs:List Value} (ht:XW P T k) (hk:cs.length=k) (hc:∀ j u,cs[j]?=some u→w.cell? ⟨b,o+j,none⟩=some u) :
  (Instr.loadAt T (.pointer (some ⟨b,o,none⟩))).run P w=.ok (.agg cs.toArray) w:=by
 have hl:=run_loadCells_list (P:=P) w ⟨b,o,none⟩ cs (fun j v hj=>by rw[Uo];exact hc j v hj)
 rw[hk] at hl
 simp[Instr.loadAt,Instr.sureAddr,loadVar,ht.agg,ht.size,hl]
theorem Uh (w:World) (o:Obj):(w.alloc o).heap[w.heap.size]?=some o:=by
 show (w.heap.push o)[w.heap.size]?=_
 simp
theorem ZG {w:World} {cs:List Value} {T:TypeId} (j:Nat) (u:Value) (h:cs[j]?=some u):(w.alloc (.cells cs.toArray T)).cell? ⟨w.heap.size,j,none⟩=some u:=by
 unfold World.cell?
 simp only[Uh]
 simpa using h
theorem XL {T:TypeId} {k:Nat} (ht:XW P T k) {W:World} {z:Array Value} {cs:List Value} (hz:z.size=cs.length) (hk:cs.length=k) (h1:∀ u∈cs,u.oneCell'=true) :
  (Instr.storeAt T (.pointer (some ⟨W.heap.size,0,none⟩)) (.agg cs.toArray)).run P (W.alloc (.cells z T))=.ok () (W.alloc (.cells cs.toArray T)):=by
 have hst:=run_storeCells_at P W.heap.size 0 T cs 0 z (W.alloc (.cells z T)) (Uh W _) (by omega) h1
 simp[Instr.storeAt,Instr.sureAddr,storeVar,ht.size,Value.cells,hk,hst]
 have e:z.toList.drop k=[]:=List.drop_eq_nil_of_le (by simp;omega)
 rw[e,List.append_nil]
 have e2:((W.alloc (.cells z T)).setRow W.heap.size cs.toArray).heap=(W.alloc (.cells cs.toArray T)).heap:=by
  refine Array.ext_getElem? fun i=>?_
  by_cases hi:W.heap.size=i
  ·subst hi
   rw[setRow_heap _ _ z _ T (0,0) (Uh W _),Uh]
  ·simp only[World.setRow,Array.getElem?_modify,if_neg hi]
   show (W.heap.push _)[i]?=(W.heap.push _)[i]?
   rw[Array.getElem?_push,Array.getElem?_push,if_neg (fun e=>hi (Eq.symm e)),if_neg (fun e=>hi (Eq.symm e))]
 have e3:∀ A B:World,A.heap=B.heap→A.tape=B.tape→A.drawn=B.drawn→A.os=B.os→A.output=B.output→A=B:=by
  rintro ⟨⟩ ⟨⟩ rfl rfl rfl rfl rfl
  rfl
 exact e3 _ _ e2 rfl rfl rfl rfl
end
section
variable {P:Program} {F:Fence} {m:Nat} {ops:Array Oper} {rest:List Oper} {o:Oper} {a:Act} {Q:Exit→Act→World→Prop} {W W':World}
theorem UR (hg:o.guard=none) {T:TypeId} {ps:Array (Nat × Operand)} {vs:Array (Nat × Value)} {v:Value} (ho:o.op=.build T ps) (hx:(ps.map fun p=>(p.1,a.eval p.2))=vs)
  (hr:(Instr.build T vs).run P W=.ok v W) (h:wpListIn F m P ops Q rest (a.put o.dst v) W):wpListIn F m P ops Q (o :: rest) a W:=by
 subst hx
 refine wpListIn_plain hg fun K hK'=>?_
 unfold Oper.wpIn
 refine ⟨by simp[Oper.about,ho],?_⟩
 rw[Oper.semAt_plain F _ _ (by rw[ho];intro c hc';cases hc')]
 simp[execOp,ho,hr,Result.andThen]
 exact hK' _ _ h
theorem Vy (hg:o.guard=none) {T:TypeId} {n:Nat} {ps:Array (Nat × Operand)} {vs:Array (Nat × Value)} {v:Value} (ho:o.op=.buildSlice T n ps) (hx:(ps.map fun p=>(p.1,a.eval p.2))=vs)
  (hr:(Instr.buildSlice T n vs).run P W=.ok v W') (h:wpListIn F m P ops Q rest (a.put o.dst v) W'):wpListIn F m P ops Q (o :: rest) a W:=by
 subst hx
 refine wpListIn_plain hg fun K hK'=>?_
 unfold Oper.wpIn
 refine ⟨by simp[Oper.about,ho],?_⟩
 rw[Oper.semAt_plain F _ _ (by rw[ho];intro c hc';cases hc')]
 simp[execOp,ho,hr,Result.andThen]
 exact hK' _ _ h
theorem UH (hg:o.guard=none) {T:TypeId} {p x:Operand} {q v:Value} (ho:o.op=.store T p x) (hp:a.eval p=q) (hx:a.eval x=v)
  (hr:(Instr.storeAt T q v).run P W=.ok () W') (h:wpListIn F m P ops Q rest (a.put o.dst undef) W'):wpListIn F m P ops Q (o :: rest) a W:=by
 refine wpListIn_plain hg fun K hK'=>?_
 unfold Oper.wpIn
 refine ⟨by simp[Oper.about,ho],?_⟩
 rw[Oper.semAt_plain F _ _ (by rw[ho];intro c hc';cases hc')]
 simp[execOp,ho,hp,hx,hr,Result.andThen]
 exact hK' _ _ h
theorem Wt (hg:o.guard=none) {T:TypeId} {p x:Operand} {q v:Value} (ho:o.op=.store T p x) (hp:a.eval p=q) (hx:a.eval x=v)
  (hr:(Instr.storeAt T q v).run P W=.ok () W') (h:wpList P ops Q rest (a.put o.dst undef) W'):wpList P ops Q (o :: rest) a W :=
 wpList_plain hg fun _ hK=>by
  rw[Oper.wp,YW ho hp hx hr]
  exact hK _ _ h
theorem Uw (hg:o.guard=none) {T:TypeId} {x0 x1 x2:Operand} {v0 v1 v2 v:Value} (ho:o.op=.build T #[(0,x0),(1,x1),(2,x2)]) (h0:a.eval x0=v0) (h1:a.eval x1=v1) (h2:a.eval x2=v2)
  (hr:(Instr.build T #[(0,v0),(1,v1),(2,v2)]).run P W=.ok v W) (h:wpListIn F m P ops Q rest (a.put o.dst v) W):wpListIn F m P ops Q (o :: rest) a W :=
 UR hg ho (by simp[h0,h1,h2]) hr h
theorem Uv (hg:o.guard=none) {T:TypeId} {n:Nat} {x0:Operand} {v0 v:Value} (ho:o.op=.buildSlice T n #[(0,x0)]) (h0:a.eval x0=v0)
  (hr:(Instr.buildSlice T n #[(0,v0)]).run P W=.ok v W') (h:wpListIn F m P ops Q rest (a.put o.dst v) W'):wpListIn F m P ops Q (o :: rest) a W :=
 Vy hg ho (by simp[h0]) hr h
end
end Go.Proofs.YtlgipkemoldckaaGreatDoor
