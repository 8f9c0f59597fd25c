/- ViewBuilds, part 4 of what the proof leans on (made short by a program). -/
import Derived.Test.YtlgipkemoldckaaGreatDoorVbZ3
import Derived.Laws.EntriesVeiled
import Derived.OpenShut
set_option linter.unusedSimpArgs false
set_option linter.unusedVariables false
set_option linter.unusedSectionVars false
set_option maxRecDepth 20000
set_option maxHeartbeats 30000000
namespace Go.Proofs.YtlgipkemoldckaaGreatDoor
open Go.RowKit
section
variable {cap sz blk n:Nat} {lt:(Zc × Nat)→(Zc × Nat)→Prop}
theorem VW (v:Value) (a:Nat) (fv:Value) (w:World) (hn:a<9223372036854775807) :
  Calls Tryz.prog 142 #[v,.int .i64 a,.int .i64 a,fv] w fun e w'=>(∃ v,e=.returned v)∧w=w':=by
 go_enter Tryz.func142,Tryz.ntmps142
 go_wp2_with fail
 go_loopg [8] 1 (fun g iv wx=>iv=.int .i64 (a+1:Nat)∧w=wx)
 case atStart=>exact ⟨by go_num,rfl⟩
 case round =>
  obtain ⟨rfl,rfl⟩:=hrel
  go_wp2_with fail
  go_end0
  exact ⟨⟨_,rfl⟩,rfl⟩
theorem SO (a b:Nat) (f:Nat→(Zc × Nat)) (w:World) (hS:Z8 Zh 28 183 sz w blk n f) (R:XX lt Prod.snd (fun x y:(Zc × Nat)=>ZZ x.1 y.1)) (hab:a<b) (hbn:b≤n) (hcap:n≤cap) (hn:cap≤maxLen) (hp:∀ p q,a≤p→p<q→q<b→(f p).2<(f q).2) :
  Calls Tryz.prog 142 #[.slice (some ⟨blk,0,none⟩) n cap,.int .i64 a,.int .i64 b,.func (.func 98) #[] #[]] w fun e w'=>(∃ v,e=.returned v)∧Hid (∃ g,Z8 Zh 28 183 sz w' blk n g∧Zs a b f g∧ZO lt a b g)∧Ext (·=blk) w w':=by
 unfold maxLen at hn
 have HR:=Lib.hid R
 have HP:=Lib.hid hp
 clear R hp
 go_enter Tryz.func142,Tryz.ntmps142
 go_wp2_with fail
 go_loopg [8] (b - (a+1)) (fun g0 iv wx=>∃ (i:Nat) (f1:Nat→(Zc × Nat)),g0=b - i∧a+1≤i∧i≤b∧iv=.int .i64 i∧Z8 Zh 28 183 sz wx blk n f1∧Hid (Zs a i f f1)∧Hid (ZO lt a i f1)∧Ext (·=blk) w wx)
 case atStart=>exact ⟨a+1,f,by omega,Nat.le_refl _,hab,by go_num,hS,Jh (Zs.refl _ _ _),Jh (fun i j h1 h2 h3=>by omega),Ext.refl _ _⟩
 case round =>
  obtain ⟨i,f1,hg,hi1,hi2,rfl,hW,hpm,hso,hx⟩:=hrel
  have HG:=Lib.hid hg
  clear hg hS
  have HX:=Lib.hid hx
  clear hx
  by_cases hlt:i<b
  ·have hin:i<n:=by omega
   have hst:Hid (Wc lt Prod.snd a i i f1 f1):=Jh (Wc.start (by omega) hso.out (fun p h1 h2=>by
    obtain ⟨q,k1,k2,k3⟩:=hpm.out.from h1 h2
    rw[k3,hpm.out.out (.inr (Nat.le_refl i))]
    exact HP.out q i k1 k2 hlt))
   obtain ⟨wo,hwo⟩:∃ wo:World,wo=wr:=⟨_,rfl⟩
   subst hwo
   go_wp2_with fail
   go_loopg [9] i (fun g0 jv wx=>∃ (j:Nat) (f2:Nat→(Zc × Nat)),g0=j∧a≤j∧j≤i∧jv=.int .i64 j∧Z8 Zh 28 183 sz wx blk n f2∧Hid (Wc lt Prod.snd a i j f1 f2)∧Ext (·=blk) w wx)
   case atStart=>exact ⟨i,f1,rfl,by omega,Nat.le_refl _,rfl,hW,hst,HX.out⟩
   case round =>
    obtain ⟨j,f2,hg,hj1,hj2,rfl,hW,hv,hx⟩:=hrel
    have HG2:=Lib.hid hg
    clear hg hst
    have HX2:=Lib.hid hx
    clear hx
    by_cases haj:a<j
    ·obtain ⟨k,hk⟩:∃ k,k=j - 1:=⟨_,rfl⟩
     have hkj:j=k+1:=by omega
     subst hkj
     clear hk
     have hjn:k+1<n:=by omega
     have hkn:k<n:=by omega
     have hak:a≤k:=by omega
     obtain ⟨x,hx⟩:∃ x,x=f2 (k+1):=⟨_,rfl⟩
     have HRx:=Lib.hid hx
     obtain ⟨y,hy⟩:∃ y,y=f2 k:=⟨_,rfl⟩
     have HRy:=Lib.hid hy
     have gd1:decide (a<k+1)=true:=by rw[decide_eq_true_eq];omega
     have gd2:decide ((a:Int)<(k:Int)+1)=true:=by rw[decide_eq_true_eq];omega
     have ib1:(0:Int)≤(k:Int)+1:=by omega
     have ib2:(k:Int)+1<(n:Int):=by omega
     have ib3:(0:Int)≤(k:Int):=by omega
     have ib4:(k:Int)<(n:Int):=by omega
     have iw1:IntKind.i64.wrap ((k:Int)+1 - 1)=(k:Int):=by rw[show (k:Int)+1 - 1=(k:Int) by omega];exact IntWalk.i64_in _ (by omega)
     have iw3:IntKind.i64.wrap (k:Int)=(k:Int):=IntWalk.i64_in _ (by omega)
     have iw2:((k:Int)+1).toNat=k+1:=by omega
     have HXX:=Lib.hid hx
     have HYY:=Lib.hid hy
     clear hx hy
     go_wp2_with fail
     have iap:(0:Int)≤(k:Int)+1:=by omega
     have ibp:(k:Int)+1<(n:Int):=by omega
     have icp:((k:Int)+1).toNat=k+1:=by omega
     have idp:IntKind.i64.wrap ((k:Int)+1)=(k:Int)+1:=IntWalk.i64_in _ (by omega)
     have iaq:(0:Int)≤(k:Int):=by omega
     have ibq:(k:Int)<(n:Int):=by omega
     have icq:((k:Int)).toNat=k:=by omega
     have idq:IntKind.i64.wrap ((k:Int))=(k:Int):=IntWalk.i64_in _ (by omega)
     have hS0:(fun W=>Z8 Zh 28 183 sz W blk n f2) wr.drew:=hW.drew
     have b00:Below wr.heap.size wr wr.drew:=(Below.refl _ _).drew
     refine wp_region_held_drew (S:=(fun W=>Z8 Zh 28 183 sz W blk n f2)) (by kernel_rfl) hS0 (fun _=>?_)
     generalize wr.drew=W1 at hS0 b00 ⊢
     refine Z9 (i:=0) (d:=some 18) rfl rfl (by kernel_rfl) (by kernel_rfl) (by kernel_rfl) (fun _ _ _ h=>h) (.inl ⟨by rfl,fun W hW=>by go_simp;rfl⟩) hS0 ?_
     try simp only[Ja]
     refine Z9 (i:=1) (d:=some 19) rfl rfl (by kernel_rfl) (by kernel_rfl) (by kernel_rfl) (fun _ _ _ h=>h) (.inl ⟨by rfl,fun W hW=>by go_simp;rfl⟩) hS0 ?_
     try simp only[Ja]
     refine Z9 (i:=2) (d:=some 20) rfl rfl (by kernel_rfl) (by kernel_rfl) (by kernel_rfl) (fun _ _ _ h=>h) (.inl ⟨by rfl,fun W hW=>by go_simp;rfl⟩) hS0 ?_
     try simp only[Ja]
     refine Z9 (i:=3) (d:=some 21) rfl rfl (by kernel_rfl) (by kernel_rfl) (by kernel_rfl) (fun _ _ _ h=>h) (.inl ⟨by rfl,fun W hW=>by go_simp;rfl⟩) hS0 ?_
     try simp only[Ja]
     refine Z9 (i:=4) (d:=some 22) rfl rfl (by kernel_rfl) (by kernel_rfl) (by kernel_rfl) (fun _ _ _ h=>h) (.inl ⟨by rfl,fun W hW=>by go_simp;rfl⟩) hS0 ?_
     try simp only[Ja]
     refine Z9 (i:=5) (d:=some 23) rfl rfl (by kernel_rfl) (by kernel_rfl) (by kernel_rfl) (fun _ _ _ h=>h) (.inl ⟨by rfl,fun W hW=>by go_simp;rfl⟩) hS0 ?_
     try simp only[Ja]
     refine Z9 (i:=6) (d:=some 24) rfl rfl (by kernel_rfl) (by kernel_rfl) (by kernel_rfl) (fun _ _ _ h=>h) (.inl ⟨by rfl,fun W hW=>by go_simp;rfl⟩) hS0 ?_
     try simp only[Ja]
     refine Z9 (i:=7) (d:=some 25) rfl rfl (by kernel_rfl) (by kernel_rfl) (by kernel_rfl) (fun _ _ _ h=>h) (.inl ⟨by rfl,fun W hW=>by go_simp;rfl⟩) hS0 ?_
     try simp only[Ja]
     refine Z9 (i:=8) (d:=some 26) (v:=.agg (Zh x).toArray) rfl rfl (by kernel_rfl) (by kernel_rfl) (by kernel_rfl) (fun _ _ _ h=>h) (.inl ⟨by rfl,fun W hW=>ZQ rfl rfl (by rw[HRx.out];exact Z8.load hW Yi YS hjn)⟩) hS0 ?_
     try simp only[Ja]
     refine Z9 (i:=9) (d:=some 27) rfl rfl (by kernel_rfl) (by kernel_rfl) (by kernel_rfl) (fun _ _ _ h=>h) (.inl ⟨by rfl,fun W hW=>by go_simp;rfl⟩) hS0 ?_
     try simp only[Ja]
     refine Z9 (i:=10) (d:=some 28) rfl rfl (by kernel_rfl) (by kernel_rfl) (by kernel_rfl) (fun _ _ _ h=>h) (.inl ⟨by rfl,fun W hW=>by go_simp;rfl⟩) hS0 ?_
     try simp only[Ja]
     refine Z9 (i:=11) (d:=some 29) rfl rfl (by kernel_rfl) (by kernel_rfl) (by kernel_rfl) (fun _ _ _ h=>h) (.inl ⟨by rfl,fun W hW=>by go_simp;rfl⟩) hS0 ?_
     try simp only[Ja]
     refine Z9 (i:=12) (d:=some 30) rfl rfl (by kernel_rfl) (by kernel_rfl) (by kernel_rfl) (fun _ _ _ h=>h) (.inl ⟨by rfl,fun W hW=>by go_simp;rfl⟩) hS0 ?_
     try simp only[Ja]
     refine Z9 (i:=13) (d:=some 31) (v:=.agg (Zh y).toArray) rfl rfl (by kernel_rfl) (by kernel_rfl) (by kernel_rfl) (fun _ _ _ h=>h) (.inl ⟨by rfl,fun W hW=>ZQ rfl rfl (by rw[HRy.out];exact Z8.load hW Yi YS hkn)⟩) hS0 ?_
     try simp only[Ja]
     refine VH (i:=14) (d:=some 32) (by kernel_rfl) rfl rfl (by rfl) (by go_simp;first|rfl|exact ⟨rfl,rfl⟩|exact ⟨⟨rfl,rfl⟩,rfl⟩) ?_
     (refine (Vd x.1 y.1 _).mono ?_)
     rintro e w5 ⟨rfl,b5⟩
     have hS5:(fun W=>Z8 Zh 28 183 sz W blk n f2) w5:=Z8.below hS0 b5
     replace b5:=b00.trans (b5.mono b00.size)
     refine ⟨_,rfl,hS5,?_⟩
     try simp only[Ja]
     clear hS0 b00
     refine Z9 (i:=15) (d:=some 33) rfl rfl (by kernel_rfl) (by kernel_rfl) (by kernel_rfl) (fun _ _ _ h=>h) (.inl ⟨by rfl,fun W hW=>by go_simp;rfl⟩) hS5 ?_
     try simp only[Ja]
     refine Z9 (i:=16) (d:=some 34) rfl rfl (by kernel_rfl) (by kernel_rfl) (by kernel_rfl) (fun _ _ _ h=>h) (.inl ⟨by rfl,fun W hW=>by go_simp;rfl⟩) hS5 ?_
     try simp only[Ja]
     refine wpAnyH_done (by kernel_rfl) ?_ _
     clear hS5 HRx HRy
     have HS5:=Jh (hW.below b5)
     have HX5:=Jh (HX2.out.then_below b5)
     clear  hW b5
     have hcc:ZZ x.1 y.1<0↔lt x y:=by rw[HXX.out,HYY.out];exact HR.out.says _ _ (hv.out.later k hak (by omega) (by omega))
     have HCC:=Lib.hid hcc
     clear hcc
     by_cases hc:ZZ x.1 y.1<0
     ·have hd:=hv.out.down hak (by rw[←HXX.out,←HYY.out];exact HCC.out.1 hc)
      have HD:=Lib.hid hd
      clear hd
      have hW:=HS5.out
      have hx:=HXX.out
      have hy:=HYY.out
      clear HXX HYY HCC
      have HSL:=Lib.hid hW
      clear hW hx hy HS5
      have iap:(0:Int)≤(k:Int)+1:=by omega
      have ibp:(k:Int)+1<(n:Int):=by omega
      have icp:((k:Int)+1).toNat=k+1:=by omega
      have idp:IntKind.i64.wrap ((k:Int)+1)=(k:Int)+1:=IntWalk.i64_in _ (by omega)
      have iaq:(0:Int)≤(k:Int):=by omega
      have ibq:(k:Int)<(n:Int):=by omega
      have icq:((k:Int)).toNat=k:=by omega
      have idq:IntKind.i64.wrap ((k:Int))=(k:Int):=IntWalk.i64_in _ (by omega)
      go_wp2_with fail
      refine Zf (fun W=>Z8 Zh 28 183 sz W blk n f2) (fun i=>!(i == 9 || i == 13)) (by kernel_rfl) ?_
      have hS0:Z8 Zh 28 183 sz w5.drew blk n f2:=HSL.out.drew
      have X0:Ext (·=blk) w5 w5.drew:=(Ext.refl _ _).drew
      generalize w5.drew=W1 at hS0 X0 ⊢
      refine Z3 (i:=0) (d:=some 37) rfl rfl rfl (by kernel_rfl) (by kernel_rfl) (by kernel_rfl) (fun _ _ _ h=>h) (.inl ⟨by rfl,fun W hW=>by go_simp;rfl⟩) ?_
      try simp only[Ja]
      refine Z3 (i:=1) (d:=some 38) rfl rfl rfl (by kernel_rfl) (by kernel_rfl) (by kernel_rfl) (fun _ _ _ h=>h) (.inl ⟨by rfl,fun W hW=>by go_simp;rfl⟩) ?_
      try simp only[Ja]
      refine Z3 (i:=2) (d:=some 39) rfl rfl rfl (by kernel_rfl) (by kernel_rfl) (by kernel_rfl) (fun _ _ _ h=>h) (.inl ⟨by rfl,fun W hW=>by go_simp;rfl⟩) ?_
      try simp only[Ja]
      refine Z3 (i:=3) (d:=some 40) rfl rfl rfl (by kernel_rfl) (by kernel_rfl) (by kernel_rfl) (fun _ _ _ h=>h) (.inl ⟨by rfl,fun W hW=>by go_simp;rfl⟩) ?_
      try simp only[Ja]
      refine Z3 (i:=4) (d:=some 41) rfl rfl rfl (by kernel_rfl) (by kernel_rfl) (by kernel_rfl) (fun _ _ _ h=>h) (.inl ⟨by rfl,fun W hW=>by go_simp;rfl⟩) ?_
      try simp only[Ja]
      refine Z3 (i:=5) (d:=some 42) rfl rfl rfl (by kernel_rfl) (by kernel_rfl) (by kernel_rfl) (fun _ _ _ h=>h) (.inl ⟨by rfl,fun W hW=>by go_simp;rfl⟩) ?_
      try simp only[Ja]
      refine Z3 (i:=6) (d:=some 43) rfl rfl rfl (by kernel_rfl) (by kernel_rfl) (by kernel_rfl) (fun _ _ _ h=>h) (.inl ⟨by rfl,fun W hW=>by go_simp;rfl⟩) ?_
      try simp only[Ja]
      refine Z3 (i:=7) (d:=some 44) rfl rfl rfl (by kernel_rfl) (by kernel_rfl) (by kernel_rfl) (fun _ _ _ h=>h) (.inl ⟨by rfl,fun W hW=>by go_simp;rfl⟩) ?_
      try simp only[Ja]
      refine Z3 (i:=8) (d:=some 45) rfl rfl rfl (by kernel_rfl) (by kernel_rfl) (by kernel_rfl) (fun _ _ _ h=>h) (.inl ⟨by rfl,fun W hW=>by go_simp;rfl⟩) ?_
      try simp only[Ja]
      refine Z3 (i:=10) (d:=some 47) rfl rfl rfl (by kernel_rfl) (by kernel_rfl) (by kernel_rfl) (fun _ _ _ h=>h) (.inl ⟨by rfl,fun W hW=>by go_simp;rfl⟩) ?_
      try simp only[Ja]
      refine Z3 (i:=11) (d:=some 48) rfl rfl rfl (by kernel_rfl) (by kernel_rfl) (by kernel_rfl) (fun _ _ _ h=>h) (.inl ⟨by rfl,fun W hW=>by go_simp;rfl⟩) ?_
      try simp only[Ja]
      refine Z3 (i:=12) (d:=some 49) rfl rfl rfl (by kernel_rfl) (by kernel_rfl) (by kernel_rfl) (fun _ _ _ h=>h) (.inl ⟨by rfl,fun W hW=>by go_simp;rfl⟩) ?_
      try simp only[Ja]
      refine JR 9 46 (.agg (Zh (f2 k)).toArray) rfl rfl hS0 (fun W hW=>ZQ rfl rfl (Z8.load hW Yi YS hkn)) ?_
      try simp only[Ja]
      refine JR 13 50 (.agg (Zh (f2 (k+1))).toArray) rfl rfl hS0 (fun W hW=>ZQ rfl rfl (Z8.load hW Yi YS hjn)) ?_
      try simp only[Ja]
      refine Z3 (i:=14) (d:=some 51) rfl rfl rfl (by kernel_rfl) (by kernel_rfl) (by kernel_rfl) (fun _ _ _ h=>h) (.inl ⟨by rfl,fun W hW=>by go_simp;rfl⟩) ?_
      try simp only[Ja]
      obtain ⟨W2,st2,s2,e2⟩:=Z8.store hS0 Yi Vx YS hjn (f2 k)
      refine Zg (i:=15) (d:=none) (by kernel_rfl) rfl rfl (by rfl) (YR rfl rfl rfl st2) (fun h=>by cases h) ?_
      try simp only[Ja]
      refine Z3 (i:=16) (d:=some 52) rfl rfl rfl (by kernel_rfl) (by kernel_rfl) (by kernel_rfl) (fun _ _ _ h=>h) (.inl ⟨by rfl,fun W hW=>by go_simp;rfl⟩) ?_
      try simp only[Ja]
      obtain ⟨W3,st3,s3,e3⟩:=Z8.store s2 Yi Vx YS hkn (f2 (k+1))
      refine Zg (i:=17) (d:=none) (by kernel_rfl) rfl rfl (by rfl) (YR rfl rfl rfl st3) (fun h=>by cases h) ?_
      try simp only[Ja]
      refine Zd (by kernel_rfl) ?_ _
      have HSW:Hid (Z8 Zh 28 183 sz W3 blk n (Yk f2 (k+1) k)∧Ext (·=blk) w5 W3):=Lib.hid ⟨by rw[VD];exact s3,(X0.trans e2).trans e3⟩
      clear hS0 X0 st2 s2 e2 st3 s3 e3
      clear HSL
      go_wp2_with fail
      go_roundg k
      case measure=>rw[HG2.out];omega
      case rel=>exact ⟨k,_,rfl,hak,by omega,by go_num,HSW.out.1,HD,HX5.out.trans HSW.out.2⟩
     ·have hq:¬ lt (f2 (k+1)) (f2 k):=by rw[←HXX.out,←HYY.out];exact fun h=>hc (HCC.out.2 h)
      have HD:=Jh (hv.out.done HR.out (.inr hq))
      clear HXX HYY HCC hq
      go_wp2_with fail
      go_roundg (b - (i+1))
      case measure=>rw[HG.out];omega
      case rel=>exact ⟨i+1,f2,rfl,by omega,hlt,by go_num,HS5.out,Jh ((hpm.out.mono (Nat.le_refl _) (by omega)).trans hv.out.perm),HD,HX5.out⟩
    ·obtain rfl:j=a:=by omega
     have HD:=Jh (hv.out.done HR.out (.inl rfl))
     go_wp2_with fail
     go_quiet (fail)
     go_wp2_with fail
     go_roundg (b - (i+1))
     case measure=>rw[HG.out];omega
     case rel=>exact ⟨i+1,f2,rfl,by omega,hlt,by go_num,hW.below (below_drewN (Below.refl _ _) _),Jh ((hpm.out.mono (Nat.le_refl _) (by omega)).trans hv.out.perm),HD,HX2.out.then_below (below_drewN (Below.refl _ _) _)⟩
  ·obtain rfl:i=b:=by omega
   go_wp2_with fail
   go_end0
   exact ⟨⟨_,rfl⟩,Lib.hid ⟨f1,hW,hpm.out,hso.out⟩,HX.out⟩
end
section
variable {cap sz blk n:Nat} {lt:(Zc × Nat)→(Zc × Nat)→Prop}
theorem Z0K (a m b:Nat) (hm:m=a+1) (f:Nat→(Zc × Nat)) (w:World) (hS:Z8 Zh 28 183 sz w blk n f) (R:XX lt Prod.snd (fun x y:(Zc × Nat)=>ZZ x.1 y.1)) (h:Y0 lt Prod.snd a m b f) (hbn:b≤n) (hcap:n≤cap) (hn:cap≤maxLen) (hN:n≤1000000) :
  Calls Tryz.prog 143 #[.slice (some ⟨blk,0,none⟩) n cap,.int .i64 a,.int .i64 m,.int .i64 b,.func (.func 98) #[] #[]] w fun e w'=>(∃ v,e=.returned v)∧Hid (∃ g,Z8 Zh 28 183 sz w' blk n g∧Zs a b f g∧ZO lt a b g)∧Ext (·=blk) w w':=by
 have hmb:=h.mb
 have t1:((m:Int) - (a:Int) == 1)=true:=by rw[beq_iff_eq];omega
 have HE:=Lib.hid hm
 have ham:a<m:=by omega
 clear hm
 unfold maxLen at hn
 have HR:=Lib.hid R
 have HM:=Lib.hid h
 clear R h
 go_enter Tryz.func143,Tryz.ntmps143
 go_wp2_with fail
 go_loopg [10,11] (b - m) (fun g0 iv jv wx=>∃ i j:Nat,g0=j - i∧m≤i∧i≤j∧j≤b∧iv=.int .i64 i∧jv=.int .i64 j∧Z8 Zh 28 183 sz wx blk n f∧Hid (i=m∨lt (f (i - 1)) (f a))∧Hid (j=b∨¬ lt (f j) (f a))∧Ext (·=blk) w wx)
 case atStart=>exact ⟨m,b,rfl,Nat.le_refl _,by omega,Nat.le_refl _,rfl,rfl,hS,Jh (.inl rfl),Jh (.inl rfl),Ext.refl _ _⟩
 case round =>
  obtain ⟨i,j,hg,hi,hij,hj,rfl,rfl,hW,q1,q2,hx⟩:=hrel
  have HG:=Lib.hid hg
  clear hg hS
  have HX:=Lib.hid hx
  clear hx
  by_cases hlt:i<j
  ·skip
   obtain ⟨h,hh⟩:∃ h:Nat,h=(i+j) / 2:=⟨_,rfl⟩
   have hhi:i≤h∧h<j:=by omega
   have hhz:((i:Int)+(j:Int)) / 2=(h:Int):=by omega
   have hhn:h<n:=by omega
   have han:a<n:=by omega
   have b0h:(0:Int)≤(h:Int):=by omega
   have b1h:(h:Int)<(n:Int):=by omega
   have b0a:(0:Int)≤(a:Int):=by omega
   have b1a:(a:Int)<(n:Int):=by omega
   obtain ⟨x,hx⟩:∃ x,x=f h:=⟨_,rfl⟩
   have HRx:=Lib.hid hx
   obtain ⟨y,hy⟩:∃ y,y=f a:=⟨_,rfl⟩
   have HRy:=Lib.hid hy
   have hcc:ZZ x.1 y.1<0↔lt (f h) (f a):=by rw[hx,hy];exact HR.out.says _ _ (HM.out.apart a h (by omega) (by omega) (by omega) (by omega))
   have HCC:=Lib.hid hcc
   clear hcc hx hy hh
   go_wp2_with fail
   clear hhz
   have iap:(0:Int)≤(h:Int):=by omega
   have ibp:(h:Int)<(n:Int):=by omega
   have icp:((h:Int)).toNat=h:=by omega
   have idp:IntKind.i64.wrap ((h:Int))=(h:Int):=IntWalk.i64_in _ (by omega)
   have iaq:(0:Int)≤(a:Int):=by omega
   have ibq:(a:Int)<(n:Int):=by omega
   have icq:((a:Int)).toNat=a:=by omega
   have idq:IntKind.i64.wrap ((a:Int))=(a:Int):=IntWalk.i64_in _ (by omega)
   have hS0:(fun W=>Z8 Zh 28 183 sz W blk n f) wr.drew:=hW.drew
   have b00:Below wr.heap.size wr wr.drew:=(Below.refl _ _).drew
   refine wp_region_held_drew (S:=(fun W=>Z8 Zh 28 183 sz W blk n f)) (by kernel_rfl) hS0 (fun _=>?_)
   generalize wr.drew=W1 at hS0 b00 ⊢
   refine Z9 (i:=0) (d:=some 40) rfl rfl (by kernel_rfl) (by kernel_rfl) (by kernel_rfl) (fun _ _ _ h=>h) (.inl ⟨by rfl,fun W hW=>by go_simp;rfl⟩) hS0 ?_
   try simp only[Ja]
   refine Z9 (i:=1) (d:=some 41) rfl rfl (by kernel_rfl) (by kernel_rfl) (by kernel_rfl) (fun _ _ _ h=>h) (.inl ⟨by rfl,fun W hW=>by go_simp;rfl⟩) hS0 ?_
   try simp only[Ja]
   refine Z9 (i:=2) (d:=some 42) rfl rfl (by kernel_rfl) (by kernel_rfl) (by kernel_rfl) (fun _ _ _ h=>h) (.inl ⟨by rfl,fun W hW=>by go_simp;rfl⟩) hS0 ?_
   try simp only[Ja]
   refine Z9 (i:=3) (d:=some 43) rfl rfl (by kernel_rfl) (by kernel_rfl) (by kernel_rfl) (fun _ _ _ h=>h) (.inl ⟨by rfl,fun W hW=>by go_simp;rfl⟩) hS0 ?_
   try simp only[Ja]
   refine Z9 (i:=4) (d:=some 44) (v:=.agg (Zh x).toArray) rfl rfl (by kernel_rfl) (by kernel_rfl) (by kernel_rfl) (fun _ _ _ h=>h) (.inl ⟨by rfl,fun W hW=>ZQ rfl rfl (by rw[HRx.out];exact Z8.load hW Yi YS hhn)⟩) hS0 ?_
   try simp only[Ja]
   refine Z9 (i:=5) (d:=some 45) rfl rfl (by kernel_rfl) (by kernel_rfl) (by kernel_rfl) (fun _ _ _ h=>h) (.inl ⟨by rfl,fun W hW=>by go_simp;rfl⟩) hS0 ?_
   try simp only[Ja]
   refine Z9 (i:=6) (d:=some 46) rfl rfl (by kernel_rfl) (by kernel_rfl) (by kernel_rfl) (fun _ _ _ h=>h) (.inl ⟨by rfl,fun W hW=>by go_simp;rfl⟩) hS0 ?_
   try simp only[Ja]
   refine Z9 (i:=7) (d:=some 47) rfl rfl (by kernel_rfl) (by kernel_rfl) (by kernel_rfl) (fun _ _ _ h=>h) (.inl ⟨by rfl,fun W hW=>by go_simp;rfl⟩) hS0 ?_
   try simp only[Ja]
   refine Z9 (i:=8) (d:=some 48) (v:=.agg (Zh y).toArray) rfl rfl (by kernel_rfl) (by kernel_rfl) (by kernel_rfl) (fun _ _ _ h=>h) (.inl ⟨by rfl,fun W hW=>ZQ rfl rfl (by rw[HRy.out];exact Z8.load hW Yi YS han)⟩) hS0 ?_
   try simp only[Ja]
   refine VH (i:=9) (d:=some 49) (by kernel_rfl) rfl rfl (by rfl) (by go_simp;first|rfl|exact ⟨rfl,rfl⟩|exact ⟨⟨rfl,rfl⟩,rfl⟩) ?_
   (refine (Vd x.1 y.1 _).mono ?_)
   rintro e w5 ⟨rfl,b5⟩
   have hS5:(fun W=>Z8 Zh 28 183 sz W blk n f) w5:=Z8.below hS0 b5
   replace b5:=b00.trans (b5.mono b00.size)
   refine ⟨_,rfl,hS5,?_⟩
   try simp only[Ja]
   clear hS0 b00
   refine Z9 (i:=10) (d:=some 50) rfl rfl (by kernel_rfl) (by kernel_rfl) (by kernel_rfl) (fun _ _ _ h=>h) (.inl ⟨by rfl,fun W hW=>by go_simp;rfl⟩) hS5 ?_
   try simp only[Ja]
   refine wpAnyH_done (by kernel_rfl) ?_ _
   clear hS5 HRx HRy
   have HS5:=Jh (hW.below b5)
   have HX5:=Jh (HX.out.then_below b5)
   clear  hW b5
   by_cases hc:ZZ x.1 y.1<0
   ·have hcb:decide (ZZ x.1 y.1<0)=true:=decide_eq_true hc
    go_wp2_with fail
    go_roundg (j - (h+1))
    case measure=>rw[HG.out];omega
    case rel=>exact ⟨h+1,j,rfl,by omega,by omega,hj,by go_num,rfl,HS5.out,Jh (.inr (HCC.out.1 hc)),q2,HX5.out⟩
   ·have hcb:decide (ZZ x.1 y.1<0)=false:=decide_eq_false hc
    go_wp2_with fail
    go_roundg (h - i)
    case measure=>rw[HG.out];omega
    case rel=>exact ⟨i,h,rfl,by omega,by omega,by omega,rfl,rfl,HS5.out,q1,Jh (.inr (fun t=>by have:=HCC.out.2 t;omega)),HX5.out⟩
  ·obtain rfl:i=j:=by omega
   obtain ⟨k0,rfl⟩:∃ k0,i=k0+1:=⟨i - 1,by omega⟩
   have HD:=Jh (Z2w HR.out (by rw[←HE.out];exact HM.out) (by rw[←HE.out];exact hi) hj (by rw[←HE.out];exact q1.out) q2.out)
   clear q1 q2 hlt
   obtain ⟨wo,hwo⟩:∃ wo:World,wo=wr:=⟨_,rfl⟩
   subst hwo
   go_wp2_with fail
   go_loopg [13] (k0 - a) (fun g0 kv wx=>∃ k:Nat,g0=k0 - k∧a≤k∧k≤k0∧kv=.int .i64 k∧Z8 Zh 28 183 sz wx blk n (YU f a k)∧Ext (·=blk) w wx)
   case atStart=>exact ⟨a,rfl,Nat.le_refl _,by omega,rfl,by rw[QG];exact hW,HX.out⟩
   case round =>
    obtain ⟨k,hg,hk1,hk2,rfl,hW,hx⟩:=hrel
    have HG2:=Lib.hid hg
    clear hg
    have HX2:=Lib.hid hx
    clear hx
    by_cases hlt:k<k0
    ·have hp:k<n:=by omega
     have hq:k+1<n:=by omega
     have HW:Hid (Yk (YU f a k) k (k+1)=YU f a (k+1)):=Z0h f a k hk1
     generalize YU f a k=g0 at *
     have HSL:=Lib.hid hW
     clear hW
     have iap:(0:Int)≤(k:Int):=by omega
     have ibp:(k:Int)<(n:Int):=by omega
     have icp:((k:Int)).toNat=k:=by omega
     have idp:IntKind.i64.wrap ((k:Int))=(k:Int):=IntWalk.i64_in _ (by omega)
     have iaq:(0:Int)≤(k:Int)+1:=by omega
     have ibq:(k:Int)+1<(n:Int):=by omega
     have icq:((k:Int)+1).toNat=k+1:=by omega
     have idq:IntKind.i64.wrap ((k:Int)+1)=(k:Int)+1:=IntWalk.i64_in _ (by omega)
     go_wp2_with fail
     refine Zf (fun W=>Z8 Zh 28 183 sz W blk n g0) (fun i=>!(i == 9 || i == 13)) (by kernel_rfl) ?_
     have hS0:Z8 Zh 28 183 sz wr.drew blk n g0:=HSL.out.drew
     have X0:Ext (·=blk) wr wr.drew:=(Ext.refl _ _).drew
     generalize wr.drew=W1 at hS0 X0 ⊢
     refine Z3 (i:=0) (d:=some 61) rfl rfl rfl (by kernel_rfl) (by kernel_rfl) (by kernel_rfl) (fun _ _ _ h=>h) (.inl ⟨by rfl,fun W hW=>by go_simp;rfl⟩) ?_
     try simp only[Ja]
     refine Z3 (i:=1) (d:=some 62) rfl rfl rfl (by kernel_rfl) (by kernel_rfl) (by kernel_rfl) (fun _ _ _ h=>h) (.inl ⟨by rfl,fun W hW=>by go_simp;rfl⟩) ?_
     try simp only[Ja]
     refine Z3 (i:=2) (d:=some 63) rfl rfl rfl (by kernel_rfl) (by kernel_rfl) (by kernel_rfl) (fun _ _ _ h=>h) (.inl ⟨by rfl,fun W hW=>by go_simp;rfl⟩) ?_
     try simp only[Ja]
     refine Z3 (i:=3) (d:=some 64) rfl rfl rfl (by kernel_rfl) (by kernel_rfl) (by kernel_rfl) (fun _ _ _ h=>h) (.inl ⟨by rfl,fun W hW=>by go_simp;rfl⟩) ?_
     try simp only[Ja]
     refine Z3 (i:=4) (d:=some 65) rfl rfl rfl (by kernel_rfl) (by kernel_rfl) (by kernel_rfl) (fun _ _ _ h=>h) (.inl ⟨by rfl,fun W hW=>by go_simp;rfl⟩) ?_
     try simp only[Ja]
     refine Z3 (i:=5) (d:=some 66) rfl rfl rfl (by kernel_rfl) (by kernel_rfl) (by kernel_rfl) (fun _ _ _ h=>h) (.inl ⟨by rfl,fun W hW=>by go_simp;rfl⟩) ?_
     try simp only[Ja]
     refine Z3 (i:=6) (d:=some 67) rfl rfl rfl (by kernel_rfl) (by kernel_rfl) (by kernel_rfl) (fun _ _ _ h=>h) (.inl ⟨by rfl,fun W hW=>by go_simp;rfl⟩) ?_
     try simp only[Ja]
     refine Z3 (i:=7) (d:=some 68) rfl rfl rfl (by kernel_rfl) (by kernel_rfl) (by kernel_rfl) (fun _ _ _ h=>h) (.inl ⟨by rfl,fun W hW=>by go_simp;rfl⟩) ?_
     try simp only[Ja]
     refine Z3 (i:=8) (d:=some 69) rfl rfl rfl (by kernel_rfl) (by kernel_rfl) (by kernel_rfl) (fun _ _ _ h=>h) (.inl ⟨by rfl,fun W hW=>by go_simp;rfl⟩) ?_
     try simp only[Ja]
     refine Z3 (i:=10) (d:=some 71) rfl rfl rfl (by kernel_rfl) (by kernel_rfl) (by kernel_rfl) (fun _ _ _ h=>h) (.inl ⟨by rfl,fun W hW=>by go_simp;rfl⟩) ?_
     try simp only[Ja]
     refine Z3 (i:=11) (d:=some 72) rfl rfl rfl (by kernel_rfl) (by kernel_rfl) (by kernel_rfl) (fun _ _ _ h=>h) (.inl ⟨by rfl,fun W hW=>by go_simp;rfl⟩) ?_
     try simp only[Ja]
     refine Z3 (i:=12) (d:=some 73) rfl rfl rfl (by kernel_rfl) (by kernel_rfl) (by kernel_rfl) (fun _ _ _ h=>h) (.inl ⟨by rfl,fun W hW=>by go_simp;rfl⟩) ?_
     try simp only[Ja]
     refine JR 9 70 (.agg (Zh (g0 (k+1))).toArray) rfl rfl hS0 (fun W hW=>ZQ rfl rfl (Z8.load hW Yi YS hq)) ?_
     try simp only[Ja]
     refine JR 13 74 (.agg (Zh (g0 k)).toArray) rfl rfl hS0 (fun W hW=>ZQ rfl rfl (Z8.load hW Yi YS hp)) ?_
     try simp only[Ja]
     refine Z3 (i:=14) (d:=some 75) rfl rfl rfl (by kernel_rfl) (by kernel_rfl) (by kernel_rfl) (fun _ _ _ h=>h) (.inl ⟨by rfl,fun W hW=>by go_simp;rfl⟩) ?_
     try simp only[Ja]
     obtain ⟨W2,st2,s2,e2⟩:=Z8.store hS0 Yi Vx YS hp (g0 (k+1))
     refine Zg (i:=15) (d:=none) (by kernel_rfl) rfl rfl (by rfl) (YR rfl rfl rfl st2) (fun h=>by cases h) ?_
     try simp only[Ja]
     refine Z3 (i:=16) (d:=some 76) rfl rfl rfl (by kernel_rfl) (by kernel_rfl) (by kernel_rfl) (fun _ _ _ h=>h) (.inl ⟨by rfl,fun W hW=>by go_simp;rfl⟩) ?_
     try simp only[Ja]
     obtain ⟨W3,st3,s3,e3⟩:=Z8.store s2 Yi Vx YS hq (g0 k)
     refine Zg (i:=17) (d:=none) (by kernel_rfl) rfl rfl (by rfl) (YR rfl rfl rfl st3) (fun h=>by cases h) ?_
     try simp only[Ja]
     refine Zd (by kernel_rfl) ?_ _
     have HSW:Hid (Z8 Zh 28 183 sz W3 blk n (Yk g0 k (k+1))∧Ext (·=blk) wr W3):=Lib.hid ⟨by rw[VD];exact s3,(X0.trans e2).trans e3⟩
     clear hS0 X0 st2 s2 e2 st3 s3 e3
     clear HSL
     go_wp2_with fail
     go_roundg (k0 - (k+1))
     case measure=>rw[HG2.out];omega
     case rel=>exact ⟨k+1,rfl,by omega,by omega,by go_num,by rw[←HW.out];exact HSW.out.1,HX2.out.trans HSW.out.2⟩
    ·obtain rfl:k=k0:=by omega
     go_wp2_with fail
     refine bodyPost_ret (v:=.tuple #[]) (results_none rfl _ _ _) rfl ?_
     have hd:=HD.out
     rw[show k+1 - 1=k by omega] at hd
     exact ⟨⟨_,rfl⟩,Lib.hid ⟨_,hW,hd.2,hd.1⟩,HX2.out⟩
theorem QK (a m b:Nat) (hb:b=m+1) (f:Nat→(Zc × Nat)) (w:World) (hS:Z8 Zh 28 183 sz w blk n f) (R:XX lt Prod.snd (fun x y:(Zc × Nat)=>ZZ x.1 y.1)) (h:Y0 lt Prod.snd a m b f) (h1:a+1<m) (hbn:b≤n) (hcap:n≤cap) (hn:cap≤maxLen) (hN:n≤1000000) :
  Calls Tryz.prog 143 #[.slice (some ⟨blk,0,none⟩) n cap,.int .i64 a,.int .i64 m,.int .i64 b,.func (.func 98) #[] #[]] w fun e w'=>(∃ v,e=.returned v)∧Hid (∃ g,Z8 Zh 28 183 sz w' blk n g∧Zs a b f g∧ZO lt a b g)∧Ext (·=blk) w w':=by
 unfold maxLen at hn
 have HR:=Lib.hid R
 have HM:=Lib.hid h
 clear R h
 have t1:((m:Int) - (a:Int) == 1)=false:=by rw[beq_eq_false_iff_ne];omega
 have t2:((b:Int) - (m:Int) == 1)=true:=by rw[beq_iff_eq];omega
 have HE:=Lib.hid hb
 have hmb:m<b:=by omega
 have ham:a<m:=by omega
 clear hb
 go_enter Tryz.func143,Tryz.ntmps143
 go_wp2_with fail
 go_loopg [14,15] (m - a) (fun g0 iv jv wx=>∃ i j:Nat,g0=j - i∧a≤i∧i≤j∧j≤m∧iv=.int .i64 i∧jv=.int .i64 j∧Z8 Zh 28 183 sz wx blk n f∧Hid (i=a∨¬ lt (f m) (f (i - 1)))∧Hid (j=m∨lt (f m) (f j))∧Ext (·=blk) w wx)
 case atStart=>exact ⟨a,m,rfl,Nat.le_refl _,by omega,Nat.le_refl _,rfl,rfl,hS,Jh (.inl rfl),Jh (.inl rfl),Ext.refl _ _⟩
 case round =>
  obtain ⟨i,j,hg,hi,hij,hj,rfl,rfl,hW,q1,q2,hx⟩:=hrel
  have HG:=Lib.hid hg
  clear hg hS
  have HX:=Lib.hid hx
  clear hx
  by_cases hlt:i<j
  ·skip
   obtain ⟨h,hh⟩:∃ h:Nat,h=(i+j) / 2:=⟨_,rfl⟩
   have hhi:i≤h∧h<j:=by omega
   have hhz:((i:Int)+(j:Int)) / 2=(h:Int):=by omega
   have hhn:h<n:=by omega
   have hmn:m<n:=by omega
   have b0h:(0:Int)≤(h:Int):=by omega
   have b1h:(h:Int)<(n:Int):=by omega
   have b0m:(0:Int)≤(m:Int):=by omega
   have b1m:(m:Int)<(n:Int):=by omega
   obtain ⟨x,hx⟩:∃ x,x=f m:=⟨_,rfl⟩
   have HRx:=Lib.hid hx
   obtain ⟨y,hy⟩:∃ y,y=f h:=⟨_,rfl⟩
   have HRy:=Lib.hid hy
   have hcc:ZZ x.1 y.1<0↔lt (f m) (f h):=by rw[hx,hy];exact HR.out.says _ _ (HM.out.apart h m (by omega) (by omega) (by omega) (by omega))
   have HCC:=Lib.hid hcc
   clear hcc hx hy hh
   go_wp2_with fail
   clear hhz
   have iap:(0:Int)≤(m:Int):=by omega
   have ibp:(m:Int)<(n:Int):=by omega
   have icp:((m:Int)).toNat=m:=by omega
   have idp:IntKind.i64.wrap ((m:Int))=(m:Int):=IntWalk.i64_in _ (by omega)
   have iaq:(0:Int)≤(h:Int):=by omega
   have ibq:(h:Int)<(n:Int):=by omega
   have icq:((h:Int)).toNat=h:=by omega
   have idq:IntKind.i64.wrap ((h:Int))=(h:Int):=IntWalk.i64_in _ (by omega)
   have hS0:(fun W=>Z8 Zh 28 183 sz W blk n f) wr.drew:=hW.drew
   have b00:Below wr.heap.size wr wr.drew:=(Below.refl _ _).drew
   refine wp_region_held_drew (S:=(fun W=>Z8 Zh 28 183 sz W blk n f)) (by kernel_rfl) hS0 (fun _=>?_)
   generalize wr.drew=W1 at hS0 b00 ⊢
   refine Z9 (i:=0) (d:=some 92) rfl rfl (by kernel_rfl) (by kernel_rfl) (by kernel_rfl) (fun _ _ _ h=>h) (.inl ⟨by rfl,fun W hW=>by go_simp;rfl⟩) hS0 ?_
   try simp only[Ja]
   refine Z9 (i:=1) (d:=some 93) rfl rfl (by kernel_rfl) (by kernel_rfl) (by kernel_rfl) (fun _ _ _ h=>h) (.inl ⟨by rfl,fun W hW=>by go_simp;rfl⟩) hS0 ?_
   try simp only[Ja]
   refine Z9 (i:=2) (d:=some 94) rfl rfl (by kernel_rfl) (by kernel_rfl) (by kernel_rfl) (fun _ _ _ h=>h) (.inl ⟨by rfl,fun W hW=>by go_simp;rfl⟩) hS0 ?_
   try simp only[Ja]
   refine Z9 (i:=3) (d:=some 95) rfl rfl (by kernel_rfl) (by kernel_rfl) (by kernel_rfl) (fun _ _ _ h=>h) (.inl ⟨by rfl,fun W hW=>by go_simp;rfl⟩) hS0 ?_
   try simp only[Ja]
   refine Z9 (i:=4) (d:=some 96) (v:=.agg (Zh x).toArray) rfl rfl (by kernel_rfl) (by kernel_rfl) (by kernel_rfl) (fun _ _ _ h=>h) (.inl ⟨by rfl,fun W hW=>ZQ rfl rfl (by rw[HRx.out];exact Z8.load hW Yi YS hmn)⟩) hS0 ?_
   try simp only[Ja]
   refine Z9 (i:=5) (d:=some 97) rfl rfl (by kernel_rfl) (by kernel_rfl) (by kernel_rfl) (fun _ _ _ h=>h) (.inl ⟨by rfl,fun W hW=>by go_simp;rfl⟩) hS0 ?_
   try simp only[Ja]
   refine Z9 (i:=6) (d:=some 98) rfl rfl (by kernel_rfl) (by kernel_rfl) (by kernel_rfl) (fun _ _ _ h=>h) (.inl ⟨by rfl,fun W hW=>by go_simp;rfl⟩) hS0 ?_
   try simp only[Ja]
   refine Z9 (i:=7) (d:=some 99) rfl rfl (by kernel_rfl) (by kernel_rfl) (by kernel_rfl) (fun _ _ _ h=>h) (.inl ⟨by rfl,fun W hW=>by go_simp;rfl⟩) hS0 ?_
   try simp only[Ja]
   refine Z9 (i:=8) (d:=some 100) (v:=.agg (Zh y).toArray) rfl rfl (by kernel_rfl) (by kernel_rfl) (by kernel_rfl) (fun _ _ _ h=>h) (.inl ⟨by rfl,fun W hW=>ZQ rfl rfl (by rw[HRy.out];exact Z8.load hW Yi YS hhn)⟩) hS0 ?_
   try simp only[Ja]
   refine VH (i:=9) (d:=some 101) (by kernel_rfl) rfl rfl (by rfl) (by go_simp;first|rfl|exact ⟨rfl,rfl⟩|exact ⟨⟨rfl,rfl⟩,rfl⟩) ?_
   (refine (Vd x.1 y.1 _).mono ?_)
   rintro e w5 ⟨rfl,b5⟩
   have hS5:(fun W=>Z8 Zh 28 183 sz W blk n f) w5:=Z8.below hS0 b5
   replace b5:=b00.trans (b5.mono b00.size)
   refine ⟨_,rfl,hS5,?_⟩
   try simp only[Ja]
   clear hS0 b00
   refine Z9 (i:=10) (d:=some 102) rfl rfl (by kernel_rfl) (by kernel_rfl) (by kernel_rfl) (fun _ _ _ h=>h) (.inl ⟨by rfl,fun W hW=>by go_simp;rfl⟩) hS5 ?_
   try simp only[Ja]
   refine Z9 (i:=11) (d:=some 103) rfl rfl (by kernel_rfl) (by kernel_rfl) (by kernel_rfl) (fun _ _ _ h=>h) (.inl ⟨by rfl,fun W hW=>by go_simp;rfl⟩) hS5 ?_
   try simp only[Ja]
   refine wpAnyH_done (by kernel_rfl) ?_ _
   clear hS5 HRx HRy
   have HS5:=Jh (hW.below b5)
   have HX5:=Jh (HX.out.then_below b5)
   clear  hW b5
   by_cases hc:ZZ x.1 y.1<0
   ·have hcb:decide (ZZ x.1 y.1<0)=true:=decide_eq_true hc
    simp only[hcb,Bool.not_true]
    go_wp2_with fail
    go_roundg (h - i)
    case measure=>rw[HG.out];omega
    case rel=>exact ⟨i,h,rfl,by omega,by omega,by omega,rfl,rfl,HS5.out,q1,Jh (.inr (HCC.out.1 hc)),HX5.out⟩
   ·have hcb:decide (ZZ x.1 y.1<0)=false:=decide_eq_false hc
    simp only[hcb,Bool.not_false]
    go_wp2_with fail
    go_roundg (j - (h+1))
    case measure=>rw[HG.out];omega
    case rel=>exact ⟨h+1,j,rfl,by omega,by omega,hj,by go_num,rfl,HS5.out,Jh (.inr (fun t=>by have:=HCC.out.2 t;omega)),q2,HX5.out⟩
  ·obtain rfl:i=j:=by omega
   have HD:=Jh (Z1e HR.out (by rw[←HE.out];exact HM.out) hi hj q1.out q2.out)
   clear q1 q2 hlt
   obtain ⟨wo,hwo⟩:∃ wo:World,wo=wr:=⟨_,rfl⟩
   subst hwo
   go_wp2_with fail
   go_loopg [17] (m - i) (fun g0 kv wx=>∃ k:Nat,g0=k - i∧i≤k∧k≤m∧kv=.int .i64 k∧Z8 Zh 28 183 sz wx blk n (YQ f m k)∧Ext (·=blk) w wx)
   case atStart=>exact ⟨m,rfl,by omega,Nat.le_refl _,rfl,by rw[Z01];exact hW,HX.out⟩
   case round =>
    obtain ⟨k,hg,hk1,hk2,rfl,hW,hx⟩:=hrel
    have HG2:=Lib.hid hg
    clear hg
    have HX2:=Lib.hid hx
    clear hx
    by_cases hlt:i<k
    ·obtain ⟨q,rfl⟩:∃ q,k=q+1:=⟨k - 1,by omega⟩
     have hp:q+1<n:=by omega
     have hq:q<n:=by omega
     have iw1:IntKind.i64.wrap ((q:Int)+1 - 1)=(q:Int):=by rw[show (q:Int)+1 - 1=(q:Int) by omega];exact IntWalk.i64_in _ (by omega)
     have iw3:IntKind.i64.wrap (q:Int)=(q:Int):=IntWalk.i64_in _ (by omega)
     have HW:Hid (Yk (YQ f m (q+1)) (q+1) q=YQ f m q):=Z0f f m q (by omega)
     generalize YQ f m (q+1)=g0 at *
     have HSL:=Lib.hid hW
     clear hW
     have iap:(0:Int)≤(q:Int)+1:=by omega
     have ibp:(q:Int)+1<(n:Int):=by omega
     have icp:((q:Int)+1).toNat=q+1:=by omega
     have idp:IntKind.i64.wrap ((q:Int)+1)=(q:Int)+1:=IntWalk.i64_in _ (by omega)
     have iaq:(0:Int)≤(q:Int):=by omega
     have ibq:(q:Int)<(n:Int):=by omega
     have icq:((q:Int)).toNat=q:=by omega
     have idq:IntKind.i64.wrap ((q:Int))=(q:Int):=IntWalk.i64_in _ (by omega)
     go_wp2_with fail
     refine Zf (fun W=>Z8 Zh 28 183 sz W blk n g0) (fun i=>!(i == 9 || i == 13)) (by kernel_rfl) ?_
     have hS0:Z8 Zh 28 183 sz wr.drew blk n g0:=HSL.out.drew
     have X0:Ext (·=blk) wr wr.drew:=(Ext.refl _ _).drew
     generalize wr.drew=W1 at hS0 X0 ⊢
     refine Z3 (i:=0) (d:=some 113) rfl rfl rfl (by kernel_rfl) (by kernel_rfl) (by kernel_rfl) (fun _ _ _ h=>h) (.inl ⟨by rfl,fun W hW=>by go_simp;rfl⟩) ?_
     try simp only[Ja]
     refine Z3 (i:=1) (d:=some 114) rfl rfl rfl (by kernel_rfl) (by kernel_rfl) (by kernel_rfl) (fun _ _ _ h=>h) (.inl ⟨by rfl,fun W hW=>by go_simp;rfl⟩) ?_
     try simp only[Ja]
     refine Z3 (i:=2) (d:=some 115) rfl rfl rfl (by kernel_rfl) (by kernel_rfl) (by kernel_rfl) (fun _ _ _ h=>h) (.inl ⟨by rfl,fun W hW=>by go_simp;rfl⟩) ?_
     try simp only[Ja]
     refine Z3 (i:=3) (d:=some 116) rfl rfl rfl (by kernel_rfl) (by kernel_rfl) (by kernel_rfl) (fun _ _ _ h=>h) (.inl ⟨by rfl,fun W hW=>by go_simp;rfl⟩) ?_
     try simp only[Ja]
     refine Z3 (i:=4) (d:=some 117) rfl rfl rfl (by kernel_rfl) (by kernel_rfl) (by kernel_rfl) (fun _ _ _ h=>h) (.inl ⟨by rfl,fun W hW=>by go_simp;rfl⟩) ?_
     try simp only[Ja]
     refine Z3 (i:=5) (d:=some 118) rfl rfl rfl (by kernel_rfl) (by kernel_rfl) (by kernel_rfl) (fun _ _ _ h=>h) (.inl ⟨by rfl,fun W hW=>by go_simp;rfl⟩) ?_
     try simp only[Ja]
     refine Z3 (i:=6) (d:=some 119) rfl rfl rfl (by kernel_rfl) (by kernel_rfl) (by kernel_rfl) (fun _ _ _ h=>h) (.inl ⟨by rfl,fun W hW=>by go_simp;rfl⟩) ?_
     try simp only[Ja]
     refine Z3 (i:=7) (d:=some 120) rfl rfl rfl (by kernel_rfl) (by kernel_rfl) (by kernel_rfl) (fun _ _ _ h=>h) (.inl ⟨by rfl,fun W hW=>by go_simp;rfl⟩) ?_
     try simp only[Ja]
     refine Z3 (i:=8) (d:=some 121) rfl rfl rfl (by kernel_rfl) (by kernel_rfl) (by kernel_rfl) (fun _ _ _ h=>h) (.inl ⟨by rfl,fun W hW=>by go_simp;rfl⟩) ?_
     try simp only[Ja]
     refine Z3 (i:=10) (d:=some 123) rfl rfl rfl (by kernel_rfl) (by kernel_rfl) (by kernel_rfl) (fun _ _ _ h=>h) (.inl ⟨by rfl,fun W hW=>by go_simp;rfl⟩) ?_
     try simp only[Ja]
     refine Z3 (i:=11) (d:=some 124) rfl rfl rfl (by kernel_rfl) (by kernel_rfl) (by kernel_rfl) (fun _ _ _ h=>h) (.inl ⟨by rfl,fun W hW=>by go_simp;rfl⟩) ?_
     try simp only[Ja]
     refine Z3 (i:=12) (d:=some 125) rfl rfl rfl (by kernel_rfl) (by kernel_rfl) (by kernel_rfl) (fun _ _ _ h=>h) (.inl ⟨by rfl,fun W hW=>by go_simp;rfl⟩) ?_
     try simp only[Ja]
     refine JR 9 122 (.agg (Zh (g0 q)).toArray) rfl rfl hS0 (fun W hW=>ZQ rfl rfl (Z8.load hW Yi YS hq)) ?_
     try simp only[Ja]
     refine JR 13 126 (.agg (Zh (g0 (q+1))).toArray) rfl rfl hS0 (fun W hW=>ZQ rfl rfl (Z8.load hW Yi YS hp)) ?_
     try simp only[Ja]
     refine Z3 (i:=14) (d:=some 127) rfl rfl rfl (by kernel_rfl) (by kernel_rfl) (by kernel_rfl) (fun _ _ _ h=>h) (.inl ⟨by rfl,fun W hW=>by go_simp;rfl⟩) ?_
     try simp only[Ja]
     obtain ⟨W2,st2,s2,e2⟩:=Z8.store hS0 Yi Vx YS hp (g0 q)
     refine Zg (i:=15) (d:=none) (by kernel_rfl) rfl rfl (by rfl) (YR rfl rfl rfl st2) (fun h=>by cases h) ?_
     try simp only[Ja]
     refine Z3 (i:=16) (d:=some 128) rfl rfl rfl (by kernel_rfl) (by kernel_rfl) (by kernel_rfl) (fun _ _ _ h=>h) (.inl ⟨by rfl,fun W hW=>by go_simp;rfl⟩) ?_
     try simp only[Ja]
     obtain ⟨W3,st3,s3,e3⟩:=Z8.store s2 Yi Vx YS hq (g0 (q+1))
     refine Zg (i:=17) (d:=none) (by kernel_rfl) rfl rfl (by rfl) (YR rfl rfl rfl st3) (fun h=>by cases h) ?_
     try simp only[Ja]
     refine Zd (by kernel_rfl) ?_ _
     have HSW:Hid (Z8 Zh 28 183 sz W3 blk n (Yk g0 (q+1) q)∧Ext (·=blk) wr W3):=Lib.hid ⟨by rw[VD];exact s3,(X0.trans e2).trans e3⟩
     clear hS0 X0 st2 s2 e2 st3 s3 e3
     clear HSL
     go_wp2_with fail
     go_roundg (q - i)
     case measure=>rw[HG2.out];omega
     case rel=>exact ⟨q,rfl,by omega,by omega,by go_num,by rw[←HW.out];exact HSW.out.1,HX2.out.trans HSW.out.2⟩
    ·obtain rfl:k=i:=by omega
     go_wp2_with fail
     refine bodyPost_ret (v:=.tuple #[]) (results_none rfl _ _ _) rfl ?_
     exact ⟨⟨_,rfl⟩,Lib.hid ⟨_,hW,by rw[HE.out];exact HD.out.2,by rw[HE.out];exact HD.out.1⟩,HX2.out⟩
end
section
variable {cap sz blk n:Nat} {lt:(Zc × Nat)→(Zc × Nat)→Prop}
theorem S2 {a m b:Nat} {f g:Nat→(Zc × Nat)} (h:Y0 lt Prod.snd a m b f) (hg:∀ i,a≤i→i<b→g i=f i):Y0 lt Prod.snd a m b g :=
 ⟨h.am,h.mb,h.left.congr (fun i h1 h2=>hg i h1 (by have:=h.mb;omega)),h.right.congr (fun i h1 h2=>hg i (by have:=h.am;omega) h2),fun i j h1 h2 h3 h4=>by have e1:=h.am;have e2:=h.mb;rw[hg i h1 (by omega),hg j (by omega) h4];exact h.apart i j h1 h2 h3 h4⟩
theorem Z0P (a m b:Nat) (f:Nat→(Zc × Nat)) (w:World) (hS:Z8 Zh 28 183 sz w blk n f) (R:XX lt Prod.snd (fun x y:(Zc × Nat)=>ZZ x.1 y.1)) (h:Y0 lt Prod.snd a m b f) (h1:a+1<m) (h2:m+1<b) (hbn:b≤n) (hcap:n≤cap) (hn:cap≤maxLen) (hN:n≤1000000) (IH:∀ (a' m' b':Nat) (f':Nat→(Zc × Nat)) (w0:World),b' - a'<b - a→Z8 Zh 28 183 sz w0 blk n f'→Y0 lt Prod.snd a' m' b' f'→b'≤n→Calls Tryz.prog 143 #[.slice (some ⟨blk,0,none⟩) n cap,.int .i64 a',.int .i64 m',.int .i64 b',.func (.func 98) #[] #[]] w0 fun e w'=>(∃ v,e=.returned v)∧Hid (∃ g,Z8 Zh 28 183 sz w' blk n g∧Zs a' b' f' g∧ZO lt a' b' g)∧Ext (·=blk) w0 w') :
  Calls Tryz.prog 143 #[.slice (some ⟨blk,0,none⟩) n cap,.int .i64 a,.int .i64 m,.int .i64 b,.func (.func 98) #[] #[]] w fun e w'=>(∃ v,e=.returned v)∧Hid (∃ g,Z8 Zh 28 183 sz w' blk n g∧Zs a b f g∧ZO lt a b g)∧Ext (·=blk) w w':=by
 have HN:=Lib.hid hn
 unfold maxLen at hn
 have HR:=Lib.hid R
 have HM:=Lib.hid h
 have HI:=Lib.hid IH
 clear R h IH
 have t1:((m:Int) - (a:Int) == 1)=false:=by rw[beq_eq_false_iff_ne];omega
 have t2:((b:Int) - (m:Int) == 1)=false:=by rw[beq_eq_false_iff_ne];omega
 obtain ⟨c0,hc0⟩:∃ c0:Nat,c0=(a+b) / 2:=⟨_,rfl⟩
 have hcc:a<c0∧c0<b:=by omega
 have hcz:((a:Int)+(b:Int)) / 2=(c0:Int):=by omega
 have hc3:2*c0≤a+b∧a+b≤2*c0+1:=by omega
 clear hc0
 go_enter Tryz.func143,Tryz.ntmps143
 go_upto_if 140 with fail
 go_cut [20,21] (fun sv rv wx=>∃ s r:Nat,sv=.int .i64 s∧rv=.int .i64 r∧a≤s∧s≤r∧r≤m∧c0+m≤b+s∧r≤c0∧Hid (s=a∨c0+m - s=b∨¬ lt (f (c0+m - s)) (f (s - 1)))∧Hid (r=m∨c0+m - r=m∨lt (f (c0+m - r - 1)) (f r))∧w=wx)
 case first=>as_aux_lemma =>
  clear hcz
  by_cases hgt:c0<m
  ·go_wp2_with fail
   go_meet
   exact ⟨c0+m - b,c0,by go_num,rfl,by omega,by omega,by omega,by omega,Nat.le_refl _,Jh (.inr (.inl (by omega))),Jh (.inr (.inl (by omega))),rfl⟩
  ·go_wp2_with fail
   go_meet
   exact ⟨a,m,rfl,rfl,Nat.le_refl _,by omega,Nat.le_refl _,by omega,by omega,Jh (.inl rfl),Jh (.inl rfl),rfl⟩
 case rest =>
  obtain ⟨s0,r0,rfl,rfl,i1,i2,i3,i4,i5,l1,l2,rfl⟩:=hcut
  clear hcz
  go_wp2_with fail
  go_loopg [20,21] (r0 - s0) (fun g0 sv rv wx=>∃ s r:Nat,g0=r - s∧sv=.int .i64 s∧rv=.int .i64 r∧a≤s∧s≤r∧r≤m∧c0+m≤b+s∧r≤c0∧Hid (s=a∨c0+m - s=b∨¬ lt (f (c0+m - s)) (f (s - 1)))∧Hid (r=m∨c0+m - r=m∨lt (f (c0+m - r - 1)) (f r))∧Z8 Zh 28 183 sz wx blk n f∧Ext (·=blk) w wx)
  case atStart=>exact ⟨s0,r0,rfl,rfl,rfl,i1,i2,i3,i4,i5,l1,l2,hS,Ext.refl _ _⟩
  case round =>
   clear i1 i2 i3 i4 i5 l1 l2 hS
   obtain ⟨s,r,hg,rfl,rfl,i1,i2,i3,i4,i5,l1,l2,hW,hx⟩:=hrel
   have HG:=Lib.hid hg
   clear hg
   have HX:=Lib.hid hx
   clear hx
   by_cases hlt:s<r
   ·as_aux_lemma =>
    obtain ⟨c,hh⟩:∃ c:Nat,c=(s+r) / 2:=⟨_,rfl⟩
    have hhi:s≤c∧c<r:=by omega
    have hhz:((s:Int)+(r:Int)) / 2=(c:Int):=by omega
    obtain ⟨q,hq⟩:∃ q:Nat,q=c0+m - 1 - c:=⟨_,rfl⟩
    have hqn:q<n:=by omega
    have hcn:c<n:=by omega
    have iwq:IntKind.i64.wrap ((c0:Int)+(m:Int) - 1 - (c:Int))=(q:Int):=by rw[show (c0:Int)+(m:Int) - 1 - (c:Int)=(q:Int) by omega];exact IntWalk.i64_in _ (by omega)
    have b0q:(0:Int)≤(q:Int):=by omega
    have b1q:(q:Int)<(n:Int):=by omega
    have b0c:(0:Int)≤(c:Int):=by omega
    have b1c:(c:Int)<(n:Int):=by omega
    have eq1:c0+m - c - 1=q:=by omega
    have eq2:c0+m - (c+1)=q:=by omega
    have EQ1:=Lib.hid eq1
    have EQ2:=Lib.hid eq2
    clear eq1 eq2
    obtain ⟨x,hx⟩:∃ x,x=f q:=⟨_,rfl⟩
    have HRx:=Lib.hid hx
    obtain ⟨y,hy⟩:∃ y,y=f c:=⟨_,rfl⟩
    have HRy:=Lib.hid hy
    have hcc2:ZZ x.1 y.1<0↔lt (f q) (f c):=by rw[hx,hy];exact HR.out.says _ _ (HM.out.apart c q (by omega) (by omega) (by omega) (by omega))
    have HCC:=Lib.hid hcc2
    clear hcc2 hx hy hh hq
    go_wp2_with fail
    clear hhz
    have iap:(0:Int)≤(q:Int):=by omega
    have ibp:(q:Int)<(n:Int):=by omega
    have icp:((q:Int)).toNat=q:=by omega
    have idp:IntKind.i64.wrap ((q:Int))=(q:Int):=IntWalk.i64_in _ (by omega)
    have iaq:(0:Int)≤(c:Int):=by omega
    have ibq:(c:Int)<(n:Int):=by omega
    have icq:((c:Int)).toNat=c:=by omega
    have idq:IntKind.i64.wrap ((c:Int))=(c:Int):=IntWalk.i64_in _ (by omega)
    have hS0:(fun W=>Z8 Zh 28 183 sz W blk n f) wr.drew:=hW.drew
    have b00:Below wr.heap.size wr wr.drew:=(Below.refl _ _).drew
    refine wp_region_held_drew (S:=(fun W=>Z8 Zh 28 183 sz W blk n f)) (by kernel_rfl) hS0 (fun _=>?_)
    generalize wr.drew=W1 at hS0 b00 ⊢
    refine Z9 (i:=0) (d:=some 158) rfl rfl (by kernel_rfl) (by kernel_rfl) (by kernel_rfl) (fun _ _ _ h=>h) (.inl ⟨by rfl,fun W hW=>by go_simp;rfl⟩) hS0 ?_
    try simp only[Ja]
    refine Z9 (i:=1) (d:=some 159) rfl rfl (by kernel_rfl) (by kernel_rfl) (by kernel_rfl) (fun _ _ _ h=>h) (.inl ⟨by rfl,fun W hW=>by go_simp;rfl⟩) hS0 ?_
    try simp only[Ja]
    refine Z9 (i:=2) (d:=some 160) rfl rfl (by kernel_rfl) (by kernel_rfl) (by kernel_rfl) (fun _ _ _ h=>h) (.inl ⟨by rfl,fun W hW=>by go_simp;rfl⟩) hS0 ?_
    try simp only[Ja]
    refine Z9 (i:=3) (d:=some 161) rfl rfl (by kernel_rfl) (by kernel_rfl) (by kernel_rfl) (fun _ _ _ h=>h) (.inl ⟨by rfl,fun W hW=>by go_simp;rfl⟩) hS0 ?_
    try simp only[Ja]
    refine Z9 (i:=4) (d:=some 162) rfl rfl (by kernel_rfl) (by kernel_rfl) (by kernel_rfl) (fun _ _ _ h=>h) (.inl ⟨by rfl,fun W hW=>by go_simp;rfl⟩) hS0 ?_
    try simp only[Ja]
    refine Z9 (i:=5) (d:=some 163) rfl rfl (by kernel_rfl) (by kernel_rfl) (by kernel_rfl) (fun _ _ _ h=>h) (.inl ⟨by rfl,fun W hW=>by go_simp;rfl⟩) hS0 ?_
    try simp only[Ja]
    refine Z9 (i:=6) (d:=some 164) (v:=.agg (Zh x).toArray) rfl rfl (by kernel_rfl) (by kernel_rfl) (by kernel_rfl) (fun _ _ _ h=>h) (.inl ⟨by rfl,fun W hW=>ZQ rfl rfl (by rw[HRx.out];exact Z8.load hW Yi YS hqn)⟩) hS0 ?_
    try simp only[Ja]
    refine Z9 (i:=7) (d:=some 165) rfl rfl (by kernel_rfl) (by kernel_rfl) (by kernel_rfl) (fun _ _ _ h=>h) (.inl ⟨by rfl,fun W hW=>by go_simp;rfl⟩) hS0 ?_
    try simp only[Ja]
    refine Z9 (i:=8) (d:=some 166) rfl rfl (by kernel_rfl) (by kernel_rfl) (by kernel_rfl) (fun _ _ _ h=>h) (.inl ⟨by rfl,fun W hW=>by go_simp;rfl⟩) hS0 ?_
    try simp only[Ja]
    refine Z9 (i:=9) (d:=some 167) rfl rfl (by kernel_rfl) (by kernel_rfl) (by kernel_rfl) (fun _ _ _ h=>h) (.inl ⟨by rfl,fun W hW=>by go_simp;rfl⟩) hS0 ?_
    try simp only[Ja]
    refine Z9 (i:=10) (d:=some 168) (v:=.agg (Zh y).toArray) rfl rfl (by kernel_rfl) (by kernel_rfl) (by kernel_rfl) (fun _ _ _ h=>h) (.inl ⟨by rfl,fun W hW=>ZQ rfl rfl (by rw[HRy.out];exact Z8.load hW Yi YS hcn)⟩) hS0 ?_
    try simp only[Ja]
    refine VH (i:=11) (d:=some 169) (by kernel_rfl) rfl rfl (by rfl) (by go_simp;first|rfl|exact ⟨rfl,rfl⟩|exact ⟨⟨rfl,rfl⟩,rfl⟩) ?_
    (refine (Vd x.1 y.1 _).mono ?_)
    rintro e w5 ⟨rfl,b5⟩
    have hS5:(fun W=>Z8 Zh 28 183 sz W blk n f) w5:=Z8.below hS0 b5
    replace b5:=b00.trans (b5.mono b00.size)
    refine ⟨_,rfl,hS5,?_⟩
    try simp only[Ja]
    clear hS0 b00
    refine Z9 (i:=12) (d:=some 170) rfl rfl (by kernel_rfl) (by kernel_rfl) (by kernel_rfl) (fun _ _ _ h=>h) (.inl ⟨by rfl,fun W hW=>by go_simp;rfl⟩) hS5 ?_
    try simp only[Ja]
    refine Z9 (i:=13) (d:=some 171) rfl rfl (by kernel_rfl) (by kernel_rfl) (by kernel_rfl) (fun _ _ _ h=>h) (.inl ⟨by rfl,fun W hW=>by go_simp;rfl⟩) hS5 ?_
    try simp only[Ja]
    refine wpAnyH_done (by kernel_rfl) ?_ _
    clear hS5 HRx HRy
    have HS5:=Jh (hW.below b5)
    have HX5:=Jh (HX.out.then_below b5)
    clear  hW b5 iwq
    by_cases hc:ZZ x.1 y.1<0
    ·have hcb:decide (ZZ x.1 y.1<0)=true:=decide_eq_true hc
     simp only[hcb,Bool.not_true]
     go_wp2_with fail
     go_roundg (c - s)
     case measure=>rw[HG.out];omega
     case rel=>exact ⟨s,c,rfl,rfl,rfl,i1,by omega,by omega,i4,by omega,l1,Jh (.inr (.inr (by rw[EQ1.out];exact HCC.out.1 hc))),HS5.out,HX5.out⟩
    ·have hcb:decide (ZZ x.1 y.1<0)=false:=decide_eq_false hc
     simp only[hcb,Bool.not_false]
     go_wp2_with fail
     go_roundg (r - (c+1))
     case measure=>rw[HG.out];omega
     case rel=>exact ⟨c+1,r,rfl,by go_num,rfl,by omega,by omega,i3,by omega,i5,Jh (.inr (.inr (by rw[EQ2.out,Nat.add_sub_cancel];exact fun t=>by have:=HCC.out.2 t;omega))),l2,HS5.out,HX5.out⟩
   ·obtain rfl:s=r:=by omega
    obtain ⟨e1,he1⟩:∃ e1:Nat,e1=c0+m - s:=⟨_,rfl⟩
    have iwe:((c0:Int)+(m:Int) - (s:Int))=(e1:Int):=by omega
    have hce:s+e1=c0+m:=by omega
    have HC:Hid (X6 lt a m b c0 s e1 f):=Lib.hid ⟨i1,i3,by omega,by omega,by omega,by rw[he1];exact l1.out,by rw[he1];exact l2.out⟩
    clear l1 l2 he1 hlt
    go_upto_region 39 with fail
    clear iwe
    go_cut [185] (fun cv wx=>cv=.bool (decide (s<m) && decide (m<e1))∧wr=wx)
    case first=>as_aux_lemma =>
     by_cases hs1:s<m
     ·by_cases hs2:m<e1
      ·go_wp2_with fail
       go_meet
       exact ⟨by simp[hs1,hs2],rfl⟩
      ·go_wp2_with fail
       go_meet
       exact ⟨by simp[hs1,hs2],rfl⟩
     ·go_wp2_with fail
      go_meet
      exact ⟨by simp[hs1],rfl⟩
    case rest =>
     obtain ⟨rfl,rfl⟩:=hcut
     go_upto_if 185 with fail
     go_cut [] (fun wx=>Z8 Zh 28 183 sz wx blk n (Ys f s m e1)∧Ext (·=blk) w wx)
     case first=>as_aux_lemma =>
      by_cases hs:s<m∧m<e1
      ·have hb:(decide (s<m) && decide (m<e1))=true:=by simp[hs.1,hs.2]
       simp only[hb]
       go_wp2_with fail
       (with_reducible refine (Z0m s m e1 f _ _ hW hs.1 hs.2 (by omega) hcap HN.out).mono ?_)
       rintro e w5 ⟨⟨v5,rfl⟩,s5,x5⟩
       go_wp2_with fail
       go_meet
       exact ⟨s5,HX.out.trans x5⟩
      ·have hb:(decide (s<m) && decide (m<e1))=false:=by rw[Bool.eq_false_iff];simpa using hs
       simp only[hb]
       go_wp2_with fail
       go_meet
       exact ⟨by rw[Z3l f i3 (by omega) (by omega)];exact hW,HX.out⟩
     case rest =>
      obtain ⟨hW2,hx2⟩:=hcut
      have HX2:=Lib.hid hx2
      clear hx2 hW
      go_upto_region 41 with fail
      go_cut [199] (fun cv wx=>cv=.bool (decide (a<s) && decide (s<c0))∧wc=wx)
      case first=>as_aux_lemma =>
       by_cases hs1:a<s
       ·by_cases hs2:s<c0
        ·go_wp2_with fail
         go_meet
         exact ⟨by simp[hs1,hs2],rfl⟩
        ·go_wp2_with fail
         go_meet
         exact ⟨by simp[hs1,hs2],rfl⟩
       ·go_wp2_with fail
        go_meet
        exact ⟨by simp[hs1],rfl⟩
      case rest =>
       obtain ⟨rfl,rfl⟩:=hcut
       go_upto_if 199 with fail
       go_cut [] (fun wx=>Hid (∃ g,Z8 Zh 28 183 sz wx blk n g∧Zs a c0 (Ys f s m e1) g∧ZO lt a c0 g)∧Ext (·=blk) w wx)
       case first=>as_aux_lemma =>
        by_cases hs:a<s∧s<c0
        ·have hb:(decide (a<s) && decide (s<c0))=true:=by simp[hs.1,hs.2]
         simp only[hb]
         go_wp2_with fail
         (with_reducible refine (HI.out a s c0 _ _ (by omega) hW2 (HC.out.pre1 HM.out hs.1 hs.2) (by omega)).mono ?_)
         rintro e w5 ⟨⟨v5,rfl⟩,s5,x5⟩
         go_wp2_with fail
         go_meet
         exact ⟨s5,HX2.out.trans x5⟩
        ·have hb:(decide (a<s) && decide (s<c0))=false:=by rw[Bool.eq_false_iff];simpa using hs
         simp only[hb]
         go_wp2_with fail
         go_meet
         exact ⟨Lib.hid ⟨_,hW2,Zs.refl _ _ _,HC.out.sort1 HM.out hs⟩,HX2.out⟩
       case rest =>
        obtain ⟨hQ,hx3⟩:=hcut
        have HX3:=Lib.hid hx3
        clear hx3 hW2
        obtain ⟨g1,hW3,p1,q1⟩:=hQ.out
        have P1:=Lib.hid p1
        have Q1:=Lib.hid q1
        clear p1 q1 hQ
        go_upto_region 43 with fail
        go_cut [213] (fun cv wx=>cv=.bool (decide (c0<e1) && decide (e1<b))∧wc=wx)
        case first=>as_aux_lemma =>
         by_cases hs1:c0<e1
         ·by_cases hs2:e1<b
          ·go_wp2_with fail
           go_meet
           exact ⟨by simp[hs1,hs2],rfl⟩
          ·go_wp2_with fail
           go_meet
           exact ⟨by simp[hs1,hs2],rfl⟩
         ·go_wp2_with fail
          go_meet
          exact ⟨by simp[hs1],rfl⟩
        case rest =>
         obtain ⟨rfl,rfl⟩:=hcut
         go_upto_if 213 with fail
         have hfin:∀ (g2:Nat→(Zc × Nat)) (w6:World),Z8 Zh 28 183 sz w6 blk n g2→Zs c0 b g1 g2→ZO lt c0 b g2→Hid (∃ g,Z8 Zh 28 183 sz w6 blk n g∧Zs a b f g∧ZO lt a b g):=fun g2 w6 W6 p2 q2=>Lib.hid ⟨g2,W6,((Z1z f i3 (by omega) i1 (by omega)).trans (P1.out.mono (Nat.le_refl _) (by omega))).trans (p2.mono (by omega) (Nat.le_refl _)),Q9 (fun i j=>HC.out.cross HR.out HM.out) P1.out Q1.out p2 q2⟩
         have HF:=Lib.hid hfin
         clear hfin
         by_cases hs:c0<e1∧e1<b
         ·have hb:(decide (c0<e1) && decide (e1<b))=true:=by simp[hs.1,hs.2]
          simp only[hb]
          go_wp2_with fail
          (with_reducible refine (HI.out c0 e1 b _ _ (by omega) hW3 (S2 (HC.out.pre2 HM.out hs.1 hs.2) (fun i h1 h2=>P1.out.out (.inr h1))) (by omega)).mono ?_)
          rintro e w5 ⟨⟨v5,rfl⟩,s5,x5⟩
          go_wp2_with fail
          go_end0
          obtain ⟨g2,a1,a2,a3⟩:=s5.out
          exact ⟨⟨_,rfl⟩,HF.out g2 _ a1 a2 a3,HX3.out.trans x5⟩
         ·have hb:(decide (c0<e1) && decide (e1<b))=false:=by rw[Bool.eq_false_iff];simpa using hs
          simp only[hb]
          go_wp2_with fail
          go_end0
          exact ⟨⟨_,rfl⟩,HF.out g1 _ hW3 (Zs.refl _ _ _) ((HC.out.sort2 HM.out hs).congr (fun i h1 h2=>P1.out.out (.inr h1))),HX3.out⟩
theorem Uv:∀ (k a m b:Nat) (f:Nat→(Zc × Nat)) (w:World),b - a≤k→Z8 Zh 28 183 sz w blk n f→XX lt Prod.snd (fun x y:(Zc × Nat)=>ZZ x.1 y.1)→Y0 lt Prod.snd a m b f→b≤n→n≤cap→cap≤maxLen→n≤1000000→Calls Tryz.prog 143 #[.slice (some ⟨blk,0,none⟩) n cap,.int .i64 a,.int .i64 m,.int .i64 b,.func (.func 98) #[] #[]] w fun e w'=>(∃ v,e=.returned v)∧Hid (∃ g,Z8 Zh 28 183 sz w' blk n g∧Zs a b f g∧ZO lt a b g)∧Ext (·=blk) w w'
 | 0,a,m,b,f,w,hk,hS,R,h,hbn,hcap,hn,hN=>by have e1:=h.am;have e2:=h.mb;omega
 | k+1,a,m,b,f,w,hk,hS,R,h,hbn,hcap,hn,hN=>by
  by_cases c1:m=a+1
  ·exact Z0K a m b c1 f w hS R h hbn hcap hn hN
  ·by_cases c2:b=m+1
   ·exact QK a m b c2 f w hS R h (by have:=h.am;omega) hbn hcap hn hN
   ·exact Z0P a m b f w hS R h (by have:=h.am;omega) (by have:=h.mb;omega) hbn hcap hn hN (fun a' m' b' f' w0 h1 h2 h3 h4=>Uv k a' m' b' f' w0 (by omega) h2 R h3 h4 hcap hn hN)
end
section
variable {cap sz blk n:Nat} {lt:(Zc × Nat)→(Zc × Nat)→Prop}
theorem UJ (a b:Nat) (f:Nat→(Zc × Nat)) (w:World) (hS:Z8 Zh 28 183 sz w blk n f) (R:XX lt Prod.snd (fun x y:(Zc × Nat)=>ZZ x.1 y.1)) (hab:a≤b) (hbn:b≤n) (hcap:n≤cap) (hn:cap≤maxLen) (hN:n≤1000000) (hp:∀ p q,a≤p→p<q→q<b→(f p).2<(f q).2):Calls Tryz.prog 142 #[.slice (some ⟨blk,0,none⟩) n cap,.int .i64 a,.int .i64 b,.func (.func 98) #[] #[]] w fun e w'=>(∃ v,e=.returned v)∧Hid (∃ g,Z8 Zh 28 183 sz w' blk n g∧Zs a b f g∧ZO lt a b g)∧Ext (·=blk) w w':=by
 by_cases h:a<b
 ·exact SO a b f w hS R h hbn hcap hn hp
 ·obtain rfl:a=b:=by omega
  refine (VW _ a _ w (by omega)).mono ?_
  rintro e w' ⟨h1,rfl⟩
  exact ⟨h1,Lib.hid ⟨f,hS,Zs.refl _ _ _,fun i j h1 h2 h3=>by omega⟩,Ext.refl _ _⟩
theorem Q7 (v fv:Value) (w:World):Calls Tryz.prog 129 #[v,.int .i64 0,fv] w fun e w'=>(∃ v,e=.returned v)∧w=w':=by
 go_enter Tryz.func129,Tryz.ntmps129
 go_wp2_with fail
 go_loopg [7,8] 1 (fun g av bv wx=>av=.int .i64 (0:Nat)∧bv=.int .i64 20∧w=wx)
 case atStart=>exact ⟨rfl,rfl,rfl⟩
 case round =>
  obtain ⟨rfl,rfl,rfl⟩:=hrel
  go_wp2_with fail
  have hK:=VW v 0 fv w (by omega)
  push_cast at hK
  (with_reducible refine hK.mono ?_)
  clear hK
  rintro e w5 ⟨⟨v5,rfl⟩,rfl⟩
  go_wp2_with fail
  go_loopg [6] 1 (fun g sv wx=>sv=.int .i64 20∧w=wx)
  case atStart=>exact ⟨rfl,rfl⟩
  case round =>
   obtain ⟨rfl,rfl⟩:=hrel
   go_wp2_with fail
   go_end0
   exact ⟨⟨_,rfl⟩,rfl⟩
theorem QV (f:Nat→(Zc × Nat)) (w:World) (hS:Z8 Zh 28 183 sz w blk n f) (R:XX lt Prod.snd (fun x y:(Zc × Nat)=>ZZ x.1 y.1)) (hcap:n≤cap) (hn:cap≤maxLen) (hN:n≤1000000) (hp:∀ p q,p<q→q<n→(f p).2<(f q).2) :
  Calls Tryz.prog 129 #[.slice (some ⟨blk,0,none⟩) n cap,.int .i64 n,.func (.func 98) #[] #[]] w fun e w'=>(∃ v,e=.returned v)∧Hid (∃ g,Z8 Zh 28 183 sz w' blk n g∧Zs 0 n f g∧ZO lt 0 n g)∧Ext (·=blk) w w':=by
 have HN:=Lib.hid hn
 unfold maxLen at hn
 have HR:=Lib.hid R
 have HP:=Lib.hid hp
 clear R hp
 go_enter Tryz.func129,Tryz.ntmps129
 go_wp2_with fail
 go_loopg [7,8] (n+20) (fun g0 av bv wx=>∃ (a:Nat) (g:Nat→(Zc × Nat)),g0+a=n+20∧a≤n∧av=.int .i64 a∧bv=.int .i64 (a+20:Nat)∧Z8 Zh 28 183 sz wx blk n g∧Hid (Zs 0 n f g)∧Hid (Wf lt f 20 g a)∧Hid (∀ i,a≤i→i<n→g i=f i)∧Ext (·=blk) w wx)
 case atStart=>exact ⟨0,f,by omega,Nat.zero_le _,rfl,rfl,hS,Jh (Zs.refl _ _ _),Lib.hid .zero,Jh (fun _ _ _=>rfl),Ext.refl _ _⟩
 case round =>
  obtain ⟨a,g,hg,han,rfl,rfl,hW,hpm,hfr,hre,hx⟩:=hrel
  have HG:=Lib.hid hg
  clear hg hS
  have HX:=Lib.hid hx
  clear hx
  have hpos:∀ b,b≤n→∀ p q,a≤p→p<q→q<b→(g p).2<(g q).2:=fun b hb p q h1 h2 h3=>by rw[hre.out p h1 (by omega),hre.out q (by omega) (by omega)];exact HP.out p q h2 (by omega)
  have HO:=Lib.hid hpos
  clear hpos
  by_cases hlt:a+20≤n
  ·go_wp2_with fail
   have hK:=UJ a (a+20) g _ hW HR.out (by omega) hlt hcap HN.out hN (HO.out _ hlt)
   rw[show ((a+20:Nat):Int)=(a:Int)+20 by omega] at hK
   (with_reducible refine hK.mono ?_)
   clear hK
   rintro e w5 ⟨⟨v5,rfl⟩,s5,x5⟩
   obtain ⟨g1,W1,p1,q1⟩:=s5.out
   have P1:=Lib.hid p1
   have Q1:=Lib.hid q1
   clear p1 q1 s5
   go_wp2_with fail
   go_roundg (n - a)
   case measure=>have:=HG.out;omega
   case rel=>exact ⟨a+20,g1,by omega,hlt,rfl,by go_num,W1,Jh (hpm.out.trans (P1.out.mono (Nat.zero_le _) hlt)),Jh (.snoc (hfr.out.congr fun i h=>P1.out.out (.inl h)) (Tv (fun i h1 h2=>hre.out i h1 (by omega)) P1.out Q1.out)),Jh (fun i h1 h2=>by rw[P1.out.out (.inr h1)];exact hre.out i (by omega) h2),HX.out.trans x5⟩
  ·go_wp2_with fail
   have hK:=UJ a n g _ hW HR.out han (Nat.le_refl _) hcap HN.out hN (HO.out _ (Nat.le_refl _))
   push_cast at hK
   (with_reducible refine hK.mono ?_)
   clear hK
   rintro e w5 ⟨⟨v5,rfl⟩,s5,x5⟩
   obtain ⟨g1,W1,p1,q1⟩:=s5.out
   have hru:Xu lt f 20 n g1 0:=Wf.runs (hfr.out.congr fun i h=>p1.out (.inl h)) han (by
    by_cases ha:a<n
    ·exact .step ha (by rw[Nat.min_eq_right (by omega)];exact Tv (fun i h1 h2=>hre.out i h1 h2) p1 q1) (.done (by omega))
    ·exact .done (by omega))
   have HRU:=Lib.hid hru
   have HPM:=Jh (hpm.out.trans (p1.mono (Nat.zero_le _) (Nat.le_refl _)))
   have HX1:=Jh (HX.out.trans x5)
   clear hru p1 q1 s5 x5 hpm hfr hre hW
   go_wp2_with fail
   go_loopg [6] (n - 20) (fun g0 sv wx=>∃ (s:Nat) (g:Nat→(Zc × Nat)),g0=n - s∧1≤s∧s≤2*n+20∧sv=.int .i64 s∧Z8 Zh 28 183 sz wx blk n g∧Hid (Zs 0 n f g)∧Hid (Xu lt f s n g 0)∧Ext (·=blk) w wx)
   case atStart=>exact ⟨20,g1,rfl,by omega,by omega,rfl,W1,HPM,HRU,HX1.out⟩
   case round =>
    clear HPM HRU HX1 W1 HG HX HO
    obtain ⟨s,g,hg,hs1,hs2,rfl,hW,hpm,hru,hx⟩:=hrel
    have HG:=Lib.hid hg
    clear hg
    have HX:=Lib.hid hx
    clear hx
    by_cases hsn:s<n
    ·obtain ⟨wo,hwo⟩:∃ wo:World,wo=wr:=⟨_,rfl⟩
     subst hwo
     go_wp2_with fail
     go_loopg [7,8] (n+2*s) (fun g0 av bv wx=>∃ (a:Nat) (g:Nat→(Zc × Nat)),g0+a=n+2*s∧a≤n∧av=.int .i64 a∧bv=.int .i64 (a+2*s:Nat)∧Z8 Zh 28 183 sz wx blk n g∧Hid (Zs 0 n f g)∧Hid (Wf lt f (2*s) g a)∧Hid (Xu lt f s n g a)∧Ext (·=blk) w wx)
     case atStart=>exact ⟨0,g,by omega,Nat.zero_le _,rfl,by go_num,hW,hpm,Lib.hid .zero,hru,HX.out⟩
     case round =>
      clear hpm hru HX hW
      obtain ⟨a,g,hg,han,rfl,rfl,hW,hpm,hfr,hru,hx⟩:=hrel
      have HG2:=Lib.hid hg
      clear hg
      have HX:=Lib.hid hx
      clear hx
      by_cases hlt:a+2*s≤n
      ·have r1:=hru.out.first (by omega)
       have r2:=r1.2.first (by omega)
       rw[Nat.min_eq_left (by omega)] at r1 r2
       have e2:a+s+s=a+2*s:=by omega
       rw[e2] at r2
       have Q1:=Lib.hid r1.1
       have Q2:=Lib.hid r2.1
       have Q3:=Lib.hid r2.2
       clear r1 r2 e2
       have hpre:=Jh (T8 (pos:=Prod.snd) (show a<a+s by omega) (show a+s<a+2*s by omega) hlt HP.out Q1.out Q2.out)
       go_wp2_with fail
       have hK:=Uv (2*s) a (a+s) (a+2*s) g _ (by omega) hW HR.out hpre.out hlt hcap HN.out hN
       push_cast at hK
       (with_reducible refine hK.mono ?_)
       clear hK
       rintro e w5 ⟨⟨v5,rfl⟩,s5,x5⟩
       obtain ⟨g1,W1,p1,q1⟩:=s5.out
       have P1:=Lib.hid p1
       have O1:=Lib.hid q1
       clear p1 q1 s5
       go_wp2_with fail
       go_roundg (n+2*s - (a+2*s))
       case measure=>have:=HG2.out;omega
       case rel=>exact ⟨a+2*s,g1,by omega,hlt,rfl,by go_num,W1,Jh (hpm.out.trans (P1.out.mono (Nat.zero_le _) hlt)),Jh (.snoc (hfr.out.congr fun i h=>P1.out.out (.inl h)) (Z1P (by omega) (by omega) Q1.out Q2.out P1.out O1.out)),Jh (Q3.out.congr fun i h1 h2=>P1.out.out (.inr h1)),HX.out.trans x5⟩
      ·by_cases hmn:a+s<n
       ·have r1:=hru.out.first (by omega)
        have r2:=r1.2.first (by omega)
        rw[Nat.min_eq_left (by omega)] at r1
        rw[Nat.min_eq_right (by omega)] at r2
        have Q1:=Lib.hid r1.1
        have Q2:=Lib.hid r2.1
        clear r1 r2
        have hpre:=Jh (T8 (pos:=Prod.snd) (show a<a+s by omega) (show a+s<n by omega) (Nat.le_refl _) HP.out Q1.out Q2.out)
        go_wp2_with fail
        have hK:=Uv (2*s) a (a+s) n g _ (by omega) hW HR.out hpre.out (Nat.le_refl _) hcap HN.out hN
        push_cast at hK
        (with_reducible refine hK.mono ?_)
        clear hK
        rintro e w5 ⟨⟨v5,rfl⟩,s5,x5⟩
        obtain ⟨g1,W1,p1,q1⟩:=s5.out
        have P1:=Lib.hid p1
        have O1:=Lib.hid q1
        clear p1 q1 s5
        go_wp2_with fail
        go_roundg (n - 2*s)
        case measure=>rw[HG.out];omega
        case rel=>exact ⟨2*s,g1,rfl,by omega,by omega,by go_num,W1,Jh (hpm.out.trans (P1.out.mono (Nat.zero_le _) (Nat.le_refl _))),Jh (Wf.runs (hfr.out.congr fun i h=>P1.out.out (.inl h)) han (.step (by omega) (by rw[Nat.min_eq_right (by omega)];exact Z1P (by omega) (by omega) Q1.out Q2.out P1.out O1.out) (.done (by omega)))),HX.out.trans x5⟩
       ·go_wp2_with fail
        go_roundg (n - 2*s)
        case measure=>rw[HG.out];omega
        case rel=>exact ⟨2*s,g,rfl,by omega,by omega,by go_num,hW,hpm,Jh (hfr.out.runs han (hru.out.last (by omega) (by omega))),HX.out⟩
    ·go_wp2_with fail
     go_end0
     exact ⟨⟨_,rfl⟩,Lib.hid ⟨g,hW,hpm.out,hru.out.all (by omega)⟩,HX.out⟩
end
instance:Inhabited Zc:=⟨⟨⟨⟨0,0⟩,0,0,0,0,0,0,0,0,0,⟨0,0⟩,0,0,⟨0,0⟩,⟨#[]⟩,⟨#[]⟩,⟨#[]⟩,⟨0,0⟩,false,⟨0,0⟩,false⟩,0,0⟩⟩
def Sc (x:Zc):St:=x.op.id
theorem Z0j:XX (ltT ZI Sc) Prod.snd (fun x y:Zc × Nat=>ZZ x.1 y.1) :=
 RY Zl (fun a b c h k=>ZC h k) Y5 (fun x y=>Wm _ _)
theorem Se {base:Nat} {w:World} {v:Value} {l:List Zc} (h:Own Zc.cells 28 183 base w v l) (hl:l.length≤1000000) :
  Calls Tryz.prog 97 #[v,.func (.func 98) #[] #[]] w
   fun e w'=>(∃ u,e=.returned u)∧Hid (∃ l',XN ZI Sc l l'∧Own Zc.cells 28 183 base w' v l')∧Ext (fun b=>v.ownBlock=some b) w w':=by
 rcases h.eq_slice with ⟨rfl,rfl⟩|⟨g,cap,rfl,hb,hg⟩
 ·go_enter Tryz.func97,Tryz.ntmps97
  go_wp2_with fail
  refine (Q7 _ _ _).mono ?_
  rintro e w' ⟨⟨u,rfl⟩,rfl⟩
  have HO:=Lib.hid h
  clear h
  go_wp2_with fail
  go_end0
  exact ⟨⟨_,rfl⟩,Lib.hid ⟨[],⟨[],List.Perm.refl _,List.Pairwise.nil,rfl⟩,HO.out⟩,Ext.refl _ _⟩
 ·obtain ⟨hS,hbg,hlc,hcm⟩:=Own.slab (ea:=Zc.cells) (k:=28) (fun _=>rfl) h
  have hS2:Z8 Zh 28 183 (cap*28) w g l.length (Z0e l):=hS
  have HC:=Jh (QV (Z0e l) w hS2 Z0j hlc hcm hl (fun p q h1 _=>h1))
  have hll:(l.length:Int)≤1000000:=by omega
  have HB:=Lib.hid hbg
  have HL:=Lib.hid hlc
  have HM:=Lib.hid hcm
  clear h hS hS2 hb hbg hlc hcm hl
  go_enter Tryz.func97,Tryz.ntmps97
  go_wp2_with fail
  refine HC.out.mono ?_
  rintro e w' ⟨⟨u,rfl⟩,hq,hx⟩
  clear HC
  have HX:=Lib.hid hx
  clear hx
  go_wp2_with fail
  go_end0
  obtain ⟨f,h1,h2,h3⟩:=hq.out
  refine ⟨⟨_,rfl⟩,Lib.hid ⟨((List.range l.length).map f).map (·.1),⟨_,by rw[←Z2M];exact h2.list,h3.list,rfl⟩,?_⟩,HX.out.mono (fun b _ e=>by rw[e];rfl)⟩
  have h4:Z8 Zc.cells 28 183 (cap*28) w' g l.length (fun i=>(f i).1):=h1
  have:=Z8.own (ea:=Zc.cells) (k:=28) (fun _=>rfl) (by omega) h4 HB.out HL.out HM.out
  rw[List.map_map]
  have e1:((List.range l.length).map (Prod.fst ∘ f)).length=l.length:=by simp
  exact this
section
variable {P:Program}
theorem V7 {T:TypeId} {k b o:Nat} {w:World} {cs:List Value} (ht:XM P T k) (hk:cs.length=k) (hc:∀ j u,cs[j]?=some u→w.cell? ⟨b,o+j,none⟩=some u) :
  (Instr.loadAt T (.pointer (some ⟨b,o,none⟩))).run P w=.ok (.agg cs.toArray) w:=by
 have hl:=run_loadCells_list (P:=P) w ⟨b,o,none⟩ cs (fun j v hj=>by rw[Uj];exact hc j v hj)
 rw[hk] at hl
 simp[Instr.loadAt,Instr.sureAddr,loadVar,ht.agg,ht.size,hl]
theorem Ue (w:World) (o:Obj):(w.alloc o).heap[w.heap.size]?=some o:=by
 show (w.heap.push o)[w.heap.size]?=_
 simp
theorem ZF {w:World} {cs:List Value} {T:TypeId} (j:Nat) (u:Value) (h:cs[j]?=some u):(w.alloc (.cells cs.toArray T)).cell? ⟨w.heap.size,j,none⟩=some u:=by
 unfold World.cell?
 simp only[Ue]
 simpa using h
theorem XG {T:TypeId} {k:Nat} (ht:XM P T k) {W:World} {z:Array Value} {cs:List Value} (hz:z.size=cs.length) (hk:cs.length=k) (h1:∀ u∈cs,u.oneCell'=true) :
  (Instr.storeAt T (.pointer (some ⟨W.heap.size,0,none⟩)) (.agg cs.toArray)).run P (W.alloc (.cells z T))=.ok () (W.alloc (.cells cs.toArray T)):=by
 have hst:=run_storeCells_at P W.heap.size 0 T cs 0 z (W.alloc (.cells z T)) (Ue W _) (by omega) h1
 simp[Instr.storeAt,Instr.sureAddr,storeVar,ht.size,Value.cells,hk,hst]
 have e:z.toList.drop k=[]:=List.drop_eq_nil_of_le (by simp;omega)
 rw[e,List.append_nil]
 have e2:((W.alloc (.cells z T)).setRow W.heap.size cs.toArray).heap=(W.alloc (.cells cs.toArray T)).heap:=by
  refine Array.ext_getElem? fun i=>?_
  by_cases hi:W.heap.size=i
  ·subst hi
   rw[setRow_heap _ _ z _ T (0,0) (Ue W _),Ue]
  ·simp only[World.setRow,Array.getElem?_modify,if_neg hi]
   show (W.heap.push _)[i]?=(W.heap.push _)[i]?
   rw[Array.getElem?_push,Array.getElem?_push,if_neg (fun e=>hi (Eq.symm e)),if_neg (fun e=>hi (Eq.symm e))]
 have e3:∀ A B:World,A.heap=B.heap→A.tape=B.tape→A.drawn=B.drawn→A.os=B.os→A.output=B.output→A=B:=by
  rintro ⟨⟩ ⟨⟩ rfl rfl rfl rfl rfl
  rfl
 exact e3 _ _ e2 rfl rfl rfl rfl
end
section
variable {P:Program} {F:Fence} {m:Nat} {ops:Array Oper} {rest:List Oper} {o:Oper} {a:Act} {Q:Exit→Act→World→Prop} {W W':World}
theorem Uy (hg:o.guard=none) {T:TypeId} {ps:Array (Nat × Operand)} {vs:Array (Nat × Value)} {v:Value} (ho:o.op=.build T ps) (hx:(ps.map fun p=>(p.1,a.eval p.2))=vs)
  (hr:(Instr.build T vs).run P W=.ok v W) (h:wpListIn F m P ops Q rest (a.put o.dst v) W):wpListIn F m P ops Q (o :: rest) a W:=by
 subst hx
 refine wpListIn_plain hg fun K hK'=>?_
 unfold Oper.wpIn
 refine ⟨by simp[Oper.about,ho],?_⟩
 rw[Oper.semAt_plain F _ _ (by rw[ho];intro c hc';cases hc')]
 simp[execOp,ho,hr,Result.andThen]
 exact hK' _ _ h
theorem Vt (hg:o.guard=none) {T:TypeId} {n:Nat} {ps:Array (Nat × Operand)} {vs:Array (Nat × Value)} {v:Value} (ho:o.op=.buildSlice T n ps) (hx:(ps.map fun p=>(p.1,a.eval p.2))=vs)
  (hr:(Instr.buildSlice T n vs).run P W=.ok v W') (h:wpListIn F m P ops Q rest (a.put o.dst v) W'):wpListIn F m P ops Q (o :: rest) a W:=by
 subst hx
 refine wpListIn_plain hg fun K hK'=>?_
 unfold Oper.wpIn
 refine ⟨by simp[Oper.about,ho],?_⟩
 rw[Oper.semAt_plain F _ _ (by rw[ho];intro c hc';cases hc')]
 simp[execOp,ho,hr,Result.andThen]
 exact hK' _ _ h
theorem Uu (hg:o.guard=none) {T:TypeId} {p x:Operand} {q v:Value} (ho:o.op=.store T p x) (hp:a.eval p=q) (hx:a.eval x=v)
  (hr:(Instr.storeAt T q v).run P W=.ok () W') (h:wpListIn F m P ops Q rest (a.put o.dst undef) W'):wpListIn F m P ops Q (o :: rest) a W:=by
 refine wpListIn_plain hg fun K hK'=>?_
 unfold Oper.wpIn
 refine ⟨by simp[Oper.about,ho],?_⟩
 rw[Oper.semAt_plain F _ _ (by rw[ho];intro c hc';cases hc')]
 simp[execOp,ho,hp,hx,hr,Result.andThen]
 exact hK' _ _ h
theorem Wj (hg:o.guard=none) {T:TypeId} {p x:Operand} {q v:Value} (ho:o.op=.store T p x) (hp:a.eval p=q) (hx:a.eval x=v)
  (hr:(Instr.storeAt T q v).run P W=.ok () W') (h:wpList P ops Q rest (a.put o.dst undef) W'):wpList P ops Q (o :: rest) a W :=
 wpList_plain hg fun _ hK=>by
  rw[Oper.wp,YR ho hp hx hr]
  exact hK _ _ h
theorem Us (hg:o.guard=none) {T:TypeId} {x0 x1 x2:Operand} {v0 v1 v2 v:Value} (ho:o.op=.build T #[(0,x0),(1,x1),(2,x2)]) (h0:a.eval x0=v0) (h1:a.eval x1=v1) (h2:a.eval x2=v2)
  (hr:(Instr.build T #[(0,v0),(1,v1),(2,v2)]).run P W=.ok v W) (h:wpListIn F m P ops Q rest (a.put o.dst v) W):wpListIn F m P ops Q (o :: rest) a W :=
 Uy hg ho (by simp[h0,h1,h2]) hr h
theorem Ur (hg:o.guard=none) {T:TypeId} {n:Nat} {x0:Operand} {v0 v:Value} (ho:o.op=.buildSlice T n #[(0,x0)]) (h0:a.eval x0=v0)
  (hr:(Instr.buildSlice T n #[(0,v0)]).run P W=.ok v W') (h:wpListIn F m P ops Q rest (a.put o.dst v) W'):wpListIn F m P ops Q (o :: rest) a W :=
 Vt hg ho (by simp[h0]) hr h
end
attribute [local go_sem] Oper.semAt_some
attribute [local go_sem] Z6.alloc Z6.drew Z6.setCell
theorem Z1X:(Tryz.prog.info? 183).map (fun i=>(i.zero,i.size,i.bytes))=some (some (.agg (Zc.cells ⟨⟨⟨0,0⟩,0,0,0,0,0,0,0,0,0,⟨0,0⟩,0,0,⟨0,0⟩,⟨#[]⟩,⟨#[]⟩,⟨#[]⟩,⟨0,0⟩,false,⟨0,0⟩,false⟩,0,0⟩).toArray),28,248):=by kernel_rfl
theorem Z2R:XM Tryz.prog 181 26:=⟨fun w=>by kernel_rfl,fun w=>by kernel_rfl⟩
theorem Sd (o:OpD) (p q:Int) (W:World):(Instr.build 183 #[(0,.agg (OpD.cells o).toArray),(1,.int .i64 p),(2,.int .i64 q)]).run Tryz.prog W=.ok (.agg (Zc.cells ⟨o,p,q⟩).toArray) W:=by kernel_rfl
theorem S8 (x:Zc) (W:World):(Instr.buildSlice 140 1 #[(0,.agg (Zc.cells x).toArray)]).run Tryz.prog W=.ok (.slice (some ⟨W.heap.size,0,none⟩) 1 1) (W.alloc (.cells (Zc.cells x).toArray 183)):=by kernel_rfl
theorem Z1L (va vb:Option Addr) (ca cb:Nat) (l:List El) (ms:List OpD) (w:World) (hl:Z4 El.cells 4 w (.slice va l.length ca) l) (hm:Z4 OpD.cells 26 w (.slice vb ms.length cb) ms) (hln:l.length≤1000) (hmn:ms.length≤1000) :
  Calls Tryz.prog 68 #[.slice va l.length ca,.slice vb ms.length cb] w
   fun e w'=>∃ v F,e=.returned v∧Own Zc.cells 28 183 w.heap.size w' v F∧XN ZI Sc (Yq (Zy (Ze l)) (Ze ms)) F∧Below w.heap.size w w':=by
 have hmm:=@run_makeMap Tryz.prog
 refine (callsIn_wide (n:=5)).1 ?_
 refine callsIn_of_wp_marks Tryz.func68 rfl trivial ?_ rfl
 simp only[Tryz.ntmps68,List.size_toArray,List.length_cons,List.length_nil,Nat.reduceAdd,Nat.reduceSub,Array.replicate_succ,Array.replicate_zero,List.push_toArray,List.append_toArray,List.nil_append,List.cons_append]
 gi_wp2
 refine ⟨trivial,?_⟩
 refine (callsIn_wide.2 (Z07 va l.length ca _)).mono ?_
 rintro e w' ⟨rfl,rfl⟩
 gi_wp2
 have hB0:Below w.heap.size w (((w.alloc (.map #[] 0)).alloc (.cells #[.map (some w.heap.size)] 135)).alloc (.cells #[.slice va l.length ca] 34)):=(((Below.refl _ _).alloc (Nat.le_refl _) _).alloc (by simp) _).alloc (by simp;omega) _
 have m0:Z6 St.val Yv (((w.alloc (.map #[] 0)).alloc (.cells #[.map (some w.heap.size)] 135)).alloc (.cells #[.slice va l.length ca] 34)) w.heap.size []:=((Z6.made w).alloc _).alloc _
 have p0:(((w.alloc (.map #[] 0)).alloc (.cells #[.map (some w.heap.size)] 135)).alloc (.cells #[.slice va l.length ca] 34)).cell? ⟨w.heap.size+1,0,none⟩=some (.map (some w.heap.size)):=by go_simp
 have s0:(((w.alloc (.map #[] 0)).alloc (.cells #[.map (some w.heap.size)] 135)).alloc (.cells #[.slice va l.length ca] 34)).cell? ⟨w.heap.size+1+1,0,none⟩=some (.slice va l.length ca):=by go_simp
 have z0:(((w.alloc (.map #[] 0)).alloc (.cells #[.map (some w.heap.size)] 135)).alloc (.cells #[.slice va l.length ca] 34)).heap.size=w.heap.size+3:=by simp
 generalize ((w.alloc (.map #[] 0)).alloc (.cells #[.map (some w.heap.size)] 135)).alloc (.cells #[.slice va l.length ca] 34)=W0 at *
 have hl0:=hl.below hB0
 refine SM (U:=Nat × El) (by omega) (gf:=127) (lb:=#[.pointer (some ⟨w.heap.size+1+1,0,none⟩)]) rfl (enters_of Tryz.func127 (by kernel_rfl) rfl)
  (fun x=>#[.int .i64 x.1,.agg #[.int .i64 x.2.id.n,.int .i64 x.2.id.r,.int .i64 x.2.ch,.bool x.2.gone]]) (fun _=>rfl) (·=w.heap.size) (fun k e=>by omega) (Ze l)
  (fun pre W=>Z6 St.val Yv W w.heap.size (Zy pre)∧Ext (·=w.heap.size) W0 W)
  (fun pre W W' h hx=>⟨h.1.ext hx (fun e=>by have:=h.1.lt;rcases e with e|e <;> omega),h.2.andThen hx (fun i hi e=>by rcases e with e|e <;> omega)⟩)
  (Ru 4 (by omega) (w.heap.size+1+1) _ l (·=w.heap.size) W0 hl0 (by omega) s0 (by omega) (fun hne b o m c e=>?_)) ⟨m0,Ext.refl _ _⟩ ?_ ?_
 ·cases e
  obtain ⟨_,_,e1,_,_,h4⟩:=hl
  cases e1
  obtain ⟨b',o',e2,h5⟩:=h4 hne
  cases e2
  obtain ⟨x,hx⟩:∃ x,l[0]?=some x:=by
   cases l with
   | nil=>exact absurd rfl hne
   | cons x r=>exact ⟨x,rfl⟩
  have:=Zj (h5 0 x hx 0 _ rfl)
  constructor <;> omega
 ·intro lb pre x W ⟨hM,hX⟩ hpx hlt
  gi_wp2
  refine ⟨(Ext.refl _ _).alloc _,⟨hM.alloc _,hX.alloc _⟩,fun W2 ⟨hM2,hX2⟩ hx2=>?_⟩
  have hlW:=hX.size
  have b0:W2.cell? ⟨W.heap.size,0,none⟩=some (.int .i64 x.2.id.n):=hx2.keep (by go_simp) (by omega)
  have b1:W2.cell? ⟨W.heap.size,1,none⟩=some (.int .i64 x.2.id.r):=hx2.keep (by go_simp) (by omega)
  have q0:=hX2.keep p0 (by omega)
  have hupd:∀ W,Z6 St.val Yv W w.heap.size (Zy pre)→(Instr.mapUpdate 135 (.map (some w.heap.size)) (.agg #[.int .i64 x.2.id.n,.int .i64 x.2.id.r]) (.int .i64 x.1)).run Tryz.prog W=.ok () (Zn W w.heap.size (Zp (Zy pre) x.2.id) x.2.id.val (Yv x.1)):=fun W hW=>hW.update ZL XU x.2.id (Yv x.1)
  have HX2:=Lib.hid hX2
  have HP:=Jh (hM2.put x.2.id (x.1:Int))
  clear hx2 hX2
  gi_wp2
  refine ⟨⟨by rw[Qn];exact HP.out,HX2.out.mapPut (.inl rfl) _ _ _⟩,Xs _ _ _ _ _⟩
 ·intro W ⟨hM,hX⟩ hK
  have HM:=Lib.hid hM
  have HX:=Lib.hid hX
  have HK:=Lib.hid hK
  have HB0:=Lib.hid hB0
  have HP0:=Lib.hid p0
  clear hM hX hK m0 p0 s0 hl0 hB0
  gi_wp2
  refine ⟨trivial,?_⟩
  refine (callsIn_wide.2 (QJ vb ms.length cb _)).mono ?_
  rintro e w' ⟨rfl,rfl⟩
  gi_wp2
  have hlW:=HX.out.size
  have hzW:w.heap.size+3<W.heap.size:=by
   have:=(Array.getElem?_eq_some_iff.1 HK.out).1
   omega
  have hBW:Below w.heap.size w W:=Ext.new HB0.out HX.out (fun i hi _ e=>by omega) (by omega)
  have pW:=HX.out.keep HP0.out (by omega)
  have hn0:(((W.alloc (.cells #[.func (.func 95) #[] #[.pointer (some ⟨w.heap.size+1,0,none⟩)]] 172)).alloc (.cells #[.slice none 0 0] 140)).alloc (.cells #[.slice vb ms.length cb] 37)).heap.size=W.heap.size+3:=by simp
  have hBB:Below W.heap.size W (((W.alloc (.cells #[.func (.func 95) #[] #[.pointer (some ⟨w.heap.size+1,0,none⟩)]] 172)).alloc (.cells #[.slice none 0 0] 140)).alloc (.cells #[.slice vb ms.length cb] 37)):=(((Below.refl _ _).alloc (Nat.le_refl _) _).alloc (by simp) _).alloc (by simp;omega) _
  have hm1:Z6 St.val Yv (((W.alloc (.cells #[.func (.func 95) #[] #[.pointer (some ⟨w.heap.size+1,0,none⟩)]] 172)).alloc (.cells #[.slice none 0 0] 140)).alloc (.cells #[.slice vb ms.length cb] 37)) w.heap.size (Zy (Ze l)):=HM.out.below hBB
  have p1:=Z0 hBB pW
  have k1:=(hBB.block _ (Array.getElem?_eq_some_iff.1 HK.out).1).trans HK.out
  have f1:(((W.alloc (.cells #[.func (.func 95) #[] #[.pointer (some ⟨w.heap.size+1,0,none⟩)]] 172)).alloc (.cells #[.slice none 0 0] 140)).alloc (.cells #[.slice vb ms.length cb] 37)).cell? ⟨W.heap.size,0,none⟩=some (.func (.func 95) #[] #[.pointer (some ⟨w.heap.size+1,0,none⟩)]):=by go_simp
  have o1:(((W.alloc (.cells #[.func (.func 95) #[] #[.pointer (some ⟨w.heap.size+1,0,none⟩)]] 172)).alloc (.cells #[.slice none 0 0] 140)).alloc (.cells #[.slice vb ms.length cb] 37)).heap[W.heap.size+1]?=some (.cells #[.slice none 0 0] 140 (0,0)):=by
   rw[Below.heap_alloc _ _ _ (by simp)]
   have:=World.alloc_heap_new (W.alloc (.cells #[.func (.func 95) #[] #[.pointer (some ⟨w.heap.size+1,0,none⟩)]] 172)) (.cells #[.slice none 0 0] 140)
   rwa [World.size_alloc] at this
  have s1:(((W.alloc (.cells #[.func (.func 95) #[] #[.pointer (some ⟨w.heap.size+1,0,none⟩)]] 172)).alloc (.cells #[.slice none 0 0] 140)).alloc (.cells #[.slice vb ms.length cb] 37)).cell? ⟨W.heap.size+2,0,none⟩=some (.slice vb ms.length cb):=by go_simp
  have hB1:Below w.heap.size w (((W.alloc (.cells #[.func (.func 95) #[] #[.pointer (some ⟨w.heap.size+1,0,none⟩)]] 172)).alloc (.cells #[.slice none 0 0] 140)).alloc (.cells #[.slice vb ms.length cb] 37)):=hBW.trans (hBB.mono (by omega))
  have hmm1:=hm.below hB1
  clear HM HX HK HB0 HP0 hBW pW hBB
  generalize ((W.alloc (.cells #[.func (.func 95) #[] #[.pointer (some ⟨w.heap.size+1,0,none⟩)]] 172)).alloc (.cells #[.slice none 0 0] 140)).alloc (.cells #[.slice vb ms.length cb] 37)=W1 at *
  refine SM (U:=Nat × OpD) (by omega) (gf:=128) (lb:=#[.pointer (some ⟨W.heap.size+2,0,none⟩)]) rfl (enters_of Tryz.func128 (by kernel_rfl) rfl)
   (fun x=>#[.int .i64 x.1,.agg (OpD.cells x.2).toArray]) (fun _=>rfl) (fun k=>k=W.heap.size+1∨W1.heap.size+1<k) (fun k e=>by omega) (Ze ms)
   (fun pre A=>∃ v,A.heap[W.heap.size+1]?=some (.cells #[v] 140 (0,0))∧Own Zc.cells 28 183 (W.heap.size+5) A v (Yq (Zy (Ze l)) pre)∧Ext (·=W.heap.size+1) W1 A)
   (fun pre A A' h hx=>?_)
   (Rk 4 (by omega) (W.heap.size+2) _ ms _ W1 hmm1 (by omega) s1 (by omega) (fun hne b o m c e=>?_)) ⟨_,o1,Own.nil,Ext.refl _ _⟩ ?_ ?_
  ·obtain ⟨v,h1,h2,h3⟩:=h
   have hlt:=(Array.getElem?_eq_some_iff.1 h1).1
   exact ⟨v,(hx.block _ hlt (by omega)).trans h1,h2.ext hx (fun b hb e=>by have:=(h2.blk b hb).1;omega),h3.andThen hx (fun i hi e=>by omega)⟩
  ·cases e
   obtain ⟨_,_,e1,_,_,h4⟩:=hm
   cases e1
   obtain ⟨b',o',e2,h5⟩:=h4 hne
   cases e2
   obtain ⟨x,hx⟩:∃ x,ms[0]?=some x:=by
    cases ms with
    | nil=>exact absurd rfl hne
    | cons x r=>exact ⟨x,rfl⟩
   have:=Zj (h5 0 x hx 0 _ rfl)
   constructor <;> omega
  ·rintro lb pre x A ⟨v,ho,hown,hx⟩ hpx hlt
   have hxl:x.2∈ms:=by
    have:=hpx.mem (List.mem_append_right pre (List.mem_singleton.2 rfl))
    exact QQ this
   have hpl:(Yq (Zy (Ze l)) pre).length≤1000:=by
    have h1:=VN (Zy (Ze l)) pre
    have h2:=hpx.length_le
    rw[Xw] at h2
    simp at h2
    omega
   gi_wp2_with (refine Uu (T:=181) rfl rfl rfl rfl (XG Z2R rfl (OpD.len x.2) (OpD.one x.2)) ?_)
   refine ⟨(Ext.refl _ _).alloc _,⟨v,?_,hown.alloc _,hx.alloc _⟩,?_⟩
   ·exact (Below.heap_alloc _ _ _ (Array.getElem?_eq_some_iff.1 ho).1).trans ho
   rintro A2 ⟨v2,ho2,hown2,hxA2⟩ hx2
   have hlA:=hx2.size
   rw[World.size_alloc] at hlA
   have hb:∀ j u,(OpD.cells x.2)[j]?=some u→A2.cell? ⟨A.heap.size,j,none⟩=some u:=fun j u h=>hx2.keep (ZF j u h) (by omega)
   have b20:A2.cell? ⟨A.heap.size,20,none⟩=some (.int .i64 x.2.fr.n):=hb 20 _ rfl
   have b21:A2.cell? ⟨A.heap.size,21,none⟩=some (.int .i64 x.2.fr.r):=hb 21 _ rfl
   have b22:A2.cell? ⟨A.heap.size,22,none⟩=some (.bool x.2.fa):=hb 22 _ rfl
   have b23:A2.cell? ⟨A.heap.size,23,none⟩=some (.int .i64 x.2.tr.n):=hb 23 _ rfl
   have b24:A2.cell? ⟨A.heap.size,24,none⟩=some (.int .i64 x.2.tr.r):=hb 24 _ rfl
   have b25:A2.cell? ⟨A.heap.size,25,none⟩=some (.bool x.2.ta):=hb 25 _ rfl
   have fA:=hxA2.keep f1 (by omega)
   have pA:=hxA2.keep p1 (by omega)
   have mA:=hm1.ext hxA2 (by omega)
   have hbnd:∀ k i,Z5 (Zy (Ze l)) k=some i→0≤i∧i≤1000:=fun k i h=>Qk hln k i h
   have HB:=Lib.hid hb
   have HO2:=Lib.hid ho2
   clear hb ho2 ho hx2 hx hown hB1 hmm1 hmm k1 o1 s1
   gi_wp2
   refine ⟨by first|trivial|(intros;omega),?_⟩
   refine (CallsIn.inRound lb (callsIn_wide.2 (Z22 (w.heap.size+1) w.heap.size (Zy (Ze l)) x.2.fr x.2.fa A2 pA mA hbnd))).mono ?_
   rintro e A3 ⟨rfl,hb3⟩
   have c23:=Z0 hb3 b23
   have c24:=Z0 hb3 b24
   have c25:=Z0 hb3 b25
   have fB:=Z0 hb3 fA
   have pB:=Z0 hb3 pA
   have mB:=mA.below hb3
   have HB3:=Lib.hid hb3
   clear b20 b21 b22 b23 b24 b25 fA pA mA hb3
   gi_wp2
   refine ⟨by first|trivial|(intros;omega),?_⟩
   refine (CallsIn.inRound lb (callsIn_wide.2 (Z22 (w.heap.size+1) w.heap.size (Zy (Ze l)) x.2.tr x.2.ta A3 pB mB hbnd))).mono ?_
   rintro e A4 ⟨rfl,hb4⟩
   have hb5:=HB3.out.trans (hb4.mono HB3.out.size)
   clear c23 c24 c25 fB pB mB hb4 hbnd HB3
   have hb6:∀ j u,(OpD.cells x.2)[j]?=some u→A4.cell? ⟨A.heap.size,0+j,none⟩=some u:=fun j u h=>by rw[Nat.zero_add];exact Z0 hb5 (HB.out j u h)
   have HLD:=Jh (V7 (P:=Tryz.prog) Z2R (OpD.len x.2) hb6)
   have ho4:=(hb5.block _ (Array.getElem?_eq_some_iff.1 HO2.out).1).trans HO2.out
   have hc4:A4.cell? ⟨W.heap.size+1,0,none⟩=some v2:=by simp[World.cell?,ho4]
   have hown4:=hown2.ext (Ext.of_below (S:=fun _=>False) hb5) (fun _ _ f=>f)
   have hx4:=hxA2.then_below hb5
   have hx24:Ext (fun _=>False) A2 A4:=Ext.of_below hb5
   have HO4:=Lib.hid ho4
   have HX4:=Lib.hid hx4
   have HX24:=Lib.hid hx24
   have hs4:=hx4.size
   have hs24:=hx24.size
   clear ho4 hx4 hx24 hb5 hb6 HO2 hown2 hxA2 HB
   have hsn:Yq (Zy (Ze l)) (pre++[x])=Yq (Zy (Ze l)) pre++(Yg (Zy (Ze l)) x.2).toList:=SW _ _ _
   cases hp:(Z5 (Zy (Ze l)) x.2.fr).isSome with
   | false =>
    have HSN:=Lib.hid hsn
    clear hsn
    gi_wp2
    refine ⟨⟨v2,HO4.out,?_,HX4.out⟩,HX24.out.mono (fun _ _ f=>f.elim)⟩
    rw[HSN.out]
    simpa [Yg,hp] using hown4
   | true =>
    cases hq:(Z5 (Zy (Ze l)) x.2.tr).isSome with
    | false =>
     have HSN:=Lib.hid hsn
     clear hsn
     gi_wp2
     refine ⟨⟨v2,HO4.out,?_,HX4.out⟩,HX24.out.mono (fun _ _ f=>f.elim)⟩
     rw[HSN.out]
     simpa [Yg,hp,hq] using hown4
    | true =>
     have hmk:Yg (Zy (Ze l)) x.2=some ⟨x.2,atI (Zy (Ze l)) x.2.fr x.2.fa,atI (Zy (Ze l)) x.2.tr x.2.ta⟩:=by simp[Yg,hp,hq]
     rw[hmk] at hsn
     have HSN:=Lib.hid hsn
     clear hsn hmk
     generalize atI (Zy (Ze l)) x.2.fr x.2.fa=p0 at *
     generalize atI (Zy (Ze l)) x.2.tr x.2.ta=q0 at *
     obtain ⟨i0,hi,hz0,hz1',hz2⟩:=info_parts Z1X
     gi_wp2_with (first
      | ((with_reducible_and_instances refine V8 (o:=⟨some 49,_,_,_,_,_⟩) (x:=.tmp 11) ?_ ?_ ?_ HLD.out ?_);rfl;rfl;rfl)
      | ((with_reducible_and_instances refine Us (o:=⟨some 52,_,_,_,_,_⟩) (x0:=.tmp 49) (x1:=.tmp 50) (x2:=.tmp 51) ?_ ?_ ?_ ?_ ?_ (Sd x.2 p0 q0 A4) ?_);rfl;rfl;rfl;rfl;rfl)
      | ((with_reducible_and_instances refine Ur (o:=⟨some 53,_,_,_,_,_⟩) (x0:=.tmp 52) ?_ ?_ ?_ (S8 ⟨x.2,p0,q0⟩ A4) ?_);rfl;rfl;rfl)
      | (gi_at_builtin;refine W9 rfl _ _ _ rfl i0 (.agg (Zc.cells ⟨⟨⟨0,0⟩,0,0,0,0,0,0,0,0,0,⟨0,0⟩,0,0,⟨0,0⟩,⟨#[]⟩,⟨#[]⟩,⟨#[]⟩,⟨0,0⟩,false,⟨0,0⟩,false⟩,0,0⟩).toArray) 248 Tryz.underlying140 hi hz0 hz1' hz2 rfl (by omega) Zc.len Zc.one rfl (hown4.alloc _) ⟨x.2,p0,q0⟩ A4.heap.size 1 rfl (fun j u h=>ZF j u h) (by unfold maxLen;omega) (by omega) (by simp;omega) ?_))
     intro v' A5 hown5 hx5
     obtain ⟨g5,c5,n5,rfl⟩:∃ g5 c5 n5,v'=.slice (some ⟨g5,0,none⟩) n5 c5:=by
      rcases hown5.eq_slice with ⟨_,e⟩|⟨g5,c5,e,_,_⟩
      ·simp at e
      ·exact ⟨g5,c5,_,e⟩
     have hne:∀ b,v2.ownBlock=some b→W.heap.size+5≤b:=fun b hb=>(hown4.blk b hb).1
     have hlt4:=(Array.getElem?_eq_some_iff.1 HO4.out).1
     have ho5:A5.heap[W.heap.size+1]?=some (.cells #[v2] 140 (0,0)):=(hx5.block _ (by simp;omega) (fun e=>by have:=hne _ e;omega)).trans ((Below.heap_alloc _ _ _ hlt4).trans HO4.out)
     have hf5:A5.frozen? ⟨W.heap.size+1,0,none⟩=false:=by simp[World.frozen?,ho5]
     have hc5:A5.cell? ⟨W.heap.size+1,0,none⟩=some v2:=by simp[World.cell?,ho5]
     have hx6:Ext (·=W.heap.size+1) A5 (A5.setCell ⟨W.heap.size+1,0,none⟩ (.slice (some ⟨g5,0,none⟩) n5 c5)):=(Ext.refl (·=W.heap.size+1) A5).setCell (p:=⟨W.heap.size+1,0,none⟩) (.inr rfl) (.slice (some ⟨g5,0,none⟩) n5 c5)
     have r1:(A5.setCell ⟨W.heap.size+1,0,none⟩ (.slice (some ⟨g5,0,none⟩) n5 c5)).heap[W.heap.size+1]?=some (.cells #[.slice (some ⟨g5,0,none⟩) n5 c5] 140 (0,0)):=heap_setCell_same A5 _ 0 #[v2] _ (.slice (some ⟨g5,0,none⟩) n5 c5) ho5
     have r2:=hown5.ext hx6 (fun b hb e=>by have:=(hown5.blk b hb).1;omega)
     have r3:Ext (·=W.heap.size+1) W1 (A5.setCell ⟨W.heap.size+1,0,none⟩ (.slice (some ⟨g5,0,none⟩) n5 c5)):=((HX4.out.alloc _).andThen hx5 (fun i hi e=>by have:=hne _ e;omega)).andThen hx6 (fun i hi e=>e)
     have r4:Ext (fun k=>k=W.heap.size+1∨W1.heap.size+1<k) A2 (A5.setCell ⟨W.heap.size+1,0,none⟩ (.slice (some ⟨g5,0,none⟩) n5 c5)):=((((HX24.out.alloc _).mono (fun _ _ f=>f.elim)).andThen (S:=fun k=>k=W.heap.size+1∨W1.heap.size+1<k) hx5 (fun i hi e=>by have:=hne _ e;omega))).andThen hx6 (fun i hi e=>.inl e)
     have R1:=Lib.hid r1
     have R2:=Lib.hid r2
     have R3:=Lib.hid r3
     have R4:=Lib.hid r4
     clear r1 r2 r3 r4 hx6 hx5 hown5 hown4 ho5 HO4 HX4 HX24 HLD
     gi_wp2
     exact ⟨⟨_,R1.out,by rw[HSN.out];exact R2.out,R3.out⟩,R4.out⟩
  ·rintro A ⟨v,ho,hown,hx⟩ hK
   have hc:A.cell? ⟨W.heap.size+1,0,none⟩=some v:=by simp[World.cell?,ho]
   have hrl:(Yq (Zy (Ze l)) (Ze ms)).length≤1000000:=by
    have h1:=VN (Zy (Ze l)) (Ze ms)
    rw[Xw] at h1
    omega
   have hkA:=(hx.block _ (Array.getElem?_eq_some_iff.1 k1).1 (by omega)).trans k1
   have hne:∀ b,v.ownBlock=some b→W.heap.size+5≤b:=fun b hb=>(hown.blk b hb).1
   have HO:=Lib.hid ho
   have HB1:=Jh (Ext.new hB1 hx (fun i hi _ e=>by omega) (by omega))
   have hxs:=hx.size
   clear ho hB1 hx hmm1 hm1 p1 f1 o1 s1 k1 hm hl hmm
   gi_wp2
   refine ⟨trivial,?_⟩
   refine (callsIn_wide.2 (Se hown hrl)).mono ?_
   rintro e A6 ⟨⟨u,rfl⟩,hq,hx6⟩
   have hk6:=(hx6.block _ (Array.getElem?_eq_some_iff.1 hkA).1 (fun e=>by have:=hne _ e;omega)).trans hkA
   have hK6:=(hx6.block _ (Array.getElem?_eq_some_iff.1 hK).1 (fun e=>by have:=hne _ e;omega)).trans hK
   have ho6:=(hx6.block _ (Array.getElem?_eq_some_iff.1 HO.out).1 (fun e=>by have:=hne _ e;omega)).trans HO.out
   have hc6:A6.cell? ⟨W.heap.size+1,0,none⟩=some v:=by simp[World.cell?,ho6]
   have HB6:=Jh (Ext.new HB1.out hx6 (fun i hi _ e=>by have:=hne _ e;omega) (by omega))
   clear hx6 hown hkA hK hc HO ho6
   gi_wp2
   rw[hn0] at hK6
   rw[z0] at hk6
   have hx7:Ext (·=(W.heap.size+3)) A6 (A6.putObj (W.heap.size+3) (.deferred none)):=Yd _ _ _
   have hk7:=(hx7.block _ (Array.getElem?_eq_some_iff.1 hk6).1 (by omega)).trans hk6
   have hx8:Ext (·=(w.heap.size+3)) (A6.putObj (W.heap.size+3) (.deferred none)) ((A6.putObj (W.heap.size+3) (.deferred none)).putObj (w.heap.size+3) (.deferred none)):=Yd _ _ _
   have hs6:=HB6.out.size
   have hs7:=hx7.size
   obtain ⟨F,hF1,hF2⟩:=hq.out
   refine ⟨by simp,.inl ⟨_,_,rfl,run_takeDeferred hK6,?_⟩⟩
   refine ⟨by simp,.inl ⟨_,_,rfl,run_takeDeferred hk7,?_⟩⟩
   refine ⟨_,results_tmp rfl _ _ _,v,F,rfl,?_,hF1,?_⟩
   ·exact ((hF2.ext hx7 (fun b hb e=>by have:=(hF2.blk b hb).1;omega)).ext hx8 (fun b hb e=>by have:=(hF2.blk b hb).1;omega)).mono (by omega)
   ·exact Ext.new (Ext.new HB6.out hx7 (fun i hi _ e=>by omega) (by omega)) hx8 (fun i hi _ e=>by omega) (by omega)
theorem Z0B:Tryz.prog.underlying 9=some .string:=by kernel_rfl
theorem Xc (a b:ByteArray):(a == b)=decide (a=b):=by
 rw[show (a == b)=(a.data == b.data) from by cases a;cases b;rfl]
 by_cases h:a=b
 ·subst h;simp
 ·have:¬ a.data=b.data:=fun e=>h (by cases a;cases b;cases e;rfl)
  simp[h,this]
theorem T6 {V:Type} (k:ByteArray):∀ (es:List MapEntry) (l:List (ByteArray × V)) (i:Nat),es.map (·.key)=l.map (fun p=>.string p.1) →
  Instr.findNow .string (.string k) es i=some ((Zp l k).map fun j=>(i+j,((es[j]?).map (·.val)).getD undef))
 | [],[],i,_=>by simp[Instr.findNow,Zp]
 | [],_ :: _,_,h=>by simp at h
 | _ :: _,[],_,h=>by simp at h
 | e :: es,p :: l,i,h=>by
  obtain ⟨k',v⟩:=p
  simp only[List.map_cons,List.cons.injEq] at h
  obtain ⟨h1,h2⟩:=h
  have ih:=T6 k es l (i+1) h2
  simp only[Instr.findNow,h1,Instr.sameNow]
  by_cases hk:k'=k
  ·subst hk
   simp[Zp,Xc]
  ·have hk':¬ k=k':=fun e=>hk e.symm
   have:(k == k')=false:=by rw[Xc];simp[hk']
   simp only[this,ih,Zp,hk,if_false]
   cases Zp l k with
   | none=>rfl
   | some j=>simp[Nat.add_assoc,Nat.add_comm 1 j]
theorem Z0x {V:Type}:WB (V:=V) Tryz.prog 9 Value.string where
 check em k w:=by kernel_rfl
 find k es l w h:=by
  simp only[Instr.findKey,Sem.run_bind,run_underlying Z0B,Result.andThen_ok,T6 k es l 0 h,Sem.run_pure]
  cases Zp l k <;> simp
 stays k w:=by simp[Instr.keyThatStays,Instr.sameBits,beq_toListBytes]
end Go.Proofs.YtlgipkemoldckaaGreatDoor
namespace Go.Proofs.YtlgipkemoldckaaGreatDoor
open Go.RowKit Go.Sort Go.Shelf
attribute [local go_sem] Z6.alloc Z6.drew Z6.setCell
instance:Inhabited Atr:=⟨⟨⟨#[]⟩,⟨#[]⟩⟩⟩
def Atr.val (x:Atr):Value:=.agg #[.string x.name,.string x.value]
theorem Z29 (x y:Atr) (w:World) :
  Calls Tryz.prog 99 #[.agg x.cells.toArray,.agg y.cells.toArray] w fun e w'=>e=.returned (.int .i64 (YK x.name y.name))∧∃ q os',w'=grow (w.drewN q) os':=by
 unfold Atr.cells
 go_enter Tryz.func99,Tryz.ntmps99
 go_wp2_with (go_at_call 62;refine (U8 _ _ _).mono ?_;rintro e w' ⟨rfl,rfl⟩)
 go_ret
 exact ⟨rfl,0,_,by rw[alloc_eq_grow,alloc_eq_grow,grow_grow];rfl⟩
theorem RJ {base:Nat} {w:World} {v:Value} {l:List Atr} (h:Own Atr.cells 2 73 base w v l) (hl:l.length<4611686018427387904) :
  Calls Tryz.prog 60 #[v,.func (.func 99) #[] #[]] w fun e w'=>e=.returned (.tuple #[])∧∃ l',l'.Perm l∧l'.Pairwise (fun a b=>ltOf (fun x y:Atr=>YK x.name y.name) b a=false)∧Own Atr.cells 2 73 base w' v l'∧Ext (fun b=>v.ownBlock=some b) w w':=by
 have eg:∀ args w,(callFunc 99 args).run Tryz.prog w=.ok (.enter 99 args) w:=enters_of Tryz.func99 (by kernel_rfl) rfl
 refine Tq (fun _=>rfl) (by omega) (fun blk cap d w hH hb hs=>?_) (fun p cap w=>?_) h hl
 ·exact AnyQ.slices_SortFunc Tryz.sortAttr 2 Tryz.isAgg73 Tryz.sizeOf73 Atr.cells (fun _=>rfl) (fun x v hv=>by simp[Atr.cells] at hv;rcases hv with rfl|rfl <;> rfl) (fun x y=>YK x.name y.name) RV 99 #[] blk 0 cap d w eg (fun _ _ _ _ x y=>Z29 x y _) hH hb hs
 ·exact AnyF.slices_SortFunc_none Tryz.sortAttr p cap _ w
def Yp (F:List Zc) (i:Int):List (ByteArray × Atr):=F.foldl (fun h x=>if x.lo≤i∧i<x.hi then Zx h x.op.name ⟨x.op.name,x.op.value⟩ else h) []
theorem Z1s (F:List Zc) (x:Zc) (i:Int):Yp (F++[x]) i=if x.lo≤i∧i<x.hi then Zx (Yp F i) x.op.name ⟨x.op.name,x.op.value⟩ else Yp F i:=by simp[Yp]
def Yf (vs:List (ByteArray × Atr)):List Atr:=(vs.map (·.2)).filter fun a=>decide (a.value≠⟨#[]⟩)
theorem Uo (a b:List (ByteArray × Atr)):Yf (a++b)=Yf a++Yf b:=by simp[Yf]
theorem Q0 {a b:List (ByteArray × Atr)} (h:a.Perm b):(Yf a).Perm (Yf b):=(h.map _).filter _
theorem SI (a:List (ByteArray × Atr)):(Yf a).length≤a.length:=by
 have:=List.length_filter_le (fun a:Atr=>decide (a.value≠⟨#[]⟩)) (a.map (·.2))
 rwa [List.length_map] at this
theorem Tc (i:Int):∀ (F:List Zc) (h:List (ByteArray × Atr)),(F.foldl (fun h x=>if x.lo≤i∧i<x.hi then Zx h x.op.name (⟨x.op.name,x.op.value⟩:Atr) else h) h).length≤h.length+F.length
 | [],h=>by simp
 | x :: F,h=>by
  rw[List.foldl_cons,List.length_cons]
  refine Nat.le_trans (Tc i F _) ?_
  split
  ·have:=TY h x.op.name (⟨x.op.name,x.op.value⟩:Atr)
   omega
  ·omega
theorem Z2Z (F:List Zc) (i:Int):(Yp F i).length≤F.length:=by
 have:=Tc i F []
 simpa [Yp] using this
theorem RK:Tryz.prog.underlying 186=some (.map 9 73):=by kernel_rfl
theorem UX:XM Tryz.prog 183 28:=⟨fun w=>by kernel_rfl,fun w=>by kernel_rfl⟩
def Z3v (w:World) (B it mv:Nat) (vs:List (ByteArray × Atr)) (k:Nat) (v:Value) (wr:World):Prop :=
 ∃ left dn cur,(dn++left).Perm vs∧k=left.length∧ZK Value.string Atr.val wr it mv vs left cur∧Own Atr.cells 2 73 B wr v (Yf dn)∧Below w.heap.size w wr∧B≤wr.heap.size
theorem Z3n (v:Value) (F:List Zc) (i:Int) (w:World) (hF:Z4 Zc.cells 28 w v F) (hn:F.length≤1000) :
  Calls Tryz.prog 69 #[v,.int .i64 i] w
   fun e w'=>∃ u l',e=.returned u∧Own Atr.cells 2 73 w.heap.size w' u l'∧l'.Perm (Yf (Yp F i))∧l'.Pairwise (fun a b=>ltOf (fun x y:Atr=>YK x.name y.name) b a=false)∧Below w.heap.size w w':=by
 obtain ⟨va,vc,rfl,hcap,hmax,hcs⟩:=id hF
 unfold maxLen at hmax
 have hmm:=@run_makeMap Tryz.prog
 have HC:=Lib.hid hcs
 clear hcs
 have m0:Z6 Value.string Atr.val (w.alloc (.map #[] 0)) w.heap.size []:=Z6.made w
 have B0:Below w.heap.size w (w.alloc (.map #[] 0)):=(Below.refl _ _).alloc (Nat.le_refl _) _
 have z0:w.heap.size<(w.alloc (.map #[] 0)).heap.size:=by simp
 go_enter Tryz.func69,Tryz.ntmps69
 go_wp2_with fail
 go_loopg [14] F.length (fun g iv wr=>∃ k:Nat,g=F.length - k∧k≤F.length∧iv=.int .i64 k∧Z6 Value.string Atr.val wr w.heap.size (Yp (F.take k) i)∧Below w.heap.size w wr)
 case atStart=>exact ⟨0,by omega,by omega,rfl,by simpa [Yp] using m0,B0⟩
 case round =>
  clear m0 B0 z0
  obtain ⟨k,hg,hk,rfl,hM,hB⟩:=hrel
  have hMl:=hM.lt
  by_cases hkl:k<F.length
  ·obtain ⟨x,hx⟩:∃ x,F[k]?=some x:=⟨_,List.getElem?_eq_getElem hkl⟩
   have hne:F≠[]:=by intro e;rw[e] at hx;simp at hx
   obtain ⟨b,o,rfl,hcc⟩:=HC.out hne
   have hb0:∀ j u,(Zc.cells x)[j]?=some u→wr.cell? ⟨b,o+k*28+j,none⟩=some u:=fun j u h=>by
    have h1:=hcc k x hx j u h
    exact (World.cell?_of_block (w:=w) (hB.block b (Zj h1))).trans h1
   have HLD:=Jh (V7 (P:=Tryz.prog) UX (Zc.len x) hb0)
   have hkk:(k:Int)<(F.length:Int):=by omega
   have q18:(wr.alloc (.cells (Zc.cells x).toArray 183)).cell? ⟨wr.heap.size,18,none⟩=some (.string x.op.name):=ZF 18 _ rfl
   have q19:(wr.alloc (.cells (Zc.cells x).toArray 183)).cell? ⟨wr.heap.size,19,none⟩=some (.string x.op.value):=ZF 19 _ rfl
   have q26:(wr.alloc (.cells (Zc.cells x).toArray 183)).cell? ⟨wr.heap.size,26,none⟩=some (.int .i64 x.lo):=ZF 26 _ rfl
   have q27:(wr.alloc (.cells (Zc.cells x).toArray 183)).cell? ⟨wr.heap.size,27,none⟩=some (.int .i64 x.hi):=ZF 27 _ rfl
   have hupd:∀ W,Z6 Value.string Atr.val W w.heap.size (Yp (F.take k) i)→(Instr.mapUpdate 186 (.map (some w.heap.size)) (.string x.op.name) (.agg #[.string x.op.name,.string x.op.value])).run Tryz.prog W=.ok () (Zn W w.heap.size (Zp (Yp (F.take k) i) x.op.name) (.string x.op.name) (.agg #[.string x.op.name,.string x.op.value])):=fun W hW=>hW.update Z0x RK x.op.name _
   have hsn:Yp (F.take (k+1)) i=if x.lo≤i∧i<x.hi then Zx (Yp (F.take k) i) x.op.name ⟨x.op.name,x.op.value⟩ else Yp (F.take k) i:=by
    rw[List.take_add_one,hx,Option.toList_some,Z1s]
   have HSN:=Lib.hid hsn
   have HP:=Jh ((hM.alloc (.cells (Zc.cells x).toArray 183)).put x.op.name ⟨x.op.name,x.op.value⟩)
   have HB:=Jh (hB.alloc hB.size (.cells (Zc.cells x).toArray 183))
   have HG:=Lib.hid hg
   clear hcc hb0 hsn hB hg
   by_cases h1:x.lo≤i
   ·by_cases h2:i<x.hi
    ·go_wp2_with (first
      | refine XE (o:=⟨some 17,_,_,_,_,_⟩) rfl rfl rfl HLD.out ?_
      | refine Wj (T:=183) rfl rfl rfl rfl (XG UX rfl (Zc.len x) (Zc.one x)) ?_)
     go_roundg (F.length - (k+1))
     case measure=>rw[HG.out];omega
     case rel=>exact ⟨k+1,rfl,by omega,by simp,by rw[HSN.out,if_pos ⟨h1,h2⟩];exact HP.out,Ext.new HB.out (Xs _ _ _ _ _) (fun j hj _ e=>by omega) (by simp;omega)⟩
    ·go_wp2_with (first
      | refine XE (o:=⟨some 17,_,_,_,_,_⟩) rfl rfl rfl HLD.out ?_
      | refine Wj (T:=183) rfl rfl rfl rfl (XG UX rfl (Zc.len x) (Zc.one x)) ?_)
     go_roundg (F.length - (k+1))
     case measure=>rw[HG.out];omega
     case rel=>exact ⟨k+1,rfl,by omega,by simp,by rw[HSN.out,if_neg (fun h=>by obtain ⟨_,_⟩:=h;omega)];exact hM.alloc _,HB.out⟩
   ·go_wp2_with (first
      | refine XE (o:=⟨some 17,_,_,_,_,_⟩) rfl rfl rfl HLD.out ?_
      | refine Wj (T:=183) rfl rfl rfl rfl (XG UX rfl (Zc.len x) (Zc.one x)) ?_)
    go_roundg (F.length - (k+1))
    case measure=>rw[HG.out];omega
    case rel=>exact ⟨k+1,rfl,by omega,by simp,by rw[HSN.out,if_neg (fun h=>by obtain ⟨_,_⟩:=h;omega)];exact hM.alloc _,HB.out⟩
  ·obtain rfl:k=F.length:=by omega
   rw[List.take_length] at hM
   obtain ⟨w1,hrange,hit,hb1,hz1⟩:=hM.range (P:=Tryz.prog) RK
   have HB:=Jh (hB.trans (hb1.mono (hB.size)))
   obtain ⟨it,hit0⟩:=Je (wr.heap.size)
   rw[hit0] at hit hrange hz1 hMl
   have HZ:=Lib.hid hz1
   clear hM hB hb1 hz1
   have hml:=Z2Z F i
   obtain ⟨vs,hvs⟩:=Je (Yp F i)
   rw[hvs] at hit hml
   have HVS:=Lib.hid hvs
   clear hvs
   obtain ⟨i0,hi,hz0,hz1',hz2⟩:=info_parts Wq
   clear hF HC hcap hmax hmm
   go_wp2_with fail
   go_loopg [8] vs.length (fun g v wx=>Z3v w (it+1) it w.heap.size vs g v wx)
   case atStart=>exact ⟨vs,[],none,List.Perm.refl _,rfl,hit,Own.nil,HB.out,by rw[HZ.out];exact Nat.le_refl _⟩
   case round =>
    clear hit hrange
    obtain ⟨left,dn,cur,hperm,hk2,hiter,hown,hB,hBs⟩:=hrel
    rcases hiter.next (P:=Tryz.prog) (by omega) with ⟨hnil,hnx⟩|⟨t,p,w2,hip,hnx,hiter2,hx2,hs2⟩
    ·have HN:=Lib.hid hnil
     clear hk2 hnil
     go_wp2_with fail
     refine (RJ hown (by have:=SI dn;have:=hperm.length_eq;simp at this;omega)).mono ?_
     rintro e w3 ⟨rfl,l',hl1,hl2,hl3,hx3⟩
     have hb3:Below w.heap.size w w3:=Ext.new hB hx3 (fun j hj _ e=>by have:=(hown.blk j e).1;omega) (by omega)
     have hp3:l'.Perm (Yf vs):=by
      rw[HN.out,List.append_nil] at hperm
      exact hl1.trans (Q0 hperm)
     have hl4:=hl3.mono (b':=w.heap.size) (by omega)
     have HL2:=Lib.hid hl2
     have HP3:=Lib.hid hp3
     have HB3:=Lib.hid hb3
     have HL4:=Lib.hid hl4
     clear hp3 hb3 hl1 hl2 hl3 hl4 hx3 hown hperm hnx hiter
     go_wp2_with fail
     go_ret
     exact ⟨_,l',rfl,HL4.out,by rw[HVS.out];exact HP3.out,HL2.out,HB3.out⟩
    ·obtain ⟨pn,⟨xn,xval⟩⟩:=p
     simp only[Atr.val] at hnx
     have hen:∀ W,ZK Value.string Atr.val W it w.heap.size vs (left.eraseIdx t) (some (pn,⟨xn,xval⟩))→(Instr.entry (.pointer (some ⟨it,0,none⟩))).run Tryz.prog W=.ok (.tuple #[.string pn,.agg #[.string xn,.string xval]]) W:=fun W hW=>hW.entry
     have HK:=Lib.hid hk2
     have HS:=Lib.hid hs2
     have HI:=Lib.hid hip
     clear hk2 hs2 hip
     have hown2:=hown.ext hx2 (fun b hb e=>by have:=(hown.blk b hb).1;omega)
     have hB2:Below w.heap.size w w2:=Ext.new hB hx2 (fun j hj _ e=>by omega) (by omega)
     have hs2:it+1≤w2.heap.size:=by rw[HS.out];exact hBs
     have hlen:=SI dn
     have hlen2:=hperm.length_eq
     rw[List.length_append] at hlen2
     have hlen3:(Yf dn).length≤1099511627776:=by omega
     have hper2:((dn++[((pn,⟨xn,xval⟩):ByteArray × Atr)])++left.eraseIdx t).Perm vs:=by
      rw[List.append_assoc]
      exact (List.Perm.append_left dn (WA HI.out).symm).trans hperm
     have hk3:(left.eraseIdx t).length<left.length:=by
      rw[List.length_eraseIdx]
      have:=(List.getElem?_eq_some_iff.1 HI.out).1
      rw[if_pos this];omega
     rw[←HK.out] at hk3
     have HK3:=Lib.hid hk3
     have HP:=Lib.hid hper2
     clear hlen hlen2 hperm hper2 hown hB hiter hx2 hBs hk3
     by_cases hv:xval=⟨#[]⟩
     ·have ha:Yf (dn++[((pn,⟨xn,xval⟩):ByteArray × Atr)])=Yf dn:=by rw[Uo];simp[Yf,hv]
      have HA:=Lib.hid ha
      clear ha
      subst hv
      go_wp2_with fail
      go_roundg (left.eraseIdx t).length
      case measure=>exact HK3.out
      case rel=>exact ⟨left.eraseIdx t,_,_,HP.out,rfl,hiter2.alloc _,by rw[HA.out];exact hown2.alloc _,hB2.alloc (by omega) _,by simp;omega⟩
     ·have ha:Yf (dn++[((pn,⟨xn,xval⟩):ByteArray × Atr)])=Yf dn++[⟨xn,xval⟩]:=by rw[Uo];simp[Yf,hv]
      have HA:=Lib.hid ha
      have hv1:(xval.toList == [])=false:=by
       cases h:(xval.toList == []) with
       | false=>rfl
       | true=>exact absurd ((ZS xval ⟨#[]⟩).1 (by simpa using eq_of_beq h)) hv
      have hv2:(xval == ⟨#[]⟩)=false:=by rw[Xc];simp[hv]
      clear ha
      go_wp2_with (at_builtin;refine Zo rfl _ _ _ rfl i0 (.agg #[.string ⟨#[]⟩,.string ⟨#[]⟩]) 32 Tryz.underlying24 hi hz0 hz1' hz2 rfl (by omega) (fun _=>rfl) (fun x u hu=>by simp[Atr.cells] at hu;rcases hu with rfl|rfl <;> rfl) rfl ((hown2.alloc _).alloc _) ⟨xn,xval⟩ (w2.heap.size+1) 1 rfl ?_ (by unfold maxLen;omega) (by omega) (by simp;omega) ?_)
      ·intro j u hj
       have hju:(j=0∧u=.string xn)∨(j=1∧u=.string xval):=by
        match j,hj with
        | 0,hj=>simp[Atr.cells] at hj;exact .inl ⟨rfl,hj.symm⟩
        | 1,hj=>simp[Atr.cells] at hj;exact .inr ⟨rfl,hj.symm⟩
        | n+2,hj=>simp[Atr.cells] at hj
       rcases hju with ⟨rfl,rfl⟩|⟨rfl,rfl⟩ <;> go_simp
      ·intro v' w3 hown3 hx3
       go_wp2_with fail
       go_roundg (left.eraseIdx t).length
       case measure=>exact HK3.out
       case rel =>
        have hne:∀ b,u8.ownBlock=some b→it+1≤b:=fun b hb=>(hown2.blk b hb).1
        refine ⟨left.eraseIdx t,_,_,HP.out,rfl,((hiter2.alloc _).alloc _).ext hx3 (fun e=>by have:=hne _ e;omega) (fun e=>by have:=hne _ e;omega),by rw[HA.out];exact hown3,?_,?_⟩
        ·exact Ext.new ((hB2.alloc (by omega) _).alloc (by simp;omega) _) hx3 (fun b hb _ e=>by have:=hne _ e;omega) (by simp;omega)
        ·have:=hx3.size;simp at this;omega
structure Sl where
 a:Option Addr
 n:Nat
 cap:Nat
def Sl.val (s:Sl):Value:=.slice s.a s.n s.cap
theorem Own.sl {α:Type} {ea:α→List Value} {k:Nat} {e:TypeId} {base:Nat} {w:World} {v:Value} {l:List α} (h:Own ea k e base w v l):∃ s:Sl,v=.slice s.a s.n s.cap:=by
 rcases h.eq_slice with ⟨rfl,_⟩|⟨g,c,rfl,_,_⟩
 ·exact ⟨⟨none,0,0⟩,rfl⟩
 ·exact ⟨⟨_,_,_⟩,rfl⟩
theorem Own.apart {α β:Type} {ea:α→List Value} {eb:β→List Value} {k k':Nat} {e e':TypeId} {base base':Nat} {w:World} {v u:Value} {l:List α} {l':List β} (h:Own ea k e base w v l) (h':Own eb k' e' base' w u l') (hne:e≠e'):∀ b,v.ownBlock=some b→¬ u.ownBlock=some b:=by
 intro b hb hb'
 obtain ⟨c1,h1⟩:=h.tag hb
 obtain ⟨c2,h2⟩:=h'.tag hb'
 rw[h1] at h2
 simp only[Option.some.injEq,Obj.cells.injEq] at h2
 exact hne h2.2.1
def Z35 (F:List Zc) (i:Int) (al:List Atr):Prop:=al.Perm (Yf (Yp F i))∧al.Pairwise (fun a b=>ltOf (fun x y:Atr=>YK x.name y.name) b a=false)
def Cov (l:List El) (o:OpD) (i:Int):Prop:=∃ p q,ZM l o.fr=some p∧ZM l o.tr=some q∧(p:Int)+(if o.fa=true then 1 else 0)≤i∧i<(q:Int)+(if o.ta=true then 1 else 0)
def Win (l:List El) (ms:List OpD) (i:Int) (n:ByteArray) (k:Nat) (o:OpD):Prop :=
 ms[k]?=some o∧Cov l o i∧o.name=n∧∀ j o',ms[j]?=some o'→Cov l o' i→o'.name=n→ZI o'.id o.id∨(o'.id=o.id∧k≤j)
theorem Win.unique {l:List El} {ms:List OpD} {i:Int} {n:ByteArray} {k k':Nat} {o o':OpD} (h:Win l ms i n k o) (h':Win l ms i n k' o'):k=k'∧o=o':=by
 obtain ⟨a1,a2,a3,a4⟩:=h
 obtain ⟨b1,b2,b3,b4⟩:=h'
 have hk:k=k':=by
  rcases a4 k' o' b1 b2 b3 with c|⟨c1,c2⟩ <;> rcases b4 k o a1 a2 a3 with d|⟨d1,d2⟩
  ·exact absurd (ZC c d) (Zl _)
  ·rw[d1] at c;exact absurd c (Zl _)
  ·rw[c1] at d;exact absurd d (Zl _)
  ·omega
 subst hk
 rw[a1] at b1
 exact ⟨rfl,Option.some.inj b1⟩
theorem UO {h:List (St × Int)} {o:OpD} {m:Zc} (hm:Yg h o=some m):m.op=o:=by
 unfold Yg at hm
 split at hm
 ·cases hm;rfl
 ·cases hm
theorem Z08 {l:List El} {o:OpD} {m:Zc} (hm:Yg (Zy (Ze l)) o=some m) (i:Int):(m.lo≤i∧i<m.hi)↔Cov l o i:=by
 unfold Yg at hm
 split at hm
 ·rename_i hc
  cases hm
  simp only[VA,Option.isSome_map,Bool.and_eq_true] at hc
  obtain ⟨p,hp⟩:=Option.isSome_iff_exists.1 hc.1
  obtain ⟨q,hq⟩:=Option.isSome_iff_exists.1 hc.2
  simp only[atI,VA,hp,hq,Option.map_some,Option.getD_some]
  constructor
  ·intro h
   exact ⟨p,q,hp,hq,h.1,h.2⟩
  ·rintro ⟨p',q',hp',hq',h1,h2⟩
   rw[hp] at hp'
   rw[hq] at hq'
   cases hp'
   cases hq'
   exact ⟨h1,h2⟩
 ·cases hm
theorem TT {l:List El} {o:OpD} {i:Int} (h:Cov l o i):∃ m,Yg (Zy (Ze l)) o=some m:=by
 obtain ⟨p,q,hp,hq,_⟩:=h
 exact ⟨_,if_pos (by simp[VA,hp,hq])⟩
def S9 (h:List (St × Int)) (pre:List (Nat × OpD)):List (Zc × Nat):=pre.filterMap fun p=>(Yg h p.2).map fun m=>(m,p.1)
theorem Z2k (h:List (St × Int)) (pre:List (Nat × OpD)):(S9 h pre).map (·.1)=Yq h pre:=by
 unfold S9 Yq
 rw[List.map_filterMap]
 congr 1
 funext p
 cases Yg h p.2 <;> rfl
theorem Td {α:Type} {l:List α} {k:Nat} {x:α}:(k,x)∈Ze l↔l[k]?=some x:=by
 unfold Ze
 rw[List.mem_reverse,List.mem_map]
 constructor
 ·rintro ⟨⟨y,j⟩,h,e⟩
  cases e
  exact List.mem_zipIdx_iff_getElem?.1 h
 ·intro h
  exact ⟨(x,k),List.mem_zipIdx_iff_getElem?.2 h,rfl⟩
theorem Z0z {α:Type} (l:List α):(Ze l).Pairwise (fun a b=>b.1<a.1):=by
 unfold Ze
 rw[List.pairwise_reverse,List.pairwise_map]
 rw[List.pairwise_iff_getElem]
 intro i j hi hj hij
 simp only[List.getElem_zipIdx]
 omega
theorem Z2p {h:List (St × Int)} {ms:List OpD} {m:Zc} {k:Nat}:(m,k)∈S9 h (Ze ms)↔∃ o,ms[k]?=some o∧Yg h o=some m:=by
 unfold S9
 rw[List.mem_filterMap]
 constructor
 ·rintro ⟨⟨j,o⟩,h1,h2⟩
  cases hm:Yg h o with
  | none=>simp[hm] at h2
  | some m' =>
   simp[hm] at h2
   obtain ⟨rfl,rfl⟩:=h2
   exact ⟨o,Td.1 h1,hm⟩
 ·rintro ⟨o,h1,h2⟩
  exact ⟨(k,o),Td.2 h1,by simp[h2]⟩
theorem Z23 (h:List (St × Int)) (ms:List OpD):(S9 h (Ze ms)).Pairwise (fun a b=>b.2<a.2):=by
 unfold S9
 rw[List.pairwise_filterMap]
 refine (Z0z ms).imp ?_
 intro a b hab x hx y hy
 cases ha:Yg h a.2 with
 | none=>simp[ha] at hx
 | some m =>
  cases hb:Yg h b.2 with
  | none=>simp[hb] at hy
  | some m' =>
   simp[ha] at hx
   simp[hb] at hy
   subst hx
   subst hy
   exact hab
theorem XN.carry {α κ:Type} {klt:κ→κ→Prop} {key:α→κ} {L:List (α × Nat)} {l':List α} (h:XN klt key (L.map (·.1)) l') (hd:L.Pairwise (fun a b=>b.2<a.2)) :
  ∃ G:List (α × Nat),G.Perm L∧G.Pairwise (fun a b=>klt (key a.1) (key b.1)∨(key a.1=key b.1∧b.2<a.2))∧l'=G.map (·.1):=by
 obtain ⟨G,h1,h2,rfl⟩:=h
 have hz:((L.map (·.1)).zipIdx.map fun p=>(p.1,(L[p.2]?.map (·.2)).getD 0))=L:=by
  refine List.ext_getElem (by simp) fun i hi1 hi2=>?_
  simp[List.getElem?_eq_getElem hi2]
 refine ⟨G.map fun p=>(p.1,(L[p.2]?.map (·.2)).getD 0),?_,?_,by rw[List.map_map];rfl⟩
 ·rw[←hz]
  simpa [hz] using h1.map fun p=>(p.1,(L[p.2]?.map (·.2)).getD 0)
 ·rw[List.pairwise_map]
  refine h2.imp_of_mem fun {a b} ha hb hab=>?_
  rcases hab with hab|⟨e,hab⟩
  ·exact .inl hab
  ·refine .inr ⟨e,?_⟩
   have ha':=List.mem_zipIdx_iff_getElem?.1 (h1.mem_iff.1 ha)
   have hb':=List.mem_zipIdx_iff_getElem?.1 (h1.mem_iff.1 hb)
   rw[List.getElem?_map] at ha' hb'
   obtain ⟨x,hx,_⟩:=Option.map_eq_some_iff.1 ha'
   obtain ⟨y,hy,_⟩:=Option.map_eq_some_iff.1 hb'
   obtain ⟨hi,hx'⟩:=List.getElem?_eq_some_iff.1 hx
   obtain ⟨hj,hy'⟩:=List.getElem?_eq_some_iff.1 hy
   have:=List.pairwise_iff_getElem.1 hd a.2 b.2 hi hj hab
   simp only[hx,hy,Option.map_some,Option.getD_some]
   rw[←hx',←hy']
   exact this
theorem Tx {α:Type} (p:α→Bool):∀ L:List α,(∀ y∈L,p y=false)∨∃ A x B,L=A++x :: B∧p x=true∧∀ y∈B,p y=false
 | []=>.inl (by simp)
 | x :: L=>by
  rcases Tx p L with h|⟨A,y,B,rfl,h1,h2⟩
  ·cases hx:p x with
   | true=>exact .inr ⟨[],x,L,rfl,hx,h⟩
   | false=>exact .inl (by simp[hx];exact h)
  ·exact .inr ⟨x :: A,y,B,rfl,h1,h2⟩
def U7 (i:Int) (n:ByteArray) (x:Zc):Bool:=decide ((x.lo≤i∧i<x.hi)∧x.op.name=n)
theorem UB (i:Int) (n:ByteArray):∀ (B:List Zc) (h:List (ByteArray × Atr)),(∀ y∈B,U7 i n y=false) →
  Z5 (B.foldl (fun h x=>if x.lo≤i∧i<x.hi then Zx h x.op.name (⟨x.op.name,x.op.value⟩:Atr) else h) h) n=Z5 h n
 | [],h,_=>rfl
 | x :: B,h,hy=>by
  rw[List.foldl_cons,UB i n B _ (fun y hy'=>hy y (List.mem_cons_of_mem _ hy'))]
  have hx:=hy x (List.mem_cons_self ..)
  simp only[U7,decide_eq_false_iff_not] at hx
  split
  ·rename_i hc
   exact ZE _ _ (fun e=>hx ⟨hc,e⟩)
  ·rfl
theorem Z1F {i:Int} {n:ByteArray} {F:List Zc} (h:∀ y∈F,U7 i n y=false):Z5 (Yp F i) n=none:=by
 unfold Yp
 rw[UB i n F [] h]
 rfl
theorem Z12 {i:Int} {n:ByteArray} {A B:List Zc} {x:Zc} (hx:U7 i n x=true) (h:∀ y∈B,U7 i n y=false):Z5 (Yp (A++x :: B) i) n=some ⟨x.op.name,x.op.value⟩:=by
 unfold Yp
 rw[List.foldl_append,List.foldl_cons,UB i n B _ h]
 simp only[U7,decide_eq_true_eq] at hx
 rw[if_pos hx.1,←hx.2,ZU]
theorem Z25 {l:List El} {ms:List OpD} {F:List Zc} (hF:XN ZI Sc (Yq (Zy (Ze l)) (Ze ms)) F) (i:Int) (n:ByteArray) (a:Atr) :
  Z5 (Yp F i) n=some a↔∃ k o,Win l ms i n k o∧a=⟨o.name,o.value⟩:=by
 rw[←Z2k] at hF
 obtain ⟨G,h1,h2,rfl⟩:=hF.carry (Z23 _ ms)
 have hmem:∀ m k,(m,k)∈G↔∃ o,ms[k]?=some o∧Yg (Zy (Ze l)) o=some m:=fun m k=>h1.mem_iff.trans Z2p
 have hhit:∀ {m:Zc} {o:OpD},Yg (Zy (Ze l)) o=some m→(U7 i n m=true↔Cov l o i∧o.name=n):=fun {m o} hm=>by
  unfold U7
  rw[decide_eq_true_eq,Z08 hm,UO hm]
 rcases Tx (fun p:Zc × Nat=>U7 i n p.1) G with h|⟨A,⟨x,k⟩,B,rfl,hx,hB⟩
 ·rw[Z1F (fun y hy=>by obtain ⟨p,hp,rfl⟩:=List.mem_map.1 hy;exact h p hp)]
  constructor
  ·intro e;cases e
  ·rintro ⟨k,o,⟨w1,w2,w3,_⟩,_⟩
   obtain ⟨m,hm⟩:=TT w2
   have:=h (m,k) ((hmem m k).2 ⟨o,w1,hm⟩)
   rw[(hhit hm).2 ⟨w2,w3⟩] at this
   cases this
 ·rw[List.map_append,List.map_cons,Z12 hx (fun y hy=>by obtain ⟨p,hp,rfl⟩:=List.mem_map.1 hy;exact hB p hp)]
  obtain ⟨o,ho,hm⟩:=(hmem x k).1 (by simp)
  have hop:=UO hm
  have hxc:=(hhit hm).1 hx
  have hw:Win l ms i n k o:=by
   refine ⟨ho,hxc.1,hxc.2,fun j o' hj hc hn=>?_⟩
   obtain ⟨m',hm'⟩:=TT hc
   have hj':=(hmem m' j).2 ⟨o',hj,hm'⟩
   rw[List.mem_append,List.mem_cons] at hj'
   rcases hj' with hj'|hj'|hj'
   ·have:=(List.pairwise_append.1 h2).2.2 _ hj' _ (List.mem_cons_self ..)
    simp only[Sc,hop,UO hm'] at this
    rcases this with t|⟨t1,t2⟩
    ·exact .inl t
    ·exact .inr ⟨t1,by omega⟩
   ·cases hj'
    rw[ho] at hj
    cases hj
    exact .inr ⟨rfl,Nat.le_refl _⟩
   ·have:=hB _ hj'
    rw[(hhit hm').2 ⟨hc,hn⟩] at this
    cases this
  rw[hop]
  constructor
  ·intro e
   exact ⟨k,o,hw,(Option.some.inj e).symm⟩
  ·rintro ⟨k',o',hw',rfl⟩
   obtain ⟨_,rfl⟩:=hw.unique hw'
   rfl
def UR (al:List Atr):Prop:=al.Pairwise fun a b=>a.name.toList<b.name.toList
theorem UR.unique {a b:List Atr} (ha:UR a) (hb:UR b) (h:∀ x,x∈a↔x∈b):a=b :=
 Xy (R:=fun a b:Atr=>a.name.toList<b.name.toList) (fun a=>List.lt_irrefl _) (fun _ _ _ h k=>List.lt_trans h k) ha hb h
def U2 (l:List El) (ms:List OpD) (i:Int) (al:List Atr):Prop:=UR al∧∀ a,a∈al↔a.value≠⟨#[]⟩∧∃ k o,Win l ms i a.name k o∧a.value=o.value
theorem U2.unique {l:List El} {ms:List OpD} {i:Int} {a b:List Atr} (ha:U2 l ms i a) (hb:U2 l ms i b):a=b:=ha.1.unique hb.1 fun x=>(ha.2 x).trans (hb.2 x).symm
theorem Z04 {l:List El} {ms:List OpD} {F:List Zc} (hF:XN ZI Sc (Yq (Zy (Ze l)) (Ze ms)) F) {i:Int} {al:List Atr} (h:Z35 F i al) (hk:(Yp F i).map (·.1) |>.Nodup):U2 l ms i al:=by
 obtain ⟨h1,h2⟩:=h
 have hwin:=Z25 hF i
 have hnm:∀ p∈Yp F i,p.2.name=p.1:=fun p hp=>by
  obtain ⟨k,o,hw,e⟩:=(hwin p.1 p.2).1 (VQ hk hp)
  rw[e]
  exact hw.2.2.1
 have hm:∀ a,a∈al↔a.value≠⟨#[]⟩∧∃ k o,Win l ms i a.name k o∧a.value=o.value:=fun a=>by
  rw[h1.mem_iff]
  unfold Yf
  rw[List.mem_filter,List.mem_map,decide_eq_true_eq]
  constructor
  ·rintro ⟨⟨p,hp,rfl⟩,hv⟩
   refine ⟨hv,?_⟩
   obtain ⟨k,o,hw,e⟩:=(hwin p.1 p.2).1 (VQ hk hp)
   rw[hnm p hp]
   exact ⟨k,o,hw,by rw[e]⟩
  ·rintro ⟨hv,k,o,hw,e⟩
   refine ⟨⟨(a.name,a),Tl ((hwin a.name a).2 ⟨k,o,hw,?_⟩),rfl⟩,hv⟩
   obtain ⟨an,av⟩:=a
   have h3:=hw.2.2.1
   simp only at e h3 ⊢
   rw[e,h3]
 refine ⟨?_,hm⟩
 have hnd:(al.map (·.name)).Nodup:=by
  rw[(h1.map (·.name)).nodup_iff]
  unfold Yf
  have hs:(((Yp F i).map (·.2)).filter (fun a=>decide (a.value≠⟨#[]⟩))).map (·.name) |>.Sublist (((Yp F i).map (·.2)).map (·.name)):=(List.filter_sublist ..).map _
  refine hs.nodup ?_
  rw[List.map_map,show (Yp F i).map ((·.name) ∘ (·.2))=(Yp F i).map (·.1) from List.map_congr_left hnm]
  exact hk
 have hp:al.Pairwise (fun a b=>a.name≠b.name):=List.pairwise_map.1 hnd
 refine (h2.and hp).imp fun {a b} hab=>?_
 obtain ⟨x,y⟩:=hab
 simp only[ltOf,ltB,decide_eq_false_iff_not] at x
 exact Classical.byContradiction fun hn=>y ((ZS _ _).1 (WI _ _ hn x))
end Go.Proofs.YtlgipkemoldckaaGreatDoor
namespace Go.Proofs.YtlgipkemoldckaaGreatDoor
open Go.RowKit
def Xj (l:List El) (k:St):Int:=match ZM l k with|some i=>(i:Int)|none=>-1
theorem Rt {l:List El} {k:Nat} {id:St} {x:El} (hx:l[k]?=some x):ZM (l.drop k) id=if x.id=id then some 0 else (ZM (l.drop (k+1)) id).map (·+1):=by
 obtain ⟨h,rfl⟩:=List.getElem?_eq_some_iff.1 hx
 rw[List.drop_eq_getElem_cons h]
 unfold ZM
 rw[List.findIdx?_cons]
 by_cases e:l[k].id=id <;> simp[e]
theorem Sq (va:Option Addr) (ca:Nat) (l:List El) (sid:St) (w:World) (hl:Z4 El.cells 4 w (.slice va l.length ca) l) (hln:l.length≤1000) :
  Calls Tryz.prog 35 #[.slice va l.length ca,.agg #[.int .i64 sid.n,.int .i64 sid.r]] w fun e w'=>e=.returned (.int .i64 (Xj l sid))∧Below w.heap.size w w':=by
 obtain ⟨_,_,e0,hcap,hmax,hcs⟩:=id hl
 cases e0
 have HC:=Lib.hid hcs
 have d0:(w.alloc (.cells #[.int .i64 sid.n,.int .i64 sid.r] 23)).cell? ⟨w.heap.size,0,none⟩=some (.int .i64 sid.n):=by go_simp
 have d1:(w.alloc (.cells #[.int .i64 sid.n,.int .i64 sid.r] 23)).cell? ⟨w.heap.size,1,none⟩=some (.int .i64 sid.r):=by go_simp
 have hB0:Below w.heap.size w (w.alloc (.cells #[.int .i64 sid.n,.int .i64 sid.r] 23)):=(Below.refl _ _).alloc (Nat.le_refl _) _
 clear hcs hl
 go_enter Tryz.func35,Tryz.ntmps35
 go_wp2_with fail
 go_loopg [5] l.length (fun g iv wr=>∃ k:Nat,g=l.length - k∧k≤l.length∧iv=.int .i64 k∧ZM l sid=(ZM (l.drop k) sid).map (·+k)∧wr.cell? ⟨w.heap.size,0,none⟩=some (.int .i64 sid.n)∧wr.cell? ⟨w.heap.size,1,none⟩=some (.int .i64 sid.r)∧Below w.heap.size w wr)
 case atStart=>exact ⟨0,by omega,by omega,rfl,by simp,d0,d1,hB0⟩
 case round =>
  clear d0 d1 hB0
  obtain ⟨k,hg,hk,rfl,hP,d0,d1,hB⟩:=hrel
  have HB:=Lib.hid hB
  have HG:=Lib.hid hg
  have HP:=Lib.hid hP
  by_cases hkl:k<l.length
  ·obtain ⟨x,hx⟩:∃ x,l[k]?=some x:=⟨_,List.getElem?_eq_getElem hkl⟩
   obtain ⟨b,o,rfl,hcc⟩:=HC.out (by intro e;rw[e] at hx;simp at hx)
   have x0:wr.cell? ⟨b,o+k*4,none⟩=some (.int .i64 x.id.n):=Z0 hB (hcc k x hx 0 _ rfl)
   have x1:wr.cell? ⟨b,o+k*4+1,none⟩=some (.int .i64 x.id.r):=Z0 hB (hcc k x hx 1 _ rfl)
   have hkk:(k:Int)<(l.length:Int):=by omega
   have HS:=Jh (Rt (id:=sid) hx)
   clear hcc hB hg hP hx
   by_cases h1:x.id.n=sid.n
   ·by_cases h2:x.id.r=sid.r
    ·have HE:Hid (x.id=sid):=Jh (by cases h3:x.id;cases h4:sid;simp_all)
     rw[h1] at x0
     rw[h2] at x1
     go_wp2_with fail
     go_region_held3 (fun W=>W.cell? ⟨b,o+k*4,none⟩=some (.int .i64 sid.n)∧W.cell? ⟨b,o+k*4+1,none⟩=some (.int .i64 sid.r)∧W.cell? ⟨w.heap.size,0,none⟩=some (.int .i64 sid.n)∧W.cell? ⟨w.heap.size,1,none⟩=some (.int .i64 sid.r)) (exact ⟨x0,x1,d0,d1⟩) (fail)
     go_wp2_with fail
     go_ret
     refine ⟨?_,HB.out.drew⟩
     rw[Xj,HP.out,HS.out,if_pos HE.out]
     simp
    ·have HE:Hid (¬ x.id=sid):=Jh (fun e=>h2 (by rw[e]))
     go_wp2_with fail
     go_region_held3 (fun W=>W.cell? ⟨b,o+k*4,none⟩=some (.int .i64 x.id.n)∧W.cell? ⟨b,o+k*4+1,none⟩=some (.int .i64 x.id.r)∧W.cell? ⟨w.heap.size,0,none⟩=some (.int .i64 sid.n)∧W.cell? ⟨w.heap.size,1,none⟩=some (.int .i64 sid.r)) (exact ⟨x0,x1,d0,d1⟩) (fail)
     go_wp2_with fail
     go_roundg (l.length - (k+1))
     case measure=>rw[HG.out];omega
     case rel=>exact ⟨k+1,rfl,by omega,by simp,by rw[HP.out,HS.out,if_neg HE.out,Option.map_map];congr 1;funext j;simp only[Function.comp_apply];omega,d0,d1,HB.out.drew⟩
   ·have HE:Hid (¬ x.id=sid):=Jh (fun e=>h1 (by rw[e]))
    go_wp2_with fail
    go_region_held3 (fun W=>W.cell? ⟨b,o+k*4,none⟩=some (.int .i64 x.id.n)∧W.cell? ⟨b,o+k*4+1,none⟩=some (.int .i64 x.id.r)∧W.cell? ⟨w.heap.size,0,none⟩=some (.int .i64 sid.n)∧W.cell? ⟨w.heap.size,1,none⟩=some (.int .i64 sid.r)) (exact ⟨x0,x1,d0,d1⟩) (fail)
    go_wp2_with fail
    go_roundg (l.length - (k+1))
    case measure=>rw[HG.out];omega
    case rel=>exact ⟨k+1,rfl,by omega,by simp,by rw[HP.out,HS.out,if_neg HE.out,Option.map_map];congr 1;funext j;simp only[Function.comp_apply];omega,d0,d1,HB.out.drew⟩
  ·obtain rfl:k=l.length:=by omega
   clear hB hg hP
   go_wp2_with fail
   go_ret
   refine ⟨?_,HB.out⟩
   rw[Xj,HP.out]
   simp[ZM]
theorem Qj {l:List El} {k:St} (h:ZM l k=none):Xj l k=-1:=by rw[Xj,h]
theorem Qt {l:List El} {k:St} {i:Nat} (h:ZM l k=some i):Xj l k=(i:Int):=by rw[Xj,h]
def Y1 (l:List El) (a:St) (aft:Bool):Int:=match ZM l a with|some i=>if aft=true then 2*(i:Int)+2 else 2*(i:Int)|none=>-1
theorem TR (va:Option Addr) (ca:Nat) (l:List El) (a:St) (aft:Bool) (w:World) (hl:Z4 El.cells 4 w (.slice va l.length ca) l) (hln:l.length≤1000) :
  Calls Tryz.prog 145 #[.slice va l.length ca,.agg #[.int .i64 a.n,.int .i64 a.r,.bool aft]] w fun e w'=>e=.returned (.int .i64 (Y1 l a aft))∧Below w.heap.size w w':=by
 have hB0:Below w.heap.size w (w.alloc (.cells #[.int .i64 a.n,.int .i64 a.r,.bool aft] 170)):=(Below.refl _ _).alloc (Nat.le_refl _) _
 have hl0:=hl.below hB0
 have d2:(w.alloc (.cells #[.int .i64 a.n,.int .i64 a.r,.bool aft] 170)).cell? ⟨w.heap.size,2,none⟩=some (.bool aft):=by go_simp
 go_enter Tryz.func145,Tryz.ntmps145
 go_wp2_with fail
 refine (Sq va ca l a _ hl0 hln).mono ?_
 rintro e w1 ⟨rfl,hb1⟩
 replace d2:=Z0 hb1 d2
 have HB:=Jh (hB0.trans (hb1.mono hB0.size))
 clear hB0 hb1 hl hl0
 cases hp:ZM l a with
 | none =>
  have HR:Hid (Y1 l a aft=-1):=Jh (by rw[Y1,hp])
  rw[Qj hp]
  clear hp
  go_wp2_with fail
  go_ret
  exact ⟨by rw[HR.out];rfl,HB.out⟩
 | some i =>
  have hi:=U6 hp
  have hi1:(i:Int)≤1000:=by omega
  have hi0:(0:Int)≤(i:Int):=by omega
  have hi2:¬ (i:Int)<0:=by omega
  have HR:Hid (Y1 l a aft=if aft=true then 2*(i:Int)+2 else 2*(i:Int)):=Jh (by rw[Y1,hp])
  rw[Qt hp]
  clear hp hi
  cases aft with
  | true =>
   go_wp2_with fail
   go_ret
   exact ⟨by rw[HR.out];simp,HB.out⟩
  | false =>
   go_wp2_with fail
   go_ret
   exact ⟨by rw[HR.out];simp,HB.out⟩
theorem Z13 {l:List El} (h:∀ (i:Nat) (x:El),l[i]?=some x→Xj l x.id=i):XJ l:=by
 unfold XJ
 rw[List.pairwise_iff_getElem]
 intro i j hi hj hij e
 have h1:=h i _ (List.getElem?_eq_getElem hi)
 have h2:=h j _ (List.getElem?_eq_getElem hj)
 rw[e,h2] at h1
 omega
theorem Z2J {W:World} {a:Option Addr} {n c:Nat} {l:List El} (h:Z4 El.cells 4 W (.slice a n c) l) {k:Nat} {x:El} (hx:l[k]?=some x):∃ b o,a=some ⟨b,o,none⟩∧W.cell? ⟨b,o+k*4,none⟩=some (.int .i64 x.id.n)∧W.cell? ⟨b,o+k*4+1,none⟩=some (.int .i64 x.id.r) ∧
  W.cell? ⟨b,o+k*4+2,none⟩=some (.int .i64 x.ch)∧W.cell? ⟨b,o+k*4+3,none⟩=some (.bool x.gone):=by
 obtain ⟨a',c',e,_,_,hh⟩:=h
 injection e with e1 _ _
 subst e1
 obtain ⟨b,o,rfl,h1⟩:=hh (by intro e;rw[e] at hx;simp at hx)
 have:=h1 k x hx
 exact ⟨b,o,rfl,this 0 _ rfl,this 1 _ rfl,this 2 _ rfl,this 3 _ rfl⟩
theorem Z4.len {α:Type} {ea:α→List Value} {k:Nat} {w:World} {a:Option Addr} {n c:Nat} {l:List α} (h:Z4 ea k w (.slice a n c) l):n=l.length∧l.length≤9223372036854775807:=by
 obtain ⟨a',c',e,h1,h2,_⟩:=h
 injection e with _ e2 _
 unfold maxLen at h2
 exact ⟨e2,Nat.le_trans h1 h2⟩
structure Z2O (l:List El) (n1 n2 n3:Nat):Prop where
 el:l.length≤60
 mv:n1≤60
 ws:n2≤60
 ms:n3≤30
 right:∀ x∈l,Z7 x.id=true
 unlike:XJ l
def Qy (l:List El) (n1 n2 n3:Nat) (w:World) (e:Ending) (w':World):Prop:=∃ r:Bool,e=.returned (.bool r)∧(r=true→Z2O l n1 n2 n3)∧Below w.heap.size w w'
theorem Z1m (a0 a1 a2 a3:Option Addr) (n0 n1 n2 n3 c0 c1 c2 c3:Nat) (l:List El) (w:World) (h:Z4 El.cells 4 w (.slice a0 n0 c0) l) (h1:n1≤9223372036854775807) (h2:n2≤9223372036854775807) (h3:n3≤9223372036854775807) :
  Calls Tryz.prog 16 #[.agg #[.slice a0 n0 c0,.slice a1 n1 c1,.slice a2 n2 c2,.slice a3 n3 c3]] w fun e w'=>Qy l n1 n2 n3 w e w':=by
 have hnl:=h.len
 have hnn:n0≤9223372036854775807:=by omega
 have hB0:Below w.heap.size w (w.alloc (.cells #[.slice a0 n0 c0,.slice a1 n1 c1,.slice a2 n2 c2,.slice a3 n3 c3] 39)):=(Below.refl _ _).alloc (Nat.le_refl _) _
 have x0:(w.alloc (.cells #[.slice a0 n0 c0,.slice a1 n1 c1,.slice a2 n2 c2,.slice a3 n3 c3] 39)).cell? ⟨w.heap.size,0,none⟩=some (.slice a0 n0 c0):=by go_simp
 have x1:(w.alloc (.cells #[.slice a0 n0 c0,.slice a1 n1 c1,.slice a2 n2 c2,.slice a3 n3 c3] 39)).cell? ⟨w.heap.size,1,none⟩=some (.slice a1 n1 c1):=by go_simp
 have x2:(w.alloc (.cells #[.slice a0 n0 c0,.slice a1 n1 c1,.slice a2 n2 c2,.slice a3 n3 c3] 39)).cell? ⟨w.heap.size,2,none⟩=some (.slice a2 n2 c2):=by go_simp
 have x3:(w.alloc (.cells #[.slice a0 n0 c0,.slice a1 n1 c1,.slice a2 n2 c2,.slice a3 n3 c3] 39)).cell? ⟨w.heap.size,3,none⟩=some (.slice a3 n3 c3):=by go_simp
 have HH:=Jh (h.below hB0)
 have HB0:=Lib.hid hB0
 have HNL:=Lib.hid hnl
 have HNO:Hid (∀ w',Below w.heap.size w w'→Qy l n1 n2 n3 w (.returned (.bool false)) w'):=Jh (fun w' hb=>⟨false,rfl,fun h=>by (cases h),hb⟩)
 clear h hB0 hnl
 by_cases g0:60<n0
 ·have k0:(60:Int)<(n0:Int):=by omega
  go_enter Tryz.func16,Tryz.ntmps16
  go_upto_region 1 with fail
  generalize (w.alloc (.cells #[.slice a0 n0 c0,.slice a1 n1 c1,.slice a2 n2 c2,.slice a3 n3 c3] 39))=w1 at *
  go_wp2_with fail
  go_ret
  exact HNO.out _ HB0.out
 have k0:¬ ((60:Int)<(n0:Int)):=by omega
 by_cases g1:60<n1
 ·have k1:(60:Int)<(n1:Int):=by omega
  go_enter Tryz.func16,Tryz.ntmps16
  go_upto_region 1 with fail
  generalize (w.alloc (.cells #[.slice a0 n0 c0,.slice a1 n1 c1,.slice a2 n2 c2,.slice a3 n3 c3] 39))=w1 at *
  go_wp2_with fail
  go_ret
  exact HNO.out _ HB0.out
 have k1:¬ ((60:Int)<(n1:Int)):=by omega
 by_cases g2:60<n2
 ·have k2:(60:Int)<(n2:Int):=by omega
  go_enter Tryz.func16,Tryz.ntmps16
  go_upto_region 1 with fail
  generalize (w.alloc (.cells #[.slice a0 n0 c0,.slice a1 n1 c1,.slice a2 n2 c2,.slice a3 n3 c3] 39))=w1 at *
  go_wp2_with fail
  go_ret
  exact HNO.out _ HB0.out
 have k2:¬ ((60:Int)<(n2:Int)):=by omega
 by_cases g3:30<n3
 ·have k3:(30:Int)<(n3:Int):=by omega
  go_enter Tryz.func16,Tryz.ntmps16
  go_upto_region 1 with fail
  generalize (w.alloc (.cells #[.slice a0 n0 c0,.slice a1 n1 c1,.slice a2 n2 c2,.slice a3 n3 c3] 39))=w1 at *
  go_wp2_with fail
  go_ret
  exact HNO.out _ HB0.out
 have k3:¬ ((30:Int)<(n3:Int)):=by omega
 go_enter Tryz.func16,Tryz.ntmps16
 go_upto_region 1 with fail
 generalize (w.alloc (.cells #[.slice a0 n0 c0,.slice a1 n1 c1,.slice a2 n2 c2,.slice a3 n3 c3] 39))=w1 at *
 go_wp2_with fail
 go_loopg [3] n0 (fun g iv wr=>∃ k:Nat,g=n0 - k∧k≤n0∧iv=.int .i64 k∧Hid (∀ j y,j<k→l[j]?=some y→Z7 y.id=true∧Xj l y.id=j)∧Hid (Below w1.heap.size w1 wr))
 case atStart=>exact ⟨0,by omega,Nat.zero_le _,rfl,Jh (fun j y hj=>absurd hj (by omega)),Jh (Below.refl _ _)⟩
 case round =>
  obtain ⟨k,hg,hk,rfl,HP,HB⟩:=hrel
  have HG:=Lib.hid hg
  clear hg
  replace x0:=Z0 HB.out x0
  have HBW:=Jh (HB0.out.trans (HB.out.mono HB0.out.size))
  by_cases hkl:k<n0
  ·obtain ⟨⟨⟨en,er⟩,ec,eg⟩,hx⟩:∃ x,l[k]?=some x:=⟨_,List.getElem?_eq_getElem (by have:=HNL.out;omega)⟩
   obtain ⟨b,o,rfl,y0,y1,-,-⟩:=Z2J (HH.out.below HB.out) hx
   simp only at y0 y1
   have HX:=Lib.hid hx
   have hkk:(k:Int)<(n0:Int):=by omega
   clear hx
   have HPL:Hid (∀ W:World,Below wr.heap.size wr W→Calls Tryz.prog 35 #[.slice (some ⟨b,o,none⟩) n0 c0,.agg #[.int .i64 en,.int .i64 er]] W fun e w'=>e=.returned (.int .i64 (Xj l ⟨en,er⟩))∧Below W.heap.size W w'):=Jh (fun W hW=>by have:=Sq (some ⟨b,o,none⟩) c0 l ⟨en,er⟩ W (by have:=(HH.out.below HB.out).below hW;rwa [HNL.out.1] at this) (by have:=HNL.out;omega);rwa [←HNL.out.1] at this)
   obtain ⟨rb,hrb⟩:=Je (Z7 ⟨en,er⟩)
   have HRR:Hid (Calls Tryz.prog 32 #[.agg #[.int .i64 en,.int .i64 er]] wr fun e w'=>e=.returned (.bool rb)∧Below wr.heap.size wr w'):=Jh (by rw[←hrb];exact ZG en er wr)
   have HRB:=Lib.hid hrb
   clear hrb
   go_wp2_with fail
   refine HRR.out.mono ?_
   rintro e w5 ⟨rfl,b5⟩
   have HB5:=Jh (HBW.out.trans (b5.mono HBW.out.size))
   have HB6:=Jh (HB.out.trans (b5.mono HB.out.size))
   have HB55:=Lib.hid b5
   replace x0:=Z0 b5 x0
   replace y0:=Z0 b5 y0
   replace y1:=Z0 b5 y1
   clear b5
   cases rb with
   | false =>
    go_wp2_with fail
    go_quiet (fail)
    go_wp2_with fail
    go_ret
    exact HNO.out _ (below_drewN HB5.out _)
   | true =>
    obtain ⟨pl,hpl⟩:=Je (Xj l ⟨en,er⟩)
    rw[hpl] at HPL
    have HPP:=Lib.hid hpl
    clear hpl
    go_upto_region 7 with fail
    go_region_held3 (fun W=>W.cell? ⟨w.heap.size,0,none⟩=some (.slice (some ⟨b,o,none⟩) n0 c0)∧W.cell? ⟨b,o+k*4,none⟩=some (.int .i64 en)∧W.cell? ⟨b,o+k*4+1,none⟩=some (.int .i64 er)) (first|exact ⟨x0,y0,y1⟩|exact ⟨Z0 b7 x0,Z0 b7 y0,Z0 b7 y1⟩) ((go_at_call 35;((with_reducible refine (HPL.out _ HB55.out.drew).mono ?_);rintro e w7 ⟨rfl,b7⟩;simp only[ZR,ZJ] at b7)))
    have HB7:=Jh (HB5.out.trans (b7.mono HB5.out.size))
    have HB8:=Jh (HB6.out.trans (b7.mono HB6.out.size))
    clear b7 x0 y0 y1
    by_cases hpk:pl=(k:Int)
    ·have hpk2:(pl != (k:Int))=false:=by simp[hpk]
     have HN:Hid (∀ j y,j<k+1→l[j]?=some y→Z7 y.id=true∧Xj l y.id=j):=Jh (fun j y hj hy=>by
      by_cases hjk:j<k
      ·exact HP.out j y hjk hy
      ·have:j=k:=by omega
       subst this
       rw[HX.out] at hy
       cases hy
       exact ⟨HRB.out,HPP.out.trans hpk⟩)
     clear hpk
     go_wp2_with fail
     go_roundg (n0 - (k+1))
     case measure=>rw[HG.out];omega
     case rel=>exact ⟨k+1,rfl,hkl,by go_num,HN,HB8⟩
    ·have hpk2:(pl != (k:Int))=true:=by simpa using hpk
     go_wp2_with fail
     go_ret
     exact HNO.out _ HB7.out
  ·have hkk:¬ ((k:Int)<(n0:Int)):=by omega
   have HOK:Hid (Z2O l n1 n2 n3):=Jh (by
    have hkn:∀ (i:Nat) (y:El),l[i]?=some y→Z7 y.id=true∧Xj l y.id=i:=fun i y hy=>HP.out i y (by have:=(List.getElem?_eq_some_iff.1 hy).1;have:=HNL.out;omega) hy
    exact ⟨by have:=HNL.out;omega,by omega,by omega,by omega,fun x hx=>by obtain ⟨i,hi⟩:=List.getElem?_of_mem hx;exact (hkn i x hi).1,Z13 (fun i x hi=>(hkn i x hi).2)⟩)
   go_wp2_with fail
   go_ret
   exact ⟨true,rfl,fun _=>HOK.out,HBW.out⟩
end Go.Proofs.YtlgipkemoldckaaGreatDoor
namespace Go.Proofs.YtlgipkemoldckaaGreatDoor
open Go.ChangeShapes Go.WideShapes Go.RowKit Go.Deep
section
variable {H:Type} {enc:TypeId × Value→H} {w:World} {base:Nat} {spare:Nat→Bool} {held:Bool}
theorem Z2U {fuel:Nat} {cs:List Value} {x:DataW H × List MemPlace} (h:DataW.trod enc Tryz.prog w base spare held fuel 46 cs=some x):∃ y:El,cs=y.cells:=by
 obtain ⟨xs,n,_,_,hlen,hxl,hf⟩:=DataW.trod_struct Tryz.underlying46 h
 have hc:Tryz.prog.cellsOf 46=4:=by kernel_rfl
 have hc1:Tryz.prog.cellsOf 23=2:=by kernel_rfl
 have hc2:Tryz.prog.cellsOf 3=1:=by kernel_rfl
 have hc3:Tryz.prog.cellsOf 4=1:=by kernel_rfl
 rw[hc] at hlen
 match cs,hlen with
 | [a,b,c,d],_ =>
  have f0:DataW.trod enc Tryz.prog w base spare held n 23 [a,b]=xs[0]?:=by simpa [hc1] using hf 0 _ rfl
  have f1:DataW.trod enc Tryz.prog w base spare held n 3 [c]=xs[1]?:=by simpa [hc2] using hf 1 _ rfl
  have f2:DataW.trod enc Tryz.prog w base spare held n 4 [d]=xs[2]?:=by simpa [hc3] using hf 2 _ rfl
  simp at hxl
  obtain ⟨s,hs⟩:=YJ (f0.trans (List.getElem?_eq_getElem (by omega)))
  obtain ⟨p,hp,_⟩:=DataW.trod_int Tryz.underlying3 (f1.trans (List.getElem?_eq_getElem (by omega)))
  obtain ⟨q,hq,_⟩:=DataW.trod_bool Tryz.underlying4 (f2.trans (List.getElem?_eq_getElem (by omega)))
  simp at hs hp hq
  exact ⟨⟨s,p,q⟩,by simp[El.cells,hs,hp,hq]⟩
end
theorem SX {α:Type} {l:List α} {i:Nat} {a:α} (h:l[i]?=some a):(l.drop i).take 1=[a]:=by
 obtain ⟨hi,rfl⟩:=List.getElem?_eq_some_iff.1 h
 rw[List.drop_eq_getElem_cons hi]
 rfl
section
variable {H:Type} {enc:TypeId × Value→H} {w:World} {base:Nat} {spare:Nat→Bool} {held:Bool}
theorem SJ {fuel:Nat} {a b c:Value} {x:DataW H × List MemPlace} (h:DataW.trod enc Tryz.prog w base spare held fuel 170 [a,b,c]=some x):∃ (s:St) (q:Bool),a=.int .i64 s.n∧b=.int .i64 s.r∧c=.bool q:=by
 obtain ⟨xs,n,_,_,hlen,hxl,hf⟩:=DataW.trod_struct Tryz.underlying170 h
 have hc1:Tryz.prog.cellsOf 23=2:=by kernel_rfl
 have hc3:Tryz.prog.cellsOf 4=1:=by kernel_rfl
 have f0:DataW.trod enc Tryz.prog w base spare held n 23 [a,b]=xs[0]?:=by simpa [hc1] using hf 0 _ rfl
 have f1:DataW.trod enc Tryz.prog w base spare held n 4 [c]=xs[1]?:=by simpa [hc3] using hf 1 _ rfl
 simp at hxl
 obtain ⟨s,hs⟩:=YJ (f0.trans (List.getElem?_eq_getElem (by omega)))
 obtain ⟨q,hq,_⟩:=DataW.trod_bool Tryz.underlying4 (f1.trans (List.getElem?_eq_getElem (by omega)))
 simp at hs hq
 exact ⟨s,q,hs.1,hs.2,hq⟩
theorem Uc {fuel:Nat} {a:Value} {T:TypeId} {x:DataW H × List MemPlace} (hu:Tryz.prog.underlying T=some (.int .i64)) (h:DataW.trod enc Tryz.prog w base spare held fuel T [a]=some x):∃ z:Int,a=.int .i64 z:=by
 obtain ⟨p,hp,_⟩:=DataW.trod_int hu h
 simp at hp
 exact ⟨p,hp⟩
theorem Z2F {fuel:Nat} {a0 a1 a2 a3 a4 a5 a6 a7:Value} {x:DataW H × List MemPlace} (h:DataW.trod enc Tryz.prog w base spare held fuel 177 [a0,a1,a2,a3,a4,a5,a6,a7]=some x) :
  ∃ z0 z1 z2 z3 z4 z5 z6 z7:Int,[a0,a1,a2,a3,a4,a5,a6,a7]=[.int .i64 z0,.int .i64 z1,.int .i64 z2,.int .i64 z3,.int .i64 z4,.int .i64 z5,.int .i64 z6,.int .i64 z7]:=by
 obtain ⟨xs,m,_,_,hlen,hxl,hf⟩:=DataW.trod_array (n:=8) (e:=3) Tryz.underlying177 h
 have hc2:Tryz.prog.cellsOf 3=1:=by kernel_rfl
 have hq:∀ i (hi:i<8) (a:Value),[a0,a1,a2,a3,a4,a5,a6,a7][i]?=some a→∃ z:Int,a=.int .i64 z:=fun i hi a ha=>by
  have:=hf i hi
  rw[hc2,Nat.mul_one,SX ha] at this
  exact Uc Tryz.underlying3 (this.trans (List.getElem?_eq_getElem (by omega)))
 obtain ⟨z0,rfl⟩:=hq 0 (by omega) a0 rfl
 obtain ⟨z1,rfl⟩:=hq 1 (by omega) a1 rfl
 obtain ⟨z2,rfl⟩:=hq 2 (by omega) a2 rfl
 obtain ⟨z3,rfl⟩:=hq 3 (by omega) a3 rfl
 obtain ⟨z4,rfl⟩:=hq 4 (by omega) a4 rfl
 obtain ⟨z5,rfl⟩:=hq 5 (by omega) a5 rfl
 obtain ⟨z6,rfl⟩:=hq 6 (by omega) a6 rfl
 obtain ⟨z7,rfl⟩:=hq 7 (by omega) a7 rfl
 exact ⟨z0,z1,z2,z3,z4,z5,z6,z7,rfl⟩
theorem Z3m {fuel:Nat} {cs:List Value} {x:DataW H × List MemPlace} (h:DataW.trod enc Tryz.prog w base spare held fuel 181 cs=some x):∃ y:OpD,cs=y.cells:=by
 obtain ⟨xs,n,_,_,hlen,hxl,hf⟩:=DataW.trod_struct Tryz.underlying181 h
 have hc:Tryz.prog.cellsOf 181=26:=by kernel_rfl
 have c1:Tryz.prog.cellsOf 23=2:=by kernel_rfl
 have c2:Tryz.prog.cellsOf 3=1:=by kernel_rfl
 have c3:Tryz.prog.cellsOf 177=8:=by kernel_rfl
 have c4:Tryz.prog.cellsOf 178=1:=by kernel_rfl
 have c5:Tryz.prog.cellsOf 179=1:=by kernel_rfl
 have c6:Tryz.prog.cellsOf 9=1:=by kernel_rfl
 have c7:Tryz.prog.cellsOf 170=3:=by kernel_rfl
 rw[hc] at hlen
 match cs,hlen with
 | [a0,a1,a2,a3,a4,a5,a6,a7,a8,a9,a10,a11,a12,a13,a14,a15,a16,a17,a18,a19,a20,a21,a22,a23,a24,a25],_ =>
  have f0:DataW.trod enc Tryz.prog w base spare held n 23 [a0,a1]=xs[0]?:=by simpa [c1] using hf 0 _ rfl
  have f1:DataW.trod enc Tryz.prog w base spare held n 177 [a2,a3,a4,a5,a6,a7,a8,a9]=xs[1]?:=by simpa [c3] using hf 1 _ rfl
  have f2:DataW.trod enc Tryz.prog w base spare held n 178 [a10]=xs[2]?:=by simpa [c4] using hf 2 _ rfl
  have f3:DataW.trod enc Tryz.prog w base spare held n 23 [a11,a12]=xs[3]?:=by simpa [c1] using hf 3 _ rfl
  have f4:DataW.trod enc Tryz.prog w base spare held n 179 [a13]=xs[4]?:=by simpa [c5] using hf 4 _ rfl
  have f5:DataW.trod enc Tryz.prog w base spare held n 3 [a14]=xs[5]?:=by simpa [c2] using hf 5 _ rfl
  have f6:DataW.trod enc Tryz.prog w base spare held n 23 [a15,a16]=xs[6]?:=by simpa [c1] using hf 6 _ rfl
  have f7:DataW.trod enc Tryz.prog w base spare held n 9 [a17]=xs[7]?:=by simpa [c6] using hf 7 _ rfl
  have f8:DataW.trod enc Tryz.prog w base spare held n 9 [a18]=xs[8]?:=by simpa [c6] using hf 8 _ rfl
  have f9:DataW.trod enc Tryz.prog w base spare held n 9 [a19]=xs[9]?:=by simpa [c6] using hf 9 _ rfl
  have f10:DataW.trod enc Tryz.prog w base spare held n 170 [a20,a21,a22]=xs[10]?:=by simpa [c7] using hf 10 _ rfl
  have f11:DataW.trod enc Tryz.prog w base spare held n 170 [a23,a24,a25]=xs[11]?:=by simpa [c7] using hf 11 _ rfl
  simp at hxl
  obtain ⟨s0,h0⟩:=YJ (f0.trans (List.getElem?_eq_getElem (by omega)))
  obtain ⟨z0,z1,z2,z3,z4,z5,z6,z7,h1⟩:=Z2F (f1.trans (List.getElem?_eq_getElem (by omega)))
  obtain ⟨k,h2⟩:=Uc Tryz.underlying178 (f2.trans (List.getElem?_eq_getElem (by omega)))
  obtain ⟨s3,h3⟩:=YJ (f3.trans (List.getElem?_eq_getElem (by omega)))
  obtain ⟨sd,h4⟩:=Uc Tryz.underlying179 (f4.trans (List.getElem?_eq_getElem (by omega)))
  obtain ⟨ch,h5⟩:=Uc Tryz.underlying3 (f5.trans (List.getElem?_eq_getElem (by omega)))
  obtain ⟨s6,h6⟩:=YJ (f6.trans (List.getElem?_eq_getElem (by omega)))
  obtain ⟨ky,h7,_⟩:=DataW.trod_string Tryz.underlying9 (f7.trans (List.getElem?_eq_getElem (by omega)))
  obtain ⟨nm,h8,_⟩:=DataW.trod_string Tryz.underlying9 (f8.trans (List.getElem?_eq_getElem (by omega)))
  obtain ⟨vl,h9,_⟩:=DataW.trod_string Tryz.underlying9 (f9.trans (List.getElem?_eq_getElem (by omega)))
  obtain ⟨s10,q10,i0,i1,i2⟩:=SJ (f10.trans (List.getElem?_eq_getElem (by omega)))
  obtain ⟨s11,q11,j0,j1,j2⟩:=SJ (f11.trans (List.getElem?_eq_getElem (by omega)))
  simp only[List.cons.injEq,and_true] at h0 h1 h3 h6 h7 h8 h9
  exact ⟨⟨s0,z0,z1,z2,z3,z4,z5,z6,z7,k,s3,sd,ch,s6,ky,nm,vl,s10,q10,s11,q11⟩,by simp only[OpD.cells,h0,h1,h2,h3,h4,h5,h6,h7,h8,h9,i0,i1,i2,j0,j1,j2]⟩
end
section
variable {H:Type} {enc:TypeId × Value→H} {P:Program} {w:World} {base:Nat} {spare:Nat→Bool} {held:Bool}
theorem Wx {α:Type} {ea:α→List Value} {k:Nat} {t e:TypeId} {fuel:Nat} {cs:List Value} {x:DataW H × List MemPlace} {p:α→Prop} (ht:P.underlying t=some (.slice e)) (hk:P.cellsOf e=k) (hk0:0<k) (hlen:∀ x,(ea x).length=k)
  (hel:∀ fuel cs x,DataW.trod enc P w base spare held fuel e cs=some x→∃ y,cs=ea y∧p y) (h:DataW.trod enc P w base spare held fuel t cs=some x):∃ v l,cs=[v]∧Z4 ea k w v l∧∀ y∈l,p y:=by
 rcases open_slice ht h with ⟨hcs,_⟩|⟨a,len0,cap0,m,n,D,Pl,hcs,hb,hl,hm,hmm,hx,hi⟩
 ·exact ⟨_,[],hcs,⟨none,0,rfl,Nat.le_refl _,Nat.zero_le _,fun hn=>absurd rfl hn⟩,fun y hy=>by cases hy⟩
 ·have hlm:len0≤m:=by rw[hmm];split <;> omega
  obtain ⟨l,h1,h2⟩:=T5 (p:=fun i (x:α)=>(∀ j u,(ea x)[j]?=some u→w.cell? (a.add (i*k+j))=some u)∧p x) len0 (fun i hi'=>by
   obtain ⟨cs',hc,ht'⟩:=hi i (by omega)
   obtain ⟨y,rfl,hp⟩:=hel _ _ _ ht'
   refine ⟨y,fun j u hj=>?_,hp⟩
   obtain ⟨_,hcl,hat⟩:=World.cells?_some hc
   have hjl:=(List.getElem?_eq_some_iff.1 hj).1
   rw[hlen] at hjl
   have:=hat j (by rw[hk];exact hjl)
   rw[hk,Go.Deep.add_add,hj] at this
   exact this)
  subst h1
  refine ⟨_,l,hcs,⟨some a,cap0,rfl,hl,hm,fun hne=>?_⟩,fun y hy=>?_⟩
  ·obtain ⟨x0,hx0⟩:∃ x0,l[0]?=some x0:=by
    cases l with
    | nil=>exact absurd rfl hne
    | cons x r=>exact ⟨x,rfl⟩
   obtain ⟨u0,hu0⟩:∃ u0,(ea x0)[0]?=some u0:=by
    have:=hlen x0
    cases hq:ea x0 with
    | nil=>rw[hq] at this;simp at this;omega
    | cons x r=>exact ⟨x,rfl⟩
   have hz:=(h2 0 x0 hx0).1 0 u0 hu0
   obtain ⟨b,off,spot⟩:=a
   have hspot:spot=none:=by
    simp[Addr.add,World.cell?] at hz
    cases spot with
    | none=>rfl
    | some s=>simp at hz;split at hz <;> simp at hz
   subst hspot
   refine ⟨b,off,rfl,fun i x hi' j u hj=>?_⟩
   have:=(h2 i x hi').1 j u hj
   have e:(Addr.add ⟨b,off,none⟩ (i*k+j))=⟨b,off+i*k+j,none⟩:=by
    unfold Addr.add
    split
    ·rename_i h0;have:i*k=0∧j=0:=by omega
     simp[this.1,this.2]
    ·simp[Nat.add_assoc]
   rw[e] at this
   exact this
  ·obtain ⟨i,hi'⟩:=List.getElem?_of_mem hy
   exact (h2 i y hi').2
end
structure Z1U (w:World) (v:Value) (l:List El) (mv:List RMv) (ws:List Za) (ms:List OpD):Prop where
 ex:∃ (s0 s1 s2 s3:Sl),v=.agg #[.slice s0.a s0.n s0.cap,.slice s1.a s1.n s1.cap,.slice s2.a s2.n s2.cap,.slice s3.a s3.n s3.cap]∧Z4 El.cells 4 w (.slice s0.a s0.n s0.cap) l∧Z4 RMv.cells 7 w (.slice s1.a s1.n s1.cap) mv∧Z4 Za.cells 6 w (.slice s2.a s2.n s2.cap) ws∧Z4 OpD.cells 26 w (.slice s3.a s3.n s3.cap) ms
section
variable {H:Type} {enc:TypeId × Value→H} {w:World} {base:Nat} {spare:Nat→Bool} {held:Bool}
theorem Z14 {r:Reach} {b0:Nat} {v:Value} {d:DataW H} {p:List MemPlace} (hv:Value.okWide Tryz.prog w r b0 39 v) (h:DataW.Trod enc Tryz.prog w base spare held 39 v d p):∃ l mv ws ms,Z1U w v l mv ws ms:=by
 obtain ⟨cs,rfl,_⟩:=okWide_struct Tryz.underlying39 hv
 obtain ⟨fuel,hf⟩:=h
 obtain ⟨xs,n,_,_,hlen,hxl,hf⟩:=DataW.trod_struct Tryz.underlying39 hf
 have hc:Tryz.prog.cellsOf 39=4:=by kernel_rfl
 have c1:Tryz.prog.cellsOf 34=1:=by kernel_rfl
 have c2:Tryz.prog.cellsOf 35=1:=by kernel_rfl
 have c3:Tryz.prog.cellsOf 36=1:=by kernel_rfl
 have c4:Tryz.prog.cellsOf 37=1:=by kernel_rfl
 rw[hc] at hlen
 have hcs:(Value.agg cs).cells.toList=cs.toList:=rfl
 rw[hcs] at hf
 obtain ⟨cs⟩:=cs
 match cs,hlen with
 | [a0,a1,a2,a3],_ =>
  have f0:DataW.trod enc Tryz.prog w base spare held n 34 [a0]=xs[0]?:=by simpa [c1] using hf 0 _ rfl
  have f1:DataW.trod enc Tryz.prog w base spare held n 35 [a1]=xs[1]?:=by simpa [c2] using hf 1 _ rfl
  have f2:DataW.trod enc Tryz.prog w base spare held n 36 [a2]=xs[2]?:=by simpa [c3] using hf 2 _ rfl
  have f3:DataW.trod enc Tryz.prog w base spare held n 37 [a3]=xs[3]?:=by simpa [c4] using hf 3 _ rfl
  simp at hxl
  obtain ⟨v0,l0,h0,g0,_⟩:=Wx (ea:=El.cells) (k:=4) (p:=fun _=>True) Tryz.underlying34 (by kernel_rfl) (by omega) (fun _=>rfl) (fun _ _ _ h=>(Z2U h).imp fun _ e=>⟨e,trivial⟩) (f0.trans (List.getElem?_eq_getElem (by omega)))
  obtain ⟨v1,l1,h1,g1,_⟩:=Wx (ea:=RMv.cells) (k:=7) (p:=fun _=>True) Tryz.underlying35 (by kernel_rfl) (by omega) (fun _=>rfl) (fun _ _ _ h=>(Z0n h).imp fun _ e=>⟨e,trivial⟩) (f1.trans (List.getElem?_eq_getElem (by omega)))
  obtain ⟨v2,l2,h2,g2,_⟩:=Wx (ea:=Za.cells) (k:=6) (p:=fun _=>True) Tryz.underlying36 (by kernel_rfl) (by omega) (fun _=>rfl) (fun _ _ _ h=>(Z0D h).imp fun _ e=>⟨e,trivial⟩) (f2.trans (List.getElem?_eq_getElem (by omega)))
  obtain ⟨v3,l3,h3,g3,_⟩:=Wx (ea:=OpD.cells) (k:=26) (p:=fun _=>True) Tryz.underlying37 (by kernel_rfl) (by omega) OpD.len (fun _ _ _ h=>(Z3m h).imp fun _ e=>⟨e,trivial⟩) (f3.trans (List.getElem?_eq_getElem (by omega)))
  obtain ⟨p0,q0,e0,_⟩:=id g0
  obtain ⟨p1,q1,e1,_⟩:=id g1
  obtain ⟨p2,q2,e2,_⟩:=id g2
  obtain ⟨p3,q3,e3,_⟩:=id g3
  simp only[List.cons.injEq,and_true] at h0 h1 h2 h3
  subst h0 h1 h2 h3 e0 e1 e2 e3
  exact ⟨l0,l1,l2,l3,⟨⟨p0,l0.length,q0⟩,⟨p1,l1.length,q1⟩,⟨p2,l2.length,q2⟩,⟨p3,l3.length,q3⟩,rfl,g0,g1,g2,g3⟩⟩
end
end Go.Proofs.YtlgipkemoldckaaGreatDoor
namespace Go.Proofs.YtlgipkemoldckaaGreatDoor
open Go.RowKit
def Ro (mv:List RMv) (w:World) (e:Ending) (w':World):Prop:=∃ v A,e=.returned v∧Own Ch.cells 5 53 w.heap.size w' v A∧Zm (Y3 (ZT mv)) A∧Below w.heap.size w w'
theorem Z1N {W:World} {a:Option Addr} {n c:Nat} {l:List RMv} (h:Z4 RMv.cells 7 W (.slice a n c) l) {k:Nat} {x:RMv} (hx:l[k]?=some x):∃ b o,a=some ⟨b,o,none⟩∧W.cell? ⟨b,o+k*7,none⟩=some (.int .i64 x.at_.n)∧W.cell? ⟨b,o+k*7+1,none⟩=some (.int .i64 x.at_.r) ∧
  W.cell? ⟨b,o+k*7+2,none⟩=some (.int .i64 x.block.n)∧W.cell? ⟨b,o+k*7+3,none⟩=some (.int .i64 x.block.r)∧W.cell? ⟨b,o+k*7+4,none⟩=some (.int .i64 x.under.n)∧W.cell? ⟨b,o+k*7+5,none⟩=some (.int .i64 x.under.r)∧W.cell? ⟨b,o+k*7+6,none⟩=some (.string x.key):=by
 obtain ⟨a',c',e,_,_,hh⟩:=h
 injection e with e1 _ _
 subst e1
 obtain ⟨b,o,rfl,h1⟩:=hh (by intro e;rw[e] at hx;simp at hx)
 have:=h1 k x hx
 exact ⟨b,o,rfl,this 0 _ rfl,this 1 _ rfl,this 2 _ rfl,this 3 _ rfl,this 4 _ rfl,this 5 _ rfl,this 6 _ rfl⟩
theorem Z2o (a0 a1 a2 a3:Option Addr) (n0 n1 n2 n3 c0 c1 c2 c3:Nat) (mv:List RMv) (w:World) (h:Z4 RMv.cells 7 w (.slice a1 n1 c1) mv) (hl:mv.length≤60) :
  Calls Tryz.prog 20 #[.agg #[.slice a0 n0 c0,.slice a1 n1 c1,.slice a2 n2 c2,.slice a3 n3 c3]] w fun e w'=>Ro mv w e w':=by
 have hnl:=h.len
 have hnn:n1≤9223372036854775807:=by omega
 have hB0:Below w.heap.size w ((w.alloc (.cells #[.slice a0 n0 c0,.slice a1 n1 c1,.slice a2 n2 c2,.slice a3 n3 c3] 39)).alloc (.cells #[.slice none 0 0] 85)):=((Below.refl _ _).alloc (Nat.le_refl _) _).alloc (by simp) _
 have hz1:((w.alloc (.cells #[.slice a0 n0 c0,.slice a1 n1 c1,.slice a2 n2 c2,.slice a3 n3 c3] 39)).alloc (.cells #[.slice none 0 0] 85)).heap.size=w.heap.size+2:=by simp
 have x1:((w.alloc (.cells #[.slice a0 n0 c0,.slice a1 n1 c1,.slice a2 n2 c2,.slice a3 n3 c3] 39)).alloc (.cells #[.slice none 0 0] 85)).cell? ⟨w.heap.size,1,none⟩=some (.slice a1 n1 c1):=by go_simp
 have htr:YF (w.heap.size+1) ((w.alloc (.cells #[.slice a0 n0 c0,.slice a1 n1 c1,.slice a2 n2 c2,.slice a3 n3 c3] 39)).alloc (.cells #[.slice none 0 0] 85)) (w.heap.size+1) (.slice none 0 0) []:=⟨by have:=World.alloc_heap_new (w.alloc (.cells #[.slice a0 n0 c0,.slice a1 n1 c1,.slice a2 n2 c2,.slice a3 n3 c3] 39)) (.cells #[.slice none 0 0] 85);rwa [World.size_alloc] at this,Own.nil,Nat.le_refl _⟩
 have HH:=Lib.hid h
 have HB0:=Lib.hid hB0
 have HZ1:=Lib.hid hz1
 have HNL:=Jh (And.intro hnl hl)
 have HTR:=Lib.hid htr
 clear h hB0 hz1 hnl hl htr
 go_enter Tryz.func20,Tryz.ntmps20
 go_upto_region 2 with fail
 generalize ((w.alloc (.cells #[.slice a0 n0 c0,.slice a1 n1 c1,.slice a2 n2 c2,.slice a3 n3 c3] 39)).alloc (.cells #[.slice none 0 0] 85))=w1 at *
 go_wp2_with fail
 go_loopg [4] n1 (fun g iv wr=>∃ k:Nat,g=n1 - k∧k≤n1∧iv=.int .i64 k∧Hid (∃ v L,YF (w.heap.size+1) wr (w.heap.size+1) v L∧YP L (ZT (mv.take k)))∧Hid (Below (w.heap.size+1) w1 wr))
 case atStart=>exact ⟨0,by omega,Nat.zero_le _,rfl,Lib.hid ⟨_,[],HTR.out,rfl,List.Pairwise.nil⟩,Jh (Below.refl _ _)⟩
 case round =>
  obtain ⟨k,hg,hk,rfl,HP,HB⟩:=hrel
  have HG:=Lib.hid hg
  clear hg
  have HBW:=Jh (HB0.out.trans (HB.out.mono (by omega)))
  have y1:=x1
  have hcl:(ZT (mv.take k)).length≤60:=Nat.le_trans (SN _) (by rw[List.length_take];have:=HNL.out.2;omega)
  have HCL:=Lib.hid hcl
  obtain ⟨v,L,ht,hc⟩:=HP.out
  have HT:=Lib.hid ht
  have HC:=Lib.hid hc
  have hLl:L.length≤60:=by rw[hc.len];exact hcl
  have HLL:=Lib.hid hLl
  have hzr:=HB.out.size
  have HZR:=Lib.hid hzr
  clear ht hc hLl hcl hzr
  replace x1:wr.cell? ⟨w.heap.size,1,none⟩=some (.slice a1 n1 c1):=by
   have:=HB.out.block w.heap.size (by omega)
   simp only[World.cell?] at x1 ⊢
   rw[this];exact x1
  by_cases hkl:k<n1
  ·obtain ⟨⟨⟨an,ar⟩,⟨bn,br⟩,⟨un,ur⟩,ky⟩,hx⟩:∃ x,mv[k]?=some x:=⟨_,List.getElem?_eq_getElem (by have:=HNL.out.1;omega)⟩
   obtain ⟨b,o,rfl,z0,z1,z2,z3,z4,z5,z6⟩:=Z1N HH.out hx
   have hbl:b<w.heap.size:=Zj z0
   replace z0:=Z0 HBW.out z0
   replace z1:=Z0 HBW.out z1
   replace z2:=Z0 HBW.out z2
   replace z3:=Z0 HBW.out z3
   replace z4:=Z0 HBW.out z4
   replace z5:=Z0 HBW.out z5
   replace z6:=Z0 HBW.out z6
   simp only at z0 z1 z2 z3 z4 z5 z6
   have HX:=Lib.hid hx
   have hkk:(k:Int)<(n1:Int):=by omega
   have hnt:∀ q,q≤w.heap.size→¬ XH v (w.heap.size+1) q:=fun q hq hr=>by
    rcases hr with hr|hr
    ·omega
    ·have:=(HT.out.2.1.blk q hr).1;omega
   have HNT:=Lib.hid hnt
   have HBL:=Lib.hid hbl
   have HMV:Hid (Calls Tryz.prog 38 #[.pointer (some ⟨w.heap.size+1,0,none⟩),.agg #[.int .i64 an,.int .i64 ar],.agg #[.int .i64 bn,.int .i64 br],.agg #[.int .i64 un,.int .i64 ur],.string ky] wr.drew fun e w'=>V4 (w.heap.size+1) wr.drew (w.heap.size+1) v (ZT (mv.take k)) ⟨an,ar⟩ ⟨bn,br⟩ ⟨un,ur⟩ ky e w'):=Jh (Z1W (B:=w.heap.size+1) (w:=wr.drew) (rb:=w.heap.size+1) (v:=v) (L:=L) ⟨an,ar⟩ ⟨bn,br⟩ ⟨un,ur⟩ ky HT.out (by show _≤wr.heap.size;have:=HZ1.out;have:=HZR.out;omega) HC.out (by have:=HLL.out;omega))
   clear hx hnt hbl y1
   go_upto_region 5 with fail
   go_region_held3 (fun W=>W.cell? ⟨w.heap.size,1,none⟩=some (.slice (some ⟨b,o,none⟩) n1 c1)∧W.cell? ⟨b,o+k*7,none⟩=some (.int .i64 an)∧W.cell? ⟨b,o+k*7+1,none⟩=some (.int .i64 ar)∧W.cell? ⟨b,o+k*7+2,none⟩=some (.int .i64 bn)∧W.cell? ⟨b,o+k*7+3,none⟩=some (.int .i64 br)∧W.cell? ⟨b,o+k*7+4,none⟩=some (.int .i64 un)∧W.cell? ⟨b,o+k*7+5,none⟩=some (.int .i64 ur)∧W.cell? ⟨b,o+k*7+6,none⟩=some (.string ky)) (first|exact ⟨x1,z0,z1,z2,z3,z4,z5,z6⟩|exact ⟨hx5.keep x1 (HNT.out _ (Nat.le_refl _)),hx5.keep z0 (HNT.out _ (Nat.le_of_lt HBL.out)),hx5.keep z1 (HNT.out _ (Nat.le_of_lt HBL.out)),hx5.keep z2 (HNT.out _ (Nat.le_of_lt HBL.out)),hx5.keep z3 (HNT.out _ (Nat.le_of_lt HBL.out)),hx5.keep z4 (HNT.out _ (Nat.le_of_lt HBL.out)),hx5.keep z5 (HNT.out _ (Nat.le_of_lt HBL.out)),hx5.keep z6 (HNT.out _ (Nat.le_of_lt HBL.out))⟩) ((go_at_call 38;((with_reducible refine HMV.out.mono ?_);rintro e w5 ⟨v5,L5,rfl,ht5,hc5,hx5⟩)))
   have HP5:Hid (∃ v L,YF (w.heap.size+1) w5 (w.heap.size+1) v L∧YP L (ZT (mv.take (k+1)))):=Lib.hid ⟨v5,L5,ht5,by rw[Z0k HX.out];exact hc5⟩
   have HB5:Hid (Below (w.heap.size+1) w1 w5):=Jh (Ext.new HB.out (show Ext (XH v (w.heap.size+1)) wr w5 from ⟨hx5.os,hx5.tape,hx5.output,hx5.size,hx5.block⟩) (fun i hi _=>HNT.out i (by omega)) (by have:=HZ1.out;have:=HZR.out;omega))
   clear ht5 hc5 hx5
   go_wp2_with fail
   go_roundg (n1 - (k+1))
   case measure=>rw[HG.out];omega
   case rel=>exact ⟨k+1,rfl,hkl,by go_num,HP5,HB5⟩
  ·have hkk:¬ ((k:Int)<(n1:Int)):=by omega
   have HALL:Hid (Calls Tryz.prog 39 #[.pointer (some ⟨w.heap.size+1,0,none⟩)] wr fun e w'=>QE wr (ZT mv) e w'):=Jh (Z2D (B:=w.heap.size+1) (v:=v) (L:=L) HT.out (by have:=HC.out;rwa [List.take_of_length_le (by have:=HNL.out.1;omega)] at this) (by have:=HLL.out;omega))
   go_wp2_with fail
   refine HALL.out.mono ?_
   rintro e w6 ⟨v6,A,rfl,ho,hA,b6⟩
   have HF:Hid (Ro mv w (.returned v6) w6):=Lib.hid ⟨v6,A,rfl,ho.mono (by have:=HBW.out.size;omega),hA,HBW.out.trans (b6.mono HBW.out.size)⟩
   clear ho hA b6
   go_wp2_with fail
   go_ret
   exact HF.out
end Go.Proofs.YtlgipkemoldckaaGreatDoor
