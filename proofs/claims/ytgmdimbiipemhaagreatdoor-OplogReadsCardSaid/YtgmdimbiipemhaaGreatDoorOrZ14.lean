/- OplogReads, part 14 of what the proof leans on (made short by a program). -/
import Derived.Test.YtgmdimbiipemhaaGreatDoorOrZ13
import Derived.LaidMore
import Derived.Lay
import Derived.Test.YtgmdimbiipemhaaGreatDoorTie
import Derived.Test.YtgmdimbiipemhaaGreatDoorCards
set_option linter.unusedSimpArgs false
set_option linter.unusedVariables false
set_option linter.unusedSectionVars false
set_option maxRecDepth 20000
set_option maxHeartbeats 30000000
namespace Go.Proofs.YtgmdimbiipemhaaGreatDoor
open Go.RowKit Go.Deep
def SD (n:Int):OpD:=⟨⟨n,0⟩,0,0,0,0,0,0,0,0,1,⟨0,0⟩,2,97,⟨0,0⟩,ZN,ZN,ZN,⟨0,0⟩,false,⟨0,0⟩,false⟩
theorem Z6L (n:Int) (w:World):Calls Tryz.prog 44 #[.int .i64 n] w fun e w'=>e=.returned (SD n).val∧Below w.heap.size w w':=by
 have hst:=WP (P:=Tryz.prog) XS (W:=w) (z:=YK.cells.toArray) (cs:=(SD n).cells) rfl (OpD.len (SD n)) (OpD.one (SD n))
 have hr:=(OB.new w (SD n)).whole
 have HS:=Lib.hid hst
 have HR:=Lib.hid hr
 have HB:Hid (Below w.heap.size w (w.alloc (.cells (SD n).cells.toArray 68))):=Jh ((Below.refl _ _).alloc (Nat.le_refl _) _)
 clear hst hr
 unfold OpD.val
 go_enter Tryz.func44,Tryz.ntmps44
 go_wp2_with (refine Z2 (T:=68) (v:=.agg (OpD.cells (SD n)).toArray) rfl rfl rfl rfl HS.out ?_)
 refine bodyPost_ret (v:=.agg (SD n).cells.toArray) (by rw[Zv rfl];first|exact HR.out|(have hr:=HR.out;go_simp;exact hr)) rfl ?_
 exact ⟨rfl,HB.out⟩
theorem Z22 (x:OpD) (W:World):(Instr.buildSlice 24 1 #[(0,x.val)]).run Tryz.prog W=.ok (.slice (some ⟨W.heap.size,0,none⟩) 1 1) (W.alloc (.cells x.cells.toArray 68)):=by kernel_rfl
theorem Z0J:Xa.Small 0:=⟨by decide,by decide,by decide,by decide,fun f hf=>(by cases hf),by decide⟩
theorem Z8c:Wo Xa.files:=⟨List.nodup_nil,fun n f h=>(by cases h)⟩
theorem Z7c {A:Z4} (hno:Z8 A.files Zl=none) (hn:(A.files.map (·.1)).Nodup) (hl:A.files.length≤7):Y4 (rmA A) Zl=0:=by
 have h1:Z8 (rmA A).files Zl=none:=by
  unfold rmA
  split
  ·exact hno
  ·show Z8 (ZU ⟨0,⟨#[]⟩,Zn,none⟩ A.files) Zl=none
   rw[Xe _ _ hn]
   dsimp only
   split
   ·rfl
   ·exact hno
 have h2:=Z0P A
 unfold Y4
 rw[Va,h1]
 simp
 omega
theorem Z4G {A:Z4} {N fb:Nat} {bs:List UInt8} (hs:A.Small N) (hfl:A.files.length≤7) (hn:(A.files.map (·.1)).Nodup) (hf:fb∉A.ids) (hb:bs.length≤1048576):(Ro fb bs A).Small (N+7):=by
 have h1:=hs.rm
 have h2:(an1 fb A).Small (N+2):=h1.make (Rp hn hfl) (by rw[VE];exact hf)
 have h3:=h2.app (Wr fb A) (bs:=bs) (by rw[Z3b];simp[ZB];omega)
 have h4:=h3.sync (x:=Zn) (f:=fb) (Wr fb A)
 exact (h4.syn_.step ⟨0,Zl,Zn,some fb⟩).syn_
theorem Rq.small {A A':Z4} {L:List OpD} {N:Nat} (h:Rq A A' L) (hs:A.Small N) (hfl:A.files.length≤7) (hi:A.Inj) (hsz:∀ f∈A.ids,ZB (A.fs f)≤1048576):A'.Small (N+8):=by
 rcases h with ⟨hno,rfl,fb,hf,rfl⟩|⟨f,hg,rfl,⟨hc,fb,hf,rfl⟩|⟨hc,hn,rfl⟩⟩
 ·exact ((hs.rm.make (Z7c hno hi.nd hfl) (by rw[VE];exact hf)).syn_).mono (by omega)
 ·refine (Z4G hs hfl hi.nd hf ?_).mono (by omega)
  have:=hsz f (hi.ids _ _ hg)
  rw[List.length_take,VQ]
  omega
 ·exact ((hs.sync hg).syn_).mono (by omega)
theorem Z8a:SD 1=VH:=rfl
theorem Z2L:Yo [VH]:=⟨by simp,by decide,fun x hx=>by rw[List.mem_singleton.1 hx];exact ⟨RV,Z32⟩,by have:=Z5d (l:=[VH]) (by decide) (fun x hx=>by rw[List.mem_singleton.1 hx];exact RV);simp at this;omega⟩
theorem Z3z {A:Z4} {f:Nat} {O:OpD} (h:30<(Xj [O]).length) (hs:YR A f ([]++([]++[[O]])) []):40<(Zp (A.fs f)).length:=by
 have e:ZG (([]++([]++[[O]]))++[])=Yt [O]:=by simp[ZG]
 rw[hs.pcs.bytes,e,Wz]
 omega
theorem Z0m (w:World) (hg:Xy w):Calls Tryz.prog 27 #[] w fun e w'=>e=.returned (.bool true)∧Below w.heap.size w w':=by
 have h0:0<w.heap.size:=Zu hg
 go_enter Tryz.func27,Tryz.ntmps27
 go_wp2_with fail
 refine (Z0Z _ (Nat.le_refl _)).mono ?_
 rintro e w1 ⟨D,rfl,hd,hb,-⟩
 have HD:=Jh (And.intro hd (And.intro hb (hg.below hb)))
 clear hd hb hg
 go_wp2_with fail
 refine (SZ HD.out.1 HD.out.2.1.size Z0J (by omega) (by decide) HD.out.2.2 h0).mono ?_
 rintro e w2 hp
 unfold QA at hp
 obtain ⟨lb,D2,A2,vo,L,rfl,hop,ht,hl⟩:=hp
 have HO:=Lib.hid hop
 have hi0:=Z4N
 obtain ⟨f,ld,hst,hflat,hld,-⟩:=hop.steady Z7g (by decide) Z4N Z8c
 have hld0:=hld rfl
 subst hld0
 obtain rfl:L=[]:=hflat.symm
 have HS:=Lib.hid hst
 have S2:=Jh (hop.small Z0J (by decide) Z4N (fun f hf=>(by cases hf)))
 have hg2:=ht.errTy HD.out.1 h0 HD.out.2.2
 have z2:=Nat.le_trans HD.out.2.1.size ht.ext.size
 have HT:=Jh (And.intro ht (And.intro hl hg2))
 clear hop ht hl hi0 hst hflat hld hg2
 go_wp2_with fail
 refine (Z6L 1 _).mono ?_
 rintro e w3 ⟨rfl,hb3⟩
 rw[Z8a]
 obtain ⟨O,hO⟩:∃ O,O=VH:=⟨_,rfl⟩
 have HO1:Hid (O.wf∧Yo [O]∧30<(Xj [O]).length∧(Xj [O]).length≤65536):=Jh (by rw[hO];exact ⟨Z32,Z2L,Z5I.1,Z2L.2.2.2⟩)
 rw[←hO]
 clear hO
 have hb4:Below w3.heap.size w3 (w3.alloc (.cells O.cells.toArray 68)):=(Below.refl _ _).alloc (Nat.le_refl _) _
 have hs4:Z0 OpD.cells 26 (w3.alloc (.cells O.cells.toArray 68)) (.slice (some ⟨w3.heap.size,0,none⟩) 1 1) [O]:=Z0.one O 68
 have T4:=Jh (Ze.below HT.out.1.is_ (hb3.trans (hb4.mono hb3.size)))
 have L4:=Jh (HT.out.2.1.below (hb3.trans (hb4.mono hb3.size)))
 have G4:=Jh (HT.out.2.2.below (hb3.trans (hb4.mono hb3.size)))
 have z4:w.heap.size≤(w3.alloc (.cells O.cells.toArray 68)).heap.size:=Nat.le_trans z2 (Nat.le_trans hb3.size hb4.size)
 have hlt:∀ b,(Wn D2 A2 b∨b=lb∨vo.ownBlock=some b)→b<w3.heap.size:=fun b hb=>by
  rcases hb with hb|rfl|hb
  ·exact Nat.lt_of_lt_of_le (HT.out.1.is_.foot hb).2.1 hb3.size
  ·exact Nat.lt_of_lt_of_le HT.out.2.1.b.lt hb3.size
  ·exact Nat.lt_of_lt_of_le (HT.out.2.1.o.blk b hb).2 hb3.size
 have HLT:=Lib.hid hlt
 have H4:=Lib.hid hs4
 obtain ⟨w4,hw4⟩:=Je (w3.alloc (.cells O.cells.toArray 68))
 rw[hw4] at T4 L4 G4 z4 H4
 have hsl:=Z22 O w3
 rw[hw4] at hsl
 have HSL:=Lib.hid hsl
 clear hb4 hs4 hb3 hlt hw4 hsl
 go_wp2_with ((with_reducible_and_instances refine RE (o:=⟨some 23,_,_,_,_,_⟩) (x0:=.tmp 22) ?_ ?_ ?_ HSL.out ?_);rfl;rfl;rfl)
 refine (Z3O T4.out.is_ z4 (L4.out.mono HD.out.2.1.size) S2.out (by omega) (by simp) G4.out h0 _ [O] H4.out (fun b o n cap e=>?_) (fun x hx=>by rw[List.mem_singleton.1 hx];exact HO1.out.1) (by simp)).mono ?_
 ·simp only[Value.slice.injEq,Option.some.injEq,Addr.mk.injEq] at e
  intro hb
  have:=HLT.out b hb
  omega
 rintro e w5 hp
 unfold Z2T at hp
 have hp2:∃ D5 vo5,e=.returned (.int .i64 0)∧LT w.heap.size w4 D2 A2 lb vo w5 D5 (Yw f (Yt [O]) A2) vo5 [O] 0:=by
  rcases hp with ⟨n,rfl,hc,_⟩|⟨_,g,D5,vo5,hg,_,rfl,hlt⟩
  ·exfalso
   rcases hc with ⟨_,h|h⟩|⟨_,_,_,x,hx,h⟩|⟨_,h⟩|⟨_,_,h⟩|⟨_,_,g,hg,h⟩
   ·cases h
   ·simp at h
   ·rw[List.mem_singleton.1 hx,(HO1.out.2.1.2.2.1 O (by simp)).1] at h
    cases h
   ·have:=HO1.out.2.2.2;omega
   ·rw[HS.out.lg] at h;cases h
   ·rw[HS.out.lg] at hg
    cases hg
    have h1:=HS.out.pcs.bytes
    have h2:=VQ (A2.fs f)
    rw[h1] at h2
    have h3:=Wz [O]
    have:=HO1.out.2.2.2
    simp[ZG] at h2
    omega
  ·rw[HS.out.lg] at hg
   cases hg
   exact ⟨D5,vo5,rfl,hlt⟩
 obtain ⟨D5,vo5,rfl,hlt⟩:=hp2
 have T5:=Lib.hid hlt
 have S5:=Jh (HS.out.app HO1.out.2.1)
 have SM5:=Jh (S2.out.app (bs:=Yt [O]) HS.out.lg (by
  have h1:=HS.out.pcs.bytes
  have h2:=VQ (A2.fs f)
  rw[h1] at h2
  have h3:=Wz [O]
  have:=HO1.out.2.2.2
  simp[ZG] at h2
  omega))
 clear hp hlt
 go_wp2_with fail
 refine (Z5U T5.out.disk T5.out.log SM5.out (by omega)).mono ?_
 rintro e w6 (⟨hno,_⟩|⟨g,hg,rfl,ht6⟩)
 ·rw[S5.out.lg] at hno;cases hno
 rw[S5.out.lg] at hg
 cases hg
 have T6:=Jh (T5.out.trans ht6)
 have S6:=Lib.hid S5.out.sync
 have SM6:=Jh (SM5.out.sync (x:=Zl) (f:=f) S5.out.lg)
 clear ht6
 go_wp2_with fail
 refine (UQ T6.out.log (by simp)).mono ?_
 rintro e w7 ⟨v7,rfl,ho7,hb7⟩
 have T7:=Jh (T6.out.below hb7)
 obtain ⟨a7,c7,rfl,-,-,-⟩:=ho7.slice OpD.len
 clear ho7 hb7
 go_wp2_with fail
 rw[show D.pb=D5.pb from (T7.out.pb.trans HT.out.1.pb).symm]
 refine (U8 T7.out.disk Zl SM6.out (by omega)).mono ?_
 rintro e w8 hp
 unfold Vs at hp
 rcases hp with ⟨hno,_⟩|⟨g,v8,hg,rfl,ho8,hb8⟩
 ·rw[S6.out.lg] at hno;cases hno
 rw[S6.out.lg] at hg
 cases hg
 have T8:=Jh (T7.out.below hb8)
 obtain ⟨a8,c8,hv8,-,-,-⟩:=ho8.slice Z6
 have hlen:=Z3z HO1.out.2.2.1 S6.out
 obtain ⟨q,hq⟩:=Je ((Zp ((X4 f (Yw f (Yt [O]) A2)).fs f)).length)
 rw[hq] at hv8 hlen
 subst hv8
 have hlen2:(40:Int)<(q:Int):=by omega
 clear ho8 hb8 hq hlen
 simp only[List.length_singleton]
 go_wp2_with fail
 refine (TP T8.out.log).mono ?_
 rintro e w9 ⟨rfl,rfl⟩
 simp only[List.length_singleton]
 go_wp2_with fail
 go_ret
 refine ⟨rfl,?_⟩
 exact T8.out.frame T4.out.is_ (L4.out.mono HD.out.2.1.size) ((HT.out.1.trans T4.out).frame HD.out.1 HD.out.2.1 (Nat.le_refl _) HD.out.2.1.size) (Nat.le_refl _) z4
theorem Z83 {P:Program} {o:Oper} {ρ:Operand→Value} {T T':TypeId} {x y:Operand} {A B:Array Value} {v:Value} {W:World} (ho:o.op=.binOp .neq T x y T') (hx:ρ x=.agg A) (hy:ρ y=.agg B)
  (hg:P.eqGuardType P.depth T=false) (h:(binOp .neq T (.agg A) (.agg B)).run P W=.ok v W):(execOp ρ o).run P W=.ok (.value v) W:=by
 unfold execOp
 simp only[ho,hx,hy,eqGuard,Sem.run_bind,Sem.run_pure,Result.andThen_ok]
 simp[hg,h,Result.andThen]
theorem Z5q {α:Type} {a b:List α} {k:Nat} {x:α} (h:a.take k=b.take k) (ha:a[k]?=some x) (hb:b[k]?=some x):a.take (k+1)=b.take (k+1):=by
 rw[List.take_add_one,List.take_add_one,h,ha,hb]
theorem Z1p (va vb:Value) (la lb:List OpD) (w:World) (ha:Z0 OpD.cells 26 w va la) (hb:Z0 OpD.cells 26 w vb lb) :
  Calls Tryz.prog 16 #[va,vb] w fun e w'=>e=.returned (.bool (decide (la=lb)))∧Below w.heap.size w w':=by
 obtain ⟨aa,ca,rfl,hca,hma,-⟩:=id ha
 obtain ⟨ab,cb,rfl,hcb,hmb,-⟩:=id hb
 unfold maxLen at hma hmb
 by_cases hl:la.length=lb.length
 ·obtain ⟨n,hna⟩:=Je (la.length)
  have hnb:lb.length=n:=by rw[←hl];exact hna
  rw[hna] at ha hca ⊢
  rw[hnb] at hb hcb ⊢
  have HA:=Lib.hid ha
  have HB:=Lib.hid hb
  have HL:=Jh (And.intro hna hnb)
  clear ha hb hl hna hnb
  go_enter Tryz.func16,Tryz.ntmps16
  go_wp2_with fail
  go_loopg [5] n (fun g kv wx=>∃ k:Nat,g=n - k∧kv=.int .i64 k∧k≤n∧Hid (la.take k=lb.take k∧Below w.heap.size w wx))
  case atStart=>exact ⟨0,rfl,rfl,Nat.zero_le _,Lib.hid ⟨rfl,Below.refl _ _⟩⟩
  case round =>
   obtain ⟨k,hg,rfl,hk,HR⟩:=hrel
   have HG:=Lib.hid hg
   clear hg
   by_cases hlt:k<n
   ·have hk1:(k:Int)<(n:Int):=by omega
    have hk0:(0:Int)≤(k:Int):=by omega
    obtain ⟨x,hx⟩:∃ x,la[k]?=some x:=⟨_,List.getElem?_eq_getElem (by rw[HL.out.1];exact hlt)⟩
    obtain ⟨y,hy⟩:∃ y,lb[k]?=some y:=⟨_,List.getElem?_eq_getElem (by rw[HL.out.2];exact hlt)⟩
    have hsa:=HA.out.below HR.out.2
    have hsb:=HB.out.below HR.out.2
    obtain ⟨b1,o1,rfl⟩:=hsa.some8 (by intro e;have h:=HL.out.1;rw[e] at h;simp at h;omega)
    obtain ⟨b2,o2,rfl⟩:=hsb.some8 (by intro e;have h:=HL.out.2;rw[e] at h;simp at h;omega)
    have hSW:(fun W:World=>Z0 OpD.cells 26 W (.slice (some ⟨b1,o1,none⟩) n ca) la∧Z0 OpD.cells 26 W (.slice (some ⟨b2,o2,none⟩) n cb) lb) wr.drew:=⟨hsa.below (Below.refl _ _).drew,hsb.below (Below.refl _ _).drew⟩
    have hq:=Z4D x y
    unfold OpD.val at hq
    have HX:=Jh (And.intro hx (And.intro hy hq))
    clear hsa hsb hx hy hq
    go_upto_region 6 with fail
    refine Z7 (fun W:World=>Z0 OpD.cells 26 W (.slice (some ⟨b1,o1,none⟩) n ca) la∧Z0 OpD.cells 26 W (.slice (some ⟨b2,o2,none⟩) n cb) lb) (fun _=>false) (by kernel_rfl) ?_
    have HR1:Hid (Below w.heap.size w wr.drew):=Lib.hid HR.out.2.drew
    generalize wr.drew=W1 at hSW HR1 ⊢
    refine J0 0 17 _ hSW ?_
    try simp only[Ja]
    refine J0 1 18 (.int .i64 k) hSW ?_
    try simp only[Ja]
    refine J0 2 19 (.pointer (some ⟨b1,o1+k*26,none⟩)) hSW ?_
    try simp only[Ja]
    refine JR 3 20 (.agg x.cells.toArray) rfl rfl hSW (fun W hW=>by exact Z9 rfl rfl (X9 hW.1 HX.out.1)) ?_
    try simp only[Ja]
    refine J0 4 21 _ hSW ?_
    try simp only[Ja]
    refine J0 5 22 (.int .i64 k) hSW ?_
    try simp only[Ja]
    refine J0 6 23 (.pointer (some ⟨b2,o2+k*26,none⟩)) hSW ?_
    try simp only[Ja]
    refine JR 7 24 (.agg y.cells.toArray) rfl rfl hSW (fun W hW=>by exact Z9 rfl rfl (X9 hW.2 HX.out.2.1)) ?_
    try simp only[Ja]
    refine JR 8 25 (.bool (!decide (x=y))) rfl rfl hSW (fun W hW=>by exact Z83 rfl rfl rfl Z6q (HX.out.2.2 W)) ?_
    try simp only[Ja]
    refine Z3 (by kernel_rfl) ?_ _
    clear hSW
    by_cases he:x=y
    ·subst he
     have HN:Hid (la.take (k+1)=lb.take (k+1)∧Below w.heap.size w W1):=Lib.hid ⟨Z5q HR.out.1 HX.out.1 HX.out.2.1,HR1.out⟩
     clear HR HR1
     simp only[decide_true,Bool.not_true]
     go_wp2_with fail
     go_roundg (n - (k+1))
     case measure=>rw[HG.out];omega
     case rel=>exact ⟨k+1,rfl,by simp,by omega,HN⟩
    ·have hne:decide (la=lb)=false:=decide_eq_false (by
      rintro rfl
      have h1:=HX.out.1.symm.trans HX.out.2.1
      exact he (Option.some.inj h1))
     have HNE:=Lib.hid hne
     clear hne
     simp only[decide_eq_false he,Bool.not_false]
     go_wp2_with fail
     go_ret
     exact ⟨by rw[HNE.out];rfl,HR1.out⟩
   ·obtain rfl:k=n:=by omega
    have hk1:¬ (k:Int)<(k:Int):=by omega
    have he:la=lb:=by
     have h:=HR.out.1
     rwa [List.take_of_length_le (by rw[HL.out.1];exact Nat.le_refl _),List.take_of_length_le (by rw[HL.out.2];exact Nat.le_refl _)] at h
    have hne:decide (la=lb)=true:=decide_eq_true he
    have HNE:=Lib.hid hne
    clear hne he
    go_wp2_with fail
    go_ret
    exact ⟨by rw[HNE.out];rfl,HR.out.2⟩
 ·have hl1:¬ (la.length:Int)=(lb.length:Int):=by omega
  have hne:decide (la=lb)=false:=decide_eq_false (fun e=>hl (by rw[e]))
  have HNE:=Lib.hid hne
  clear hne ha hb
  go_enter Tryz.func16,Tryz.ntmps16
  go_wp2_with fail
  go_ret
  exact ⟨by rw[HNE.out];rfl,Below.refl _ _⟩
theorem Te {w:World} {v1 v2:Value} {l1 l2:List UInt8} (h1:Z0 u8c 1 w v1 l1) (h2:Z0 u8c 1 w v2 l2) :
  Calls Tryz.prog 17 #[v1,v2] w fun e w'=>e=.returned (.bool (decide (l1=l2)))∧w'=w:=by
 have c1:=Zt h1
 have c2:=Zt h2
 obtain ⟨a1,k1,rfl,_⟩:=id h1
 obtain ⟨a2,k2,rfl,_⟩:=id h2
 clear h1 h2
 by_cases he:l1=l2
 ·subst he
  go_enter Tryz.func17,Tryz.ntmps17
  go_wp2
  go_ret
  exact ⟨by simp,rfl⟩
 ·have hn:(⟨l1.toArray⟩:ByteArray)≠⟨l2.toArray⟩:=fun e=>he (by cases e;rfl)
  obtain ⟨n1,n2⟩:=Z5A he
  have hd:decide (l1=l2)=false:=decide_eq_false he
  go_enter Tryz.func17,Tryz.ntmps17
  go_wp2
  go_ret
  exact ⟨by first|(rw[hd];rfl)|simp[he,n1,n2],rfl⟩
structure Z4l (A:Z4) (b:List UInt8) (n:Nat):Prop where
 hist:A.Hist
 now:0≤A.now
 inj:A.Inj
 two:Wo A.files
 lg:∃ f,Z8 A.files Zl=some f∧Zp (A.fs f)=b
 small:A.Small n
theorem Z7f:Y4 Xa Zl=0:=by decide
theorem Z6k {fb:Nat} (hf:fb∉Xa.ids) {b:List UInt8} (hb:b.length≤20000):Z8 (Zz ⟨0,Zl,⟨#[]⟩,some fb⟩ (ZQ fb Xa)).files Zl=some fb∧ZB ((Zz ⟨0,Zl,⟨#[]⟩,some fb⟩ (ZQ fb Xa)).fs fb)=0∧(Zz ⟨0,Zl,⟨#[]⟩,some fb⟩ (ZQ fb Xa)).Small 1 ∧
  Z8 (Yw fb b (Zz ⟨0,Zl,⟨#[]⟩,some fb⟩ (ZQ fb Xa))).files Zn=none∧(Yw fb b (Zz ⟨0,Zl,⟨#[]⟩,some fb⟩ (ZQ fb Xa))).files.length=1∧Z4l (Yw fb b (Zz ⟨0,Zl,⟨#[]⟩,some fb⟩ (ZQ fb Xa))) b 2:=by
 have e1:(Zz ⟨0,Zl,⟨#[]⟩,some fb⟩ (ZQ fb Xa)).files=[(Zl,fb)]:=rfl
 have e2:Z8 [(Zl,fb)] Zl=some fb:=by unfold Z8;rw[if_pos rfl]
 have h1:=Z4N.born fb
 have hi:(Zz ⟨0,Zl,⟨#[]⟩,some fb⟩ (ZQ fb Xa)).Inj:=h1.step _ (fun g hg=>by
  cases hg
  exact ⟨⟨List.mem_cons_self,Va⟩,fun n hn=>by cases hn⟩)
 have hs:=Z0J.make Z7f hf
 have e3:ZB ((Zz ⟨0,Zl,⟨#[]⟩,some fb⟩ (ZQ fb Xa)).fs fb)=0:=by simp[Zz,ZQ,ZB]
 refine ⟨by rw[e1];exact e2,e3,hs,?_,rfl,⟨((Z7g.born fb).step _).app (by show (0:Int)≤0+1;decide) fb b,by simp only[Yw];show 0≤(0:Int)+1+1;decide,⟨hi.nd,hi.ids,hi.one,hi.rt⟩,⟨by show ([(Zl,fb)].map (·.1)).Nodup;simp,fun n g hn=>?_⟩,⟨fb,by show Z8 [(Zl,fb)] Zl=_;exact e2,?_⟩,hs.app (x:=Zl) (by rw[e1];exact e2) (by rw[e3];omega)⟩⟩
 ·show Z8 [(Zl,fb)] Zn=none
  unfold Z8
  rw[if_neg Rw]
  rfl
 ·change Z8 [(Zl,fb)] n=some g at hn
  unfold Z8 at hn
  split at hn
  ·rename_i e;exact .inl e.symm
  ·cases hn
 ·simp[Yw,Zz,ZQ,Zp]
theorem Z6B {A:Z4} {b c:List UInt8} (h:Z4l A b 2) (hn:Z8 A.files Zn=none) (hl:A.files.length=1) {fb:Nat} (hf:fb∉A.ids) (hc:c.length≤20000):Y4 A Zn=0∧Z8 (Zz ⟨0,Zn,⟨#[]⟩,some fb⟩ (ZQ fb A)).files Zn=some fb∧ZB ((Zz ⟨0,Zn,⟨#[]⟩,some fb⟩ (ZQ fb A)).fs fb)=0∧(Zz ⟨0,Zn,⟨#[]⟩,some fb⟩ (ZQ fb A)).Small 3 ∧
  Z4l (Yw fb c (Zz ⟨0,Zn,⟨#[]⟩,some fb⟩ (ZQ fb A))) b 4:=by
 have hmk:Y4 A Zn=0:=by
  unfold Y4
  rw[VR,hn]
  simp
  omega
 have h1:=h.inj.born fb
 have hnow:=h.now
 have ha:=fun n=>Xe ⟨0,Zn,⟨#[]⟩,some fb⟩ A.files h.inj.nd n
 have hi:(Zz ⟨0,Zn,⟨#[]⟩,some fb⟩ (ZQ fb A)).Inj:=h1.step _ (fun g hg=>by
  cases hg
  exact ⟨⟨List.mem_cons_self,VR⟩,fun n hn=>absurd (h.inj.ids n _ hn) hf⟩)
 have e2:Z8 (Zz ⟨0,Zn,⟨#[]⟩,some fb⟩ (ZQ fb A)).files Zn=some fb:=by
  show Z8 (ZU ⟨0,Zn,⟨#[]⟩,some fb⟩ A.files) Zn=some fb
  rw[ha]
  dsimp only
  rw[if_pos rfl]
 have e3:ZB ((Zz ⟨0,Zn,⟨#[]⟩,some fb⟩ (ZQ fb A)).fs fb)=0:=by simp[Zz,ZQ,ZB]
 have hs:=h.small.make hmk hf
 obtain ⟨f,hf1,hf2⟩:=h.lg
 refine ⟨hmk,e2,e3,hs,⟨((h.hist.born fb).step _).app (by show 0≤A.now+1;omega) fb c,by show 0≤A.now+1+1;omega,⟨hi.nd,hi.ids,hi.one,hi.rt⟩,h.two.step ⟨0,Zn,⟨#[]⟩,some fb⟩ (fun _=>.inr rfl),⟨f,?_,?_⟩,hs.app e2 (by rw[e3];omega)⟩⟩
 ·show Z8 (ZU ⟨0,Zn,⟨#[]⟩,some fb⟩ A.files) Zl=some f
  rw[ha]
  dsimp only
  rw[if_neg Rw,if_neg (by decide)]
  exact hf1
 ·have hne:f≠fb:=fun e=>hf (by rw[←e];exact h.inj.ids _ _ hf1)
  simp only[Yw,Zz,ZQ,if_neg hne]
  exact hf2
theorem YR.one {A:Z4} {f:Nat} {ld lu:List (List OpD)} (h:YR A f ld lu):A.files.length=1:=by
 have hs:∀ n∈A.files.map (·.1),n=Zl:=fun n hn=>by
  have h1:Z8 A.files n≠none:=fun e=>(WH A.files n).1 e hn
  cases h2:Z8 A.files n with
  | none=>exact absurd h2 h1
  | some g =>
   rcases h.two.2 n g h2 with e|e
   ·exact e
   ·rw[e,h.nn] at h2;cases h2
 have hnd:=h.two.1
 have hm:Zl∈A.files.map (·.1):=List.mem_map.2 ⟨(Zl,f),Wy h.lg,rfl⟩
 have:∀ l:List ByteArray,l.Nodup→(∀ n∈l,n=Zl)→Zl∈l→l.length=1:=by
  intro l hn ha hm
  cases l with
  | nil=>cases hm
  | cons x l =>
   cases l with
   | nil=>rfl
   | cons y l =>
    have h1:=ha x (by simp)
    have h2:=ha y (by simp)
    rw[h1,h2] at hn
    simp at hn
 have h9:=this _ hnd hs hm
 rwa [List.length_map] at h9
theorem YR.calm {A A':Z4} {f:Nat} {ld:List (List OpD)} (h:YR A f ld []) {nm torn:Int} {ks:List Bool} (hc:SG A (YU A (X5 A.now (A.now+1).toNat) nm) (X5 A.now (A.now+1).toNat) ks torn A') (hfb:A'.files=A'.base):∃ fb,Z8 A'.files Zl=some fb∧Zp (A'.fs fb)=Zp (A.fs f):=by
 rw[Rf h.now,Int.toNat_of_nonneg h.now] at hc
 have hn:=List.mem_singleton.1 (h.names nm)
 rw[hn] at hc
 obtain ⟨fb,h1,h2,h3⟩:=hc.has Zl f (Wy h.lg)
 obtain ⟨ds,us,e,s1,_,s3,_⟩:=h.pcs.split
 have hus:us=[]:=by simpa using s3
 subst hus
 rw[List.append_nil] at e
 refine ⟨fb,by rw[hfb];exact h1,?_⟩
 rw[h3,Z7d (fun p hp=>⟨(h.hist.pcs f h.fin p hp).1,(h.hist.pcs f h.fin p hp).2,s1 p (by rw[←e];exact hp)⟩)]
 simp[Zp]
theorem Z04 {A A':Z4} {M:List (ByteArray × Nat)} {at_ torn:Int} {ks:List Bool} (hc:SG A M at_ ks torn A') (hfb:A'.files=A'.base) (h2:Wo A'.base):A'.Small 2 :=
 ⟨by rw[hc.now];decide,by rw[hc.now];decide,by rw[hc.chg];simp,by rw[hc.syn];simp,fun f hf=>by have:=hc.ln f hf;omega,by rw[hfb];exact h2.len⟩
theorem Z4h (v:Value) (b:List UInt8) (other:Bool) (w:World) (h:Z0 u8c 1 w v b) (hg:Xy w):Calls Tryz.prog 8 #[v,.bool other] w fun e w'=>e=.returned (.bool true)∧Below w.heap.size w w':=by
 have h0:0<w.heap.size:=Zu hg
 obtain ⟨xa,xc,rfl,hxc,hxm,-⟩:=id h
 unfold maxLen at hxm
 obtain ⟨q,hq⟩:=Je (b.length)
 have HQ:=Lib.hid hq
 rw[hq] at h hxc ⊢
 have HH:=Jh (And.intro h hg)
 clear h hq hg
 by_cases hbig:20000<q
 ·have hb1:(20000:Int)<(q:Int):=by omega
  go_enter Tryz.func8,Tryz.ntmps8
  go_wp2_with fail
  refine (Z0m _ HH.out.2).mono ?_
  rintro e w1 ⟨rfl,hb⟩
  have HB:=Lib.hid hb
  clear hb
  go_wp2_with fail
  go_ret
  exact ⟨rfl,HB.out⟩
 have hb1:¬ (20000:Int)<(q:Int):=by omega
 have hbl:b.length≤20000:=by rw[HQ.out];omega
 have HBL:=Lib.hid hbl
 clear hbl
 go_enter Tryz.func8,Tryz.ntmps8
 go_wp2_with fail
 refine (Z0Z _ (Nat.le_refl _)).mono ?_
 rintro e w1 ⟨D,rfl,hd,hb,-⟩
 have HD:=Jh (And.intro hd (And.intro hb (HH.out.2.below hb)))
 clear hd hb
 go_wp2_with fail
 refine (Z0m _ HD.out.2.2).mono ?_
 rintro e w2 ⟨rfl,hb2⟩
 have T2:=Jh (Ze.below HD.out.1 hb2)
 have z2:=Nat.le_trans HD.out.2.1.size hb2.size
 clear hb2
 go_wp2_with fail
 refine (Sw T2.out.is_ z2 Zl (by decide) (by decide) (by decide)).mono ?_
 rintro e w3 ⟨rfl,hp⟩
 rw[Z7f] at hp ⊢
 rcases hp with ⟨hno,_⟩|⟨_,fb,D3,hfb,ht3⟩
 ·exact absurd rfl hno
 have T3:=Jh (T2.out.trans ht3)
 have P3:=Jh (Z6k hfb HBL.out)
 have z3:=Nat.le_trans z2 ht3.ext.size
 have hv3:Z0 u8c 1 w3 (.slice xa b.length xc) b:=by
  rw[HQ.out]
  exact HH.out.1.below (T3.out.frame HD.out.1 HD.out.2.1 (Nat.le_refl _) HD.out.2.1.size)
 rw[HQ.out] at hv3
 have HV3:=Lib.hid hv3
 clear ht3 hv3
 go_wp2_with fail
 rw[show D.pb=D3.pb from T3.out.pb.symm]
 refine (UG T3.out.is_ z3 Zl _ b HV3.out (by have:=HBL.out;omega) P3.out.2.2.1 (by omega)).mono ?_
 rintro e w4 hp
 unfold TX at hp
 rcases hp with ⟨hno,_⟩|⟨f,hf,hbg,_⟩|⟨f,D4,hf,_,rfl,ht4⟩
 ·rw[P3.out.1] at hno;cases hno
 ·rw[P3.out.1] at hf;cases hf
  have h5:=P3.out.2.1
  have h6:=HBL.out
  omega
 rw[P3.out.1] at hf
 cases hf
 have T4:=Jh (T3.out.trans ht4)
 have z4:=Nat.le_trans z3 ht4.ext.size
 clear ht4
 cases other with
 | false =>
  have P4:=Jh (show Z4l (Yw fb b (Zz ⟨0,Zl,⟨#[]⟩,some fb⟩ (ZQ fb Xa))) b 4 from ⟨P3.out.2.2.2.2.2.hist,P3.out.2.2.2.2.2.now,P3.out.2.2.2.2.2.inj,P3.out.2.2.2.2.2.two,P3.out.2.2.2.2.2.lg,P3.out.2.2.2.2.2.small.mono (by omega)⟩)
  obtain ⟨A7,hA7⟩:=Je (Yw fb b (Zz ⟨0,Zl,⟨#[]⟩,some fb⟩ (ZQ fb Xa)))
  rw[hA7] at T4 P4
  clear hA7
  obtain ⟨D7,hD7⟩:=Je (D4)
  rw[hD7] at T4
  clear hD7
  have HV4:=Jh (HH.out.1.below (T4.out.frame HD.out.1 HD.out.2.1 (Nat.le_refl _) HD.out.2.1.size))
  go_wp2_with fail
  refine (Z1S _ b _ HV4.out (by have:=HBL.out;omega)).mono ?_
  rintro e w7 hp
  unfold TD at hp
  obtain ⟨vr,rfl,hbat,hb7⟩:=hp
  have T7:=Jh (T4.out.trans (Ze.below T4.out.is_ hb7))
  have z7:=Nat.le_trans z4 hb7.size
  have HBA:=Jh (hbat.mono z4)
  have HV7:=Jh (HV4.out.below hb7)
  have P7:=Lib.hid P4.out
  have G7:=Jh (T7.out.errTy HD.out.1 h0 HD.out.2.2)
  have B7:=Jh (T7.out.frame HD.out.1 HD.out.2.1 (Nat.le_refl _) HD.out.2.1.size)
  have hlen:A7.files.length≤7:=by have:=P7.out.two.len;omega
  clear hbat hb7
  go_wp2_with fail
  rw[show D3.pb=D7.pb from (T7.out.pb.trans T3.out.pb.symm).symm]
  refine (SZ T7.out.is_ z7 P7.out.small (by omega) hlen G7.out h0).mono ?_
  rintro e w8 hp
  unfold QA at hp
  obtain ⟨lb,D8,A8,vo,L,rfl,hop,ht8,hl8⟩:=hp
  obtain ⟨f8,ld,hst,hflat,-,hld⟩:=hop.steady P7.out.hist P7.out.now P7.out.inj P7.out.two
  have S8:=Jh (hop.small P7.out.small hlen P7.out.inj T7.out.is_.ok.sz)
  obtain ⟨fl,hfl1,hfl2⟩:=P7.out.lg
  have hld2:=hld fl hfl1
  rw[hfl2] at hld2
  subst hld2
  have HST:=Lib.hid hst
  have HL:Hid (L=(Xc b).flatten):=Lib.hid hflat.symm
  have T8:=Jh (T7.out.trans ht8)
  have z8:=Nat.le_trans z7 ht8.ext.size
  have HLG:=Lib.hid hl8
  have HBA8:Hid (Xx w.heap.size w8 vr (Xc b)):=Jh (by
   obtain ⟨ss,k1,k2,k3⟩:=HBA.out
   exact ⟨ss,k1.ext ht8.ext (fun x hx hf=>(by unfold WE;decide:¬ WE (some 24)) (by rw[←Zk k1 hx];exact T7.out.is_.dtag hf)),k2,fun i s l hs hl=>(k3 i s l hs hl).ext ht8.ext (fun x hx hf=>Qz (by rw[←Zk (k3 i s l hs hl) hx];exact T7.out.is_.dtag hf))⟩)
  have hLn:L.length≤20000000:=by
   have h5:=WS b
   have h6:=VL (Xc b) h5.1
   have h7:=Rr b
   unfold XD at h7
   have h8:=HBL.out
   rw[HL.out]
   omega
  have B8:=Jh (T8.out.frame HD.out.1 HD.out.2.1 (Nat.le_refl _) HD.out.2.1.size)
  have HV8:=Jh (HH.out.1.below B8.out)
  clear hop ht8 hl8 hst hflat hld hfl1 hfl2 hlen
  go_wp2_with fail
  refine (UQ HLG.out (by omega)).mono ?_
  rintro e w9 ⟨v9,rfl,ho9,hb9⟩
  have T9:=Jh (T8.out.trans (Ze.below T8.out.is_ hb9))
  have HO9:=Lib.hid ho9
  have HLG9:=Jh (HLG.out.below hb9)
  have HBA9:=Jh (HBA8.out.below hb9)
  obtain ⟨sv9,hsv9⟩:=ho9.slv
  subst hsv9
  clear ho9 hb9
  go_wp2_with fail
  refine (Z1v _ (Xc b) _ HBA9.out.s (by rw[←HL.out];omega)).mono ?_
  rintro e w10 ⟨v10,rfl,ho10,hb10⟩
  have T10:=Jh (T9.out.trans (Ze.below T9.out.is_ hb10))
  have HO10:=Jh (And.intro (HO9.out.below1 hb10) ho10)
  have HLG10:=Jh (HLG9.out.below hb10)
  obtain ⟨sv10,hsv10⟩:=ho10.slv
  subst hsv10
  clear ho10 hb10
  go_wp2_with fail
  refine (Z1p _ _ L (Xc b).flatten _ (HO10.out.1.slice OpD.len) (HO10.out.2.slice OpD.len)).mono ?_
  rintro e w11 ⟨rfl,hb11⟩
  rw[HL.out,decide_eq_true (rfl:(Xc b).flatten=(Xc b).flatten)]
  have T11:=Jh (T10.out.trans (Ze.below T10.out.is_ hb11))
  have HLG11:=Jh (HLG10.out.below hb11)
  clear hb11
  go_wp2_with fail
  rw[show D7.pb=D8.pb from T8.out.pb.trans T7.out.pb.symm |>.symm]
  refine (U8 T11.out.is_ Zl S8.out (by omega)).mono ?_
  rintro e w12 hp
  unfold Vs at hp
  rcases hp with ⟨hno,_⟩|⟨g,v12,hg12,rfl,ho12,hb12⟩
  ·rw[HST.out.lg] at hno;cases hno
  rw[HST.out.lg] at hg12
  cases hg12
  have T12:=Jh (T11.out.trans (Ze.below T11.out.is_ hb12))
  have HLG12:=Jh (HLG11.out.below hb12)
  have hby:Zp (A8.fs f8)=b.take (XD b):=by
   rw[HST.out.pcs.bytes,List.append_nil,R9]
  rw[hby] at ho12
  have HBY:=Lib.hid hby
  have HO12:=Lib.hid ho12
  obtain ⟨sv12,hsv12⟩:=ho12.slv
  subst hsv12
  have B12:=Jh (T12.out.frame HD.out.1 HD.out.2.1 (Nat.le_refl _) HD.out.2.1.size)
  have hnb:XD b≤q:=by have:=Rr b;rw[HQ.out] at this;exact this
  obtain ⟨n,hn⟩:=Je (XD b)
  have HN:=Lib.hid hn
  rw[hn] at hnb ⊢
  obtain ⟨a2,hsl2,hS2⟩:=Ye (P:=Tryz.prog) (ea:=u8c) Tryz.underlying22 Zh xa q xc n hxc hnb
  have HS2:=Lib.hid hS2
  clear hby ho12 hb12 hn hS2
  go_wp2_with fail
  refine (Te (HO12.out.slice Z6) (HS2.out _ b HQ.out (HH.out.1.below B12.out))).mono ?_
  rintro e w13 ⟨rfl,rfl⟩
  rw[HN.out,decide_eq_true (rfl:b.take n=b.take n)]
  go_wp2_with fail
  refine (RT T12.out.is_).mono ?_
  rintro e w14 ⟨rfl,rfl⟩
  go_wp2_with fail
  refine (Z41 T12.out.is_ B12.out.size A8.now 0 0 [] _ ⟨_,0,rfl,Nat.le_refl _,by unfold maxLen;omega,fun h=>absurd rfl h⟩ (by have:=HST.out.now;omega) (by have:=S8.out.now;omega) (by omega) (by omega) (by omega) (by omega) S8.out (by omega)).mono ?_
  rintro e w15 hp
  unfold RB at hp
  obtain ⟨D15,A15,rfl,hd15,hfb15,hc15,hb15⟩:=hp
  obtain ⟨g15,hg15,hy15⟩:=HST.out.calm hc15 hfb15
  have htwo:Wo A15.base:=by
   have h5:=(HST.out.st (S:=fun _=>True) (fun _ _=>trivial)).d.cut (UB.refl A8) (by rw[Rf HST.out.now,Int.toNat_of_nonneg HST.out.now] at hc15;exact hc15) hd15.mbase.1
   obtain ⟨_,_,_,_,_,_,h6⟩:=h5
   exact h6
  have S15:=Jh (Z04 hc15 hfb15 htwo)
  have HG15:=Jh (And.intro hg15 (hy15.trans HBY.out))
  have HD15:=Lib.hid hd15
  have T15:=Jh (T12.out.trans (Ze.below T12.out.is_ hb15))
  have HLG15:=Jh (HLG12.out.below hb15)
  have HB15:=Lib.hid hb15
  clear hd15 hfb15 hc15 hb15 hg15 hy15 htwo
  go_wp2_with fail
  refine (U8 HD15.out Zl S15.out (by omega)).mono ?_
  rintro e w16 hp
  unfold Vs at hp
  rcases hp with ⟨hno,_⟩|⟨g,v16,hg16,rfl,ho16,hb16⟩
  ·rw[HG15.out.1] at hno;cases hno
  rw[HG15.out.1] at hg16
  cases hg16
  rw[HG15.out.2] at ho16
  have T16:=Jh (T15.out.trans (Ze.below T15.out.is_ hb16))
  have HLG16:=Jh (HLG15.out.below hb16)
  have HO16:=Lib.hid ho16
  obtain ⟨sv16,hsv16⟩:=ho16.slv
  subst hsv16
  have B16:=Jh (T16.out.frame HD.out.1 HD.out.2.1 (Nat.le_refl _) HD.out.2.1.size)
  clear ho16 hb16
  go_wp2_with fail
  refine (Te (HO16.out.slice Z6) (HS2.out _ b HQ.out (HH.out.1.below B16.out))).mono ?_
  rintro e w17 ⟨rfl,rfl⟩
  rw[HN.out,decide_eq_true (rfl:b.take n=b.take n)]
  go_wp2_with fail
  refine (TE T16.out.is_ (by rw[HST.out.one];omega)).mono ?_
  rintro e w18 ⟨v18,rfl,ho18,hb18⟩
  obtain ⟨a18,c18,hv18,-,-,-⟩:=ho18.slice VZ
  have hone:(XE A8).length=1:=by rw[QY,HST.out.one]
  rw[hone] at hv18
  subst hv18
  have T18:=Jh (T16.out.trans (Ze.below T16.out.is_ hb18))
  have HLG18:=Jh (HLG16.out.below hb18)
  clear ho18 hb18 hone
  go_wp2_with fail
  refine (TP HLG18.out).mono ?_
  rintro e w19 ⟨rfl,rfl⟩
  go_wp2_with fail
  refine (UQ HLG18.out (by omega)).mono ?_
  rintro e w20 ⟨v20,rfl,ho20,hb20⟩
  obtain ⟨a20,c20,hv20,-,-,-⟩:=ho20.slice OpD.len
  subst hv20
  have T20:=Jh (T18.out.trans (Ze.below T18.out.is_ hb20))
  clear ho20 hb20
  go_wp2_with fail
  go_ret
  exact ⟨rfl,T20.out.frame HD.out.1 HD.out.2.1 (Nat.le_refl _) HD.out.2.1.size⟩
 | true =>
  go_wp2_with fail
  rw[show D3.pb=D4.pb from (T4.out.pb.trans T3.out.pb.symm).symm]
  have P4:=P3.out.2.2.2.2.2
  refine (Sw T4.out.is_ z4 Zn P4.small.now0 (by have:=P4.small.now;omega) (by have:=P4.small.chg;omega)).mono ?_
  rintro e w5 ⟨rfl,hp⟩
  have hmk:Y4 (Yw fb b (Zz ⟨0,Zl,⟨#[]⟩,some fb⟩ (ZQ fb Xa))) Zn=0:=by
   unfold Y4
   rw[VR,P3.out.2.2.2.1]
   have:=P3.out.2.2.2.2.1
   simp
   omega
  rw[hmk] at hp ⊢
  rcases hp with ⟨hno,_⟩|⟨_,fc,D5,hfc,ht5⟩
  ·exact absurd rfl hno
  have P5:=Jh (Z6B P4 P3.out.2.2.2.1 P3.out.2.2.2.2.1 hfc HBL.out)
  have T5:=Jh (T4.out.trans ht5)
  have z5:=Nat.le_trans z4 ht5.ext.size
  have hv5:Z0 u8c 1 w5 (.slice xa q xc) b:=HH.out.1.below (T5.out.frame HD.out.1 HD.out.2.1 (Nat.le_refl _) HD.out.2.1.size)
  have HV5:=Lib.hid hv5
  clear ht5 hv5 hmk hfc
  go_wp2_with fail
  rw[show D4.pb=D5.pb from (T5.out.pb.trans T4.out.pb.symm).symm]
  refine (UG T5.out.is_ z5 Zn _ b HV5.out (by have:=HBL.out;omega) P5.out.2.2.2.1 (by omega)).mono ?_
  rintro e w6 hp
  unfold TX at hp
  rcases hp with ⟨hno,_⟩|⟨f,hf,hbg,_⟩|⟨f,D7,hf,_,rfl,ht6⟩
  ·rw[P5.out.2.1] at hno;cases hno
  ·rw[P5.out.2.1] at hf;cases hf
   have h5:=P5.out.2.2.1
   have h6:=HBL.out
   omega
  rw[P5.out.2.1] at hf
  cases hf
  have T6:=Jh (T5.out.trans ht6)
  have z6:=Nat.le_trans z5 ht6.ext.size
  have P6:=Lib.hid P5.out.2.2.2.2
  clear ht6 P4
  obtain ⟨A7,hA7⟩:=Je (Yw fc b (Zz ⟨0,Zn,⟨#[]⟩,some fc⟩ (ZQ fc (Yw fb b (Zz ⟨0,Zl,⟨#[]⟩,some fb⟩ (ZQ fb Xa))))))
  rw[hA7] at T6 P6
  clear hA7
  have HV6:=Jh (HH.out.1.below (T6.out.frame HD.out.1 HD.out.2.1 (Nat.le_refl _) HD.out.2.1.size))
  go_wp2_with fail
  refine (Z1S _ b _ HV6.out (by have:=HBL.out;omega)).mono ?_
  rintro e w7 hp
  unfold TD at hp
  obtain ⟨vr,rfl,hbat,hb7⟩:=hp
  have T7:=Jh (T6.out.trans (Ze.below T6.out.is_ hb7))
  have z7:=Nat.le_trans z6 hb7.size
  have HBA:=Jh (hbat.mono z6)
  have HV7:=Jh (HV6.out.below hb7)
  have P7:=Lib.hid P6.out
  have G7:=Jh (T7.out.errTy HD.out.1 h0 HD.out.2.2)
  have B7:=Jh (T7.out.frame HD.out.1 HD.out.2.1 (Nat.le_refl _) HD.out.2.1.size)
  have hlen:A7.files.length≤7:=by have:=P7.out.two.len;omega
  clear hbat hb7
  go_wp2_with fail
  rw[show D5.pb=D7.pb from (T7.out.pb.trans T5.out.pb.symm).symm]
  refine (SZ T7.out.is_ z7 P7.out.small (by omega) hlen G7.out h0).mono ?_
  rintro e w8 hp
  unfold QA at hp
  obtain ⟨lb,D8,A8,vo,L,rfl,hop,ht8,hl8⟩:=hp
  obtain ⟨f8,ld,hst,hflat,-,hld⟩:=hop.steady P7.out.hist P7.out.now P7.out.inj P7.out.two
  have S8:=Jh (hop.small P7.out.small hlen P7.out.inj T7.out.is_.ok.sz)
  obtain ⟨fl,hfl1,hfl2⟩:=P7.out.lg
  have hld2:=hld fl hfl1
  rw[hfl2] at hld2
  subst hld2
  have HST:=Lib.hid hst
  have HL:Hid (L=(Xc b).flatten):=Lib.hid hflat.symm
  have T8:=Jh (T7.out.trans ht8)
  have z8:=Nat.le_trans z7 ht8.ext.size
  have HLG:=Lib.hid hl8
  have HBA8:Hid (Xx w.heap.size w8 vr (Xc b)):=Jh (by
   obtain ⟨ss,k1,k2,k3⟩:=HBA.out
   exact ⟨ss,k1.ext ht8.ext (fun x hx hf=>(by unfold WE;decide:¬ WE (some 24)) (by rw[←Zk k1 hx];exact T7.out.is_.dtag hf)),k2,fun i s l hs hl=>(k3 i s l hs hl).ext ht8.ext (fun x hx hf=>Qz (by rw[←Zk (k3 i s l hs hl) hx];exact T7.out.is_.dtag hf))⟩)
  have hLn:L.length≤20000000:=by
   have h5:=WS b
   have h6:=VL (Xc b) h5.1
   have h7:=Rr b
   unfold XD at h7
   have h8:=HBL.out
   rw[HL.out]
   omega
  have B8:=Jh (T8.out.frame HD.out.1 HD.out.2.1 (Nat.le_refl _) HD.out.2.1.size)
  have HV8:=Jh (HH.out.1.below B8.out)
  clear hop ht8 hl8 hst hflat hld hfl1 hfl2 hlen
  go_wp2_with fail
  refine (UQ HLG.out (by omega)).mono ?_
  rintro e w9 ⟨v9,rfl,ho9,hb9⟩
  have T9:=Jh (T8.out.trans (Ze.below T8.out.is_ hb9))
  have HO9:=Lib.hid ho9
  have HLG9:=Jh (HLG.out.below hb9)
  have HBA9:=Jh (HBA8.out.below hb9)
  obtain ⟨sv9,hsv9⟩:=ho9.slv
  subst hsv9
  clear ho9 hb9
  go_wp2_with fail
  refine (Z1v _ (Xc b) _ HBA9.out.s (by rw[←HL.out];omega)).mono ?_
  rintro e w10 ⟨v10,rfl,ho10,hb10⟩
  have T10:=Jh (T9.out.trans (Ze.below T9.out.is_ hb10))
  have HO10:=Jh (And.intro (HO9.out.below1 hb10) ho10)
  have HLG10:=Jh (HLG9.out.below hb10)
  obtain ⟨sv10,hsv10⟩:=ho10.slv
  subst hsv10
  clear ho10 hb10
  go_wp2_with fail
  refine (Z1p _ _ L (Xc b).flatten _ (HO10.out.1.slice OpD.len) (HO10.out.2.slice OpD.len)).mono ?_
  rintro e w11 ⟨rfl,hb11⟩
  rw[HL.out,decide_eq_true (rfl:(Xc b).flatten=(Xc b).flatten)]
  have T11:=Jh (T10.out.trans (Ze.below T10.out.is_ hb11))
  have HLG11:=Jh (HLG10.out.below hb11)
  clear hb11
  go_wp2_with fail
  rw[show D7.pb=D8.pb from T8.out.pb.trans T7.out.pb.symm |>.symm]
  refine (U8 T11.out.is_ Zl S8.out (by omega)).mono ?_
  rintro e w12 hp
  unfold Vs at hp
  rcases hp with ⟨hno,_⟩|⟨g,v12,hg12,rfl,ho12,hb12⟩
  ·rw[HST.out.lg] at hno;cases hno
  rw[HST.out.lg] at hg12
  cases hg12
  have T12:=Jh (T11.out.trans (Ze.below T11.out.is_ hb12))
  have HLG12:=Jh (HLG11.out.below hb12)
  have hby:Zp (A8.fs f8)=b.take (XD b):=by
   rw[HST.out.pcs.bytes,List.append_nil,R9]
  rw[hby] at ho12
  have HBY:=Lib.hid hby
  have HO12:=Lib.hid ho12
  obtain ⟨sv12,hsv12⟩:=ho12.slv
  subst hsv12
  have B12:=Jh (T12.out.frame HD.out.1 HD.out.2.1 (Nat.le_refl _) HD.out.2.1.size)
  have hnb:XD b≤q:=by have:=Rr b;rw[HQ.out] at this;exact this
  obtain ⟨n,hn⟩:=Je (XD b)
  have HN:=Lib.hid hn
  rw[hn] at hnb ⊢
  obtain ⟨a2,hsl2,hS2⟩:=Ye (P:=Tryz.prog) (ea:=u8c) Tryz.underlying22 Zh xa q xc n hxc hnb
  have HS2:=Lib.hid hS2
  clear hby ho12 hb12 hn hS2
  go_wp2_with fail
  refine (Te (HO12.out.slice Z6) (HS2.out _ b HQ.out (HH.out.1.below B12.out))).mono ?_
  rintro e w13 ⟨rfl,rfl⟩
  rw[HN.out,decide_eq_true (rfl:b.take n=b.take n)]
  go_wp2_with fail
  refine (RT T12.out.is_).mono ?_
  rintro e w14 ⟨rfl,rfl⟩
  go_wp2_with fail
  refine (Z41 T12.out.is_ B12.out.size A8.now 0 0 [] _ ⟨_,0,rfl,Nat.le_refl _,by unfold maxLen;omega,fun h=>absurd rfl h⟩ (by have:=HST.out.now;omega) (by have:=S8.out.now;omega) (by omega) (by omega) (by omega) (by omega) S8.out (by omega)).mono ?_
  rintro e w15 hp
  unfold RB at hp
  obtain ⟨D15,A15,rfl,hd15,hfb15,hc15,hb15⟩:=hp
  obtain ⟨g15,hg15,hy15⟩:=HST.out.calm hc15 hfb15
  have htwo:Wo A15.base:=by
   have h5:=(HST.out.st (S:=fun _=>True) (fun _ _=>trivial)).d.cut (UB.refl A8) (by rw[Rf HST.out.now,Int.toNat_of_nonneg HST.out.now] at hc15;exact hc15) hd15.mbase.1
   obtain ⟨_,_,_,_,_,_,h6⟩:=h5
   exact h6
  have S15:=Jh (Z04 hc15 hfb15 htwo)
  have HG15:=Jh (And.intro hg15 (hy15.trans HBY.out))
  have HD15:=Lib.hid hd15
  have T15:=Jh (T12.out.trans (Ze.below T12.out.is_ hb15))
  have HLG15:=Jh (HLG12.out.below hb15)
  have HB15:=Lib.hid hb15
  clear hd15 hfb15 hc15 hb15 hg15 hy15 htwo
  go_wp2_with fail
  refine (U8 HD15.out Zl S15.out (by omega)).mono ?_
  rintro e w16 hp
  unfold Vs at hp
  rcases hp with ⟨hno,_⟩|⟨g,v16,hg16,rfl,ho16,hb16⟩
  ·rw[HG15.out.1] at hno;cases hno
  rw[HG15.out.1] at hg16
  cases hg16
  rw[HG15.out.2] at ho16
  have T16:=Jh (T15.out.trans (Ze.below T15.out.is_ hb16))
  have HLG16:=Jh (HLG15.out.below hb16)
  have HO16:=Lib.hid ho16
  obtain ⟨sv16,hsv16⟩:=ho16.slv
  subst hsv16
  have B16:=Jh (T16.out.frame HD.out.1 HD.out.2.1 (Nat.le_refl _) HD.out.2.1.size)
  clear ho16 hb16
  go_wp2_with fail
  refine (Te (HO16.out.slice Z6) (HS2.out _ b HQ.out (HH.out.1.below B16.out))).mono ?_
  rintro e w17 ⟨rfl,rfl⟩
  rw[HN.out,decide_eq_true (rfl:b.take n=b.take n)]
  go_wp2_with fail
  refine (TE T16.out.is_ (by rw[HST.out.one];omega)).mono ?_
  rintro e w18 ⟨v18,rfl,ho18,hb18⟩
  obtain ⟨a18,c18,hv18,-,-,-⟩:=ho18.slice VZ
  have hone:(XE A8).length=1:=by rw[QY,HST.out.one]
  rw[hone] at hv18
  subst hv18
  have T18:=Jh (T16.out.trans (Ze.below T16.out.is_ hb18))
  have HLG18:=Jh (HLG16.out.below hb18)
  clear ho18 hb18 hone
  go_wp2_with fail
  refine (TP HLG18.out).mono ?_
  rintro e w19 ⟨rfl,rfl⟩
  go_wp2_with fail
  refine (UQ HLG18.out (by omega)).mono ?_
  rintro e w20 ⟨v20,rfl,ho20,hb20⟩
  obtain ⟨a20,c20,hv20,-,-,-⟩:=ho20.slice OpD.len
  subst hv20
  have T20:=Jh (T18.out.trans (Ze.below T18.out.is_ hb20))
  clear ho20 hb20
  go_wp2_with fail
  go_ret
  exact ⟨rfl,T20.out.frame HD.out.1 HD.out.2.1 (Nat.le_refl _) HD.out.2.1.size⟩
end Go.Proofs.YtgmdimbiipemhaaGreatDoor
namespace Go.Proofs.YtgmdimbiipemhaaGreatDoor
open Go.ChangeShapes Go.WideShapes Go.ChangeAt Go.RowKit
def Uy : List (String × DataW Unit) := [("unicode/utf8.acceptRanges", Rows.laid_unicode_utf8_acceptRanges), ("unicode/utf8.first", Rows.laid_unicode_utf8_first)]
def Z7i : List (String × DataW Unit) := [("errors.errorType", Rows.laid_errors_errorType)]
def Sr : List (String × DataW Unit) := [("unicode/utf8.acceptRanges", Rows.laid_unicode_utf8_acceptRanges), ("errors.errorType", Rows.laid_errors_errorType), ("unicode/utf8.first", Rows.laid_unicode_utf8_first)]
theorem Z1B:(Sr.filter fun x=>x.2.handleName?.isNone)=Uy:=by kernel_rfl
theorem Z1D:(Sr.filter fun x=>x.2.handleName?.isSome)=Z7i:=by kernel_rfl
theorem Tryz.et : Tryz.prog.globalNamed "errors.errorType" = some 0 := by kernel_rfl
theorem Tryz.rt : (Tryz.prog.cutTypes.find? (·.1 == "internal/reflectlite.rtype")).map (·.2) = some 234 := by kernel_rfl
theorem Tryz.oneRow:((List.range Tryz.prog.types.size).filter fun t=>Tryz.prog.rowNamed t [101,114,114,111,114])=[94]:=by kernel_rfl
theorem Z20 {W:World} (h:laidMetH Tryz.prog Sr W):Xy W:=by
 have h2:handlesMet Tryz.prog Z7i W:=by
  unfold laidMetH at h
  rw[Z1D,Z1B] at h
  exact h.2
 obtain ⟨name,u,ty,e1,e2,e3,e4,e5⟩:=h2 _ (List.mem_singleton.2 rfl)
 have en:name=[101,114,114,111,114]:=(Option.some.inj e1).symm
 subst en
 obtain rfl:=Option.some.inj (Tryz.rt.symm.trans e2)
 have hm:ty∈(List.range Tryz.prog.types.size).filter fun t=>Tryz.prog.rowNamed t [101,114,114,111,114]:=List.mem_filter.2 ⟨List.mem_range.2 e3,e4⟩
 rw[Tryz.oneRow] at hm
 obtain rfl:=List.mem_singleton.1 hm
 have hh:typeHandle Tryz.prog 94=.pointer (some ⟨5,94,none⟩):=by kernel_rfl
 rw[hh] at e5
 unfold Xy
 simpa using World.var?_cell Tryz.et e5 0
noncomputable def Z5F (os:Os):World :=
 let w0:=World.holding Tryz.prog os ⟨#[],#[],[]⟩
 { w0 with heap:=w0.heap.modify 0 fun
   | .cells _ t frozen=>.cells #[.iface 234 (.agg #[.pointer (some ⟨5,94,none⟩)])] t frozen
   | o=>o }
noncomputable def Z0k (os:Os):World:=(Z5F os).layVars Tryz.prog Uy
theorem Z54 (os:Os):(Z0k os).os=os:=World.layVars_os _ _ _
theorem Z4W (os:Os) (args:Array Value):laidMetH Tryz.prog Sr ((Z0k os).forCall (fun _ _=>0) ⟨#[],args,[]⟩).memory:=by
 refine laidMetH_of_parts ?_ (by rw[Z1D];kernel_rfl)
 rw[Z1B]
 have e1:(Uy.filter fun x=>(Uy.map (·.1)).contains x.1)=Uy:=List.filter_eq_self.2 fun x hx=>List.contains_iff_mem.2 (List.mem_map.2 ⟨x,hx,rfl⟩)
 have e2:(Uy.filter fun x=>!(Uy.map (·.1)).contains x.1)=[]:=List.filter_eq_nil_iff.2 fun x hx=>by rw[List.contains_iff_mem.2 (List.mem_map.2 ⟨x,hx,rfl⟩)];simp
 have h:laidMet Tryz.prog Uy (Z0k os):=laidMet_layVars (w0:=Z5F os) (Uy.map (·.1)) [] (by rw[e1];rfl) (by rw[e1];kernel_rfl) (by rw[e1];kernel_rfl) (by rw[e2];exact LaidIn.none)
 exact h.of_heap (by simp[World.memory,World.forCall,Input.heap])
end Go.Proofs.YtgmdimbiipemhaaGreatDoor
namespace Go.Proofs.YtgmdimbiipemhaaGreatDoor
open Go.ChangeShapes Go.WideShapes Go.RowKit Go.Deep
section
variable {H:Type} {enc:TypeId × Value→H} {P:Program} {w:World} {base:Nat} {spare:Nat→Bool} {held:Bool}
theorem Z37 {α:Type} {ea:α→List Value} {k:Nat} {t e:TypeId} {fuel:Nat} {cs:List Value} {x:DataW H × List MemPlace} {p:α→Prop} (ht:P.underlying t=some (.slice e)) (hk:P.cellsOf e=k) (hk0:0<k) (hlen:∀ x,(ea x).length=k)
  (hel:∀ fuel cs x,DataW.trod enc P w base spare held fuel e cs=some x→∃ y,cs=ea y∧p y) (h:DataW.trod enc P w base spare held fuel t cs=some x):∃ v l,cs=[v]∧Z0 ea k w v l∧∀ y∈l,p y:=by
 rcases open_slice ht h with ⟨hcs,_⟩|⟨a,len0,cap0,m,n,D,Pl,hcs,hb,hl,hm,hmm,hx,hi⟩
 ·exact ⟨_,[],hcs,⟨none,0,rfl,Nat.le_refl _,Nat.zero_le _,fun hn=>absurd rfl hn⟩,fun y hy=>by cases hy⟩
 ·have hlm:len0≤m:=by rw[hmm];split <;> omega
  obtain ⟨l,h1,h2⟩:=RZ (p:=fun i (x:α)=>(∀ j u,(ea x)[j]?=some u→w.cell? (a.add (i*k+j))=some u)∧p x) len0 (fun i hi'=>by
   obtain ⟨cs',hc,ht'⟩:=hi i (by omega)
   obtain ⟨y,rfl,hp⟩:=hel _ _ _ ht'
   refine ⟨y,fun j u hj=>?_,hp⟩
   obtain ⟨_,hcl,hat⟩:=World.cells?_some hc
   have hjl:=(List.getElem?_eq_some_iff.1 hj).1
   rw[hlen] at hjl
   have:=hat j (by rw[hk];exact hjl)
   rw[hk,Go.Deep.add_add,hj] at this
   exact this)
  subst h1
  refine ⟨_,l,hcs,⟨some a,cap0,rfl,hl,hm,fun hne=>?_⟩,fun y hy=>?_⟩
  ·obtain ⟨x0,hx0⟩:∃ x0,l[0]?=some x0:=by
    cases l with
    | nil=>exact absurd rfl hne
    | cons x r=>exact ⟨x,rfl⟩
   obtain ⟨u0,hu0⟩:∃ u0,(ea x0)[0]?=some u0:=by
    have:=hlen x0
    cases hq:ea x0 with
    | nil=>rw[hq] at this;simp at this;omega
    | cons x r=>exact ⟨x,rfl⟩
   have hz:=(h2 0 x0 hx0).1 0 u0 hu0
   obtain ⟨b,off,spot⟩:=a
   have hspot:spot=none:=by
    simp[Addr.add,World.cell?] at hz
    cases spot with
    | none=>rfl
    | some s=>simp at hz;split at hz <;> simp at hz
   subst hspot
   refine ⟨b,off,rfl,fun i x hi' j u hj=>?_⟩
   have:=(h2 i x hi').1 j u hj
   have e:(Addr.add ⟨b,off,none⟩ (i*k+j))=⟨b,off+i*k+j,none⟩:=by
    unfold Addr.add
    split
    ·rename_i h0;have:i*k=0∧j=0:=by omega
     simp[this.1,this.2]
    ·simp[Nat.add_assoc]
   rw[e] at this
   exact this
  ·obtain ⟨i,hi'⟩:=List.getElem?_of_mem hy
   exact (h2 i y hi').2
end
section
variable {H:Type} {enc:TypeId × Value→H} {w:World} {base:Nat} {spare:Nat→Bool} {held:Bool}
theorem Z7s {fuel:Nat} {cs:List Value} {x:DataW H × List MemPlace} (h:DataW.trod enc Tryz.prog w base spare held fuel 5 cs=some x):∃ y:UInt8,cs=u8c y∧True:=by
 obtain ⟨p,hp,_,hw⟩:=DataW.trod_int (k:=.u8) (by kernel_rfl:Tryz.prog.underlying 5=some (.int .u8)) h
 have hb:0≤p∧p<256:=by
  have e1:IntKind.u8.min=0:=by decide
  have e2:IntKind.u8.max=255:=by decide
  simp[Lit.wf,e1,e2] at hw
  omega
 refine ⟨UInt8.ofNat p.toNat,?_,trivial⟩
 rw[hp,u8c]
 congr 2
 simp
 omega
theorem Z3D {r:Reach} {b0:Nat} {v:Value} {d:DataW H} {p:List MemPlace} (hv:Value.okWide Tryz.prog w r b0 22 v) (h:DataW.Trod enc Tryz.prog w base spare held 22 v d p):∃ l,Z0 u8c 1 w v l:=by
 obtain ⟨a0,len0,cap0,rfl⟩:=okWide_slice Tryz.underlying22 hv
 obtain ⟨fuel,hf⟩:=h
 obtain ⟨v',l,hcs,hl,hp⟩:=Z37 (ea:=u8c) (k:=1) (p:=fun _=>True) Tryz.underlying22 (by kernel_rfl) (by omega) Z6 (fun _ _ _ h=>Z7s h) hf
 simp[Value.cells] at hcs
 subst hcs
 exact ⟨l,hl⟩
end
end Go.Proofs.YtgmdimbiipemhaaGreatDoor
namespace Go.Proofs.YtgmdimbiipemhaaGreatDoor
open Go Go.ChangeShapes Go.WideShapes Go.ChangeAt Go.RowKit
theorem RH (os:Os) (started:os.Started) (H:Type) (enc:TypeId × Value→H) :
  ReturnsInHanded {} Tryz.checked os 8 .any (fun w args=>(Rows.oplogReadsSpec.pre enc Tryz.prog Tryz.f8 [] false w args∧laidMetH Tryz.prog Sr w)∧sizedMet enc Tryz.prog Tryz.f8 (OpenSpec.ofChange Rows.oplogReadsSpec) false w args)
   (Rows.oplogReadsSpec.post enc Tryz.prog Tryz.f8 false true false false):=by
 refine returnsInHanded_of_change_and (C:=Tryz.checked) (X:=fun w _=>laidMetH Tryz.prog Sr w) (fun _ _ _ hh h=>h.of_heap hh) Tryz.own started (by kernel_rfl) Tryz.func8
  (ChangeSpec.witness_shaped (enc:=enc) (C:=Tryz.checked) (os:=os) (X:=fun w _=>laidMetH Tryz.prog Sr w) false (Z0k os) #[.slice none 0 0,.bool false] 8 (Z54 os) (World.shaped_of_ZipB (by kernel_rfl) (by kernel_rfl)) (by kernel_rfl) (by kernel_rfl) (by kernel_rfl) (Z4W os _)) ?_
 intro W base args ds gs before hval0 hW _ _ hL _
 have hval:∀ (j:Nat) t v,Tryz.f8.params[j]?=some t→args[j]?=some v→Value.okWide Tryz.prog W .any base t v:=hval0
 have hW':=hW
 obtain ⟨p,q,hA0,hV,rfl,hfz,hnd⟩:=hW
 have hA:DataW.TrodAll enc Tryz.prog W 0 (fun _=>true) true Tryz.f8.params.toList args.toList ds p:=hA0
 rw[Tryz.params8] at hA hval
 obtain ⟨v0,vs0,d0,ds0,p0,q0,hargs,rfl,rfl,h0,r0⟩:=trodAll_cons hA
 obtain ⟨v1,vs1,d1,ds1,p1,q1,rfl,rfl,rfl,h1,r1⟩:=trodAll_cons r0
 obtain ⟨rfl,rfl,rfl⟩:=trodAll_nil r1
 obtain rfl:args=#[v0,v1]:=by cases args;simp_all
 obtain ⟨rfl,rfl⟩:=trodVars_none hV
 have k0:=h0
 have lt0:∀ x∈p0,x.block<W.heap.size:=by obtain ⟨m,hm⟩:=k0;exact DataW.trod_lt m _ _ _ hm
 have k1:=h1
 have lt1:∀ x∈p1,x.block<W.heap.size:=by obtain ⟨m,hm⟩:=k1;exact DataW.trod_lt m _ _ _ hm
 obtain ⟨b,hv0⟩:=Z3D (hval 0 22 v0 rfl rfl) h0
 obtain ⟨ot,rfl⟩:=okWide_bool Tryz.underlying4 (hval 1 4 v1 rfl rfl)
 clear hA0 hval0
 refine (Z4h v0 b ot W hv0 (Z20 hL)).mono fun e W' ⟨he,bel⟩=>?_
 subst he
 exact ⟨_,rfl,_,_,_,[],_,[],hW',trodAll_mk1 (shut_bool Tryz.underlying4 _),(trodAll_cons_mk (Below.trod Tryz.laidOut (by kernel_rfl) (of_decide_eq_true (by kernel_rfl)) k0 bel lt0) (trodAll_cons_mk (Below.trod Tryz.laidOut (by kernel_rfl) (of_decide_eq_true (by kernel_rfl)) k1 bel lt1) trodAll_mk0)),rfl,bel.frame _,fun h=>by cases h⟩
theorem Q8:Rows.OplogReadsSaid :=
 OpenClaim.holds_of_wide 8 Tryz.f8 rfl rfl rfl rfl rfl rfl rfl ⟨rfl,rfl,rfl,rfl,rfl⟩ rfl rfl rfl rfl rfl (by kernel_rfl) Tryz.func8 (by kernel_rfl)
  (of_decide_eq_true (by kernel_rfl)) (by unfold Func.isWrapper;first|(rw[if_pos (by decide +kernel)];kernel_rfl)|(rw[if_neg (by decide +kernel)];exact ⟨rfl,rfl⟩))
  (fun os started H enc _=>RH os started H enc)
theorem oplogReads_card:Rows.OplogReadsCardSaid :=
 Claim7.holds_tied_plain_at .later [] [.data,.handle,.pinned] true Rows.oplogReadsCard.stood.harness true
  Q8 (fun _ h=>by cases h) (by kernel_rfl) (fun _ h=>by cases h) oplogReads_row_tie rfl ⟨rfl,rfl⟩ (by kernel_rfl) rfl
  (fun f fn hf hfn=>by
   obtain rfl : f = 8 := Option.some.inj ((show Tryz.prog.funcNamed "stemma/stemmalaw09.OplogReads" = some 8 by kernel_rfl).symm.trans hf) |>.symm
   obtain rfl:fn=Tryz.f8:=(Option.some.inj (Tryz.func8.symm.trans hfn)).symm
   exact ⟨by kernel_rfl,fun j t ht=>by
    rw[Tryz.params8] at ht
    have hm:t∈[22,4]:=by simpa using Array.mem_of_getElem? ht
    have hall:([22,4].all fun u=>!Tryz.prog.wantsStandIn u)=true:=by kernel_rfl
    exact (show Tryz.prog.wantsStandIn t=false by simpa using List.all_eq_true.1 hall t hm)⟩)
  (by kernel_rfl)
#print axioms oplogReads_card
end Go.Proofs.YtgmdimbiipemhaaGreatDoor
