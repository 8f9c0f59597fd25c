/- OplogReads, part 10 of what the proof leans on (made short by a program). -/
import Derived.Test.YtgmdimbiipemhaaGreatDoorOrZ9
set_option linter.unusedSimpArgs false
set_option linter.unusedVariables false
set_option linter.unusedSectionVars false
set_option maxRecDepth 20000
set_option maxHeartbeats 30000000
namespace Go.Proofs.YtgmdimbiipemhaaGreatDoor
open Go.RowKit Go.Deep
noncomputable def YM (b:List UInt8):Option (List OpD × Nat) :=
 match Yu b with
 | some (k,body)=>if k=66 then (match Xb body with|some l=>if l=[] then none else some (l,11+body.length)|none=>none) else none
 | none=>none
theorem Uq {b:List UInt8} (h:Yu b=none):YM b=none:=by unfold YM;rw[h]
theorem SY {b body:List UInt8} {k:UInt8} (h:Yu b=some (k,body)) (hk:k≠66):YM b=none:=by
 unfold YM
 rw[h]
 dsimp only
 rw[if_neg hk]
theorem Z0z {b body:List UInt8} (h:Yu b=some (66,body)) (hd:Xb body=none):YM b=none:=by
 unfold YM
 rw[h]
 dsimp only
 rw[if_pos rfl,hd]
theorem Qr {b body:List UInt8} (h:Yu b=some (66,body)) (hd:Xb body=some []):YM b=none:=by
 unfold YM
 rw[h]
 dsimp only
 rw[if_pos rfl,hd]
 simp
theorem Tp {b body:List UInt8} {l:List OpD} (h:Yu b=some (66,body)) (hd:Xb body=some l) (hl:l≠[]):YM b=some (l,11+body.length):=by
 unfold YM
 rw[h]
 dsimp only
 rw[if_pos rfl,hd]
 simp only[if_neg hl]
def Z5u (w:World) (b:List UInt8) (e:Ending) (w':World):Prop :=
 (∃ l n x,YM b=some (l,n)∧e=.returned (.tuple #[x,.int .i64 (n:Int)])∧Own OpD.cells 26 68 w.heap.size w' x l∧Below w.heap.size w w') ∨
 (YM b=none∧e=.returned (.tuple #[.slice none 0 0,.int .i64 0])∧Below w.heap.size w w')
theorem Z5L (v:Value) (b:List UInt8) (w:World) (h:Z0 u8c 1 w v b) (hg:Xy w):Calls Tryz.prog 122 #[v] w fun e w'=>Z5u w b e w':=by
 obtain ⟨a,cap,rfl,hcap,hmax,-⟩:=id h
 unfold maxLen at hmax
 have HH:=Jh (And.intro h hg)
 clear h hg
 go_enter Tryz.func122,Tryz.ntmps122
 go_wp2_with fail
 refine (Z5w _ b _ HH.out.1).mono ?_
 rintro e w1 hp
 unfold Uj at hp
 rcases hp with ⟨k,body,v1,ht,rfl,hown,hb⟩|⟨ht,⟨c,hc,rfl⟩,hb⟩
 ·have HT:=Jh (And.intro ht (And.intro hown hb))
  clear ht hown hb
  by_cases hk:k=66
  ·subst hk
   obtain ⟨xa,xc,hv1,hxc,hxm,-⟩:=HT.out.2.1.slice Z6
   unfold maxLen at hxm
   have HS:Hid (Z0 u8c 1 w1 v1 body):=Jh (HT.out.2.1.slice Z6)
   subst hv1
   go_wp2_with fail
   refine (Z4Z _ body _ HS.out (HH.out.2.below HT.out.2.2)).mono ?_
   rintro e w2 hd
   unfold Rz at hd
   rcases hd with ⟨l,x,hdl,rfl,hown2,hb2⟩|⟨hdn,rfl,hb2⟩
   ·obtain ⟨ya,yc,rfl,hyc,hym,-⟩:=hown2.slice OpD.len
    unfold maxLen at hym
    have HD:=Jh (And.intro hdl (And.intro (hown2.mono HT.out.2.2.size) (HT.out.2.2.trans (hb2.mono HT.out.2.2.size))))
    clear hdl hown2 hb2
    cases l with
    | nil =>
     go_wp2_with fail
     go_ret2
     exact .inr ⟨Qr HT.out.1 HD.out.1,rfl,HD.out.2.2⟩
    | cons x0 l0 =>
     have hl0:¬ (((x0 :: l0).length:Nat):Int)=0:=by simp;omega
     obtain ⟨q,hq⟩:=Je ((x0 :: l0).length)
     have HQ:=Lib.hid hq
     rw[hq] at hl0 hyc ⊢
     clear hq
     go_wp2_with fail
     go_ret2
     exact .inl ⟨x0 :: l0,11+body.length,_,Tp HT.out.1 HD.out.1 (by simp),rfl,by rw[←HQ.out];exact HD.out.2.1,HD.out.2.2⟩
   ·have HD:=Jh (And.intro hdn (HT.out.2.2.trans (hb2.mono HT.out.2.2.size)))
    clear hdn hb2
    go_wp2_with fail
    go_ret2
    exact .inr ⟨Z0z HT.out.1 HD.out.1,rfl,HD.out.2⟩
  ·have hk2:¬ (k.toNat:Int)=66:=fun e=>hk (by
    have:k.toNat=(66:UInt8).toNat:=by show k.toNat=66;omega
    exact UInt8.toNat_inj.1 this)
   go_wp2_with fail
   go_ret2
   exact .inr ⟨SY HT.out.1 hk,rfl,HT.out.2.2⟩
 ·have HT:=Jh (And.intro ht hb)
  clear ht hb
  go_wp2_with fail
  go_ret2
  exact .inr ⟨Uq HT.out.1,rfl,HT.out.2⟩
def Yt (l:List OpD):List UInt8:=Xn 66 (Xj l)
def Z56 (w:World) (l:List OpD) (e:Ending) (w':World):Prop :=
 (l≠[]∧l.length≤200∧(∀ x∈l,x.right=true)∧(Xj l).length≤65536∧∃ v,e=.returned (.tuple #[v,.nilIface])∧Own u8c 1 5 w.heap.size w' v (Yt l)∧Below w.heap.size w w') ∨
 (∃ s n,(n=1∧(l=[]∨200<l.length)∨n=71∧l≠[]∧l.length≤200∧(∃ x∈l,x.right=false)∨n=1∧65536<(Xj l).length)∧e=.returned (.tuple #[.slice none 0 0,Yk s n])∧Below w.heap.size w w')
theorem Z3A (v:Value) (l:List OpD) (w:World) (h:Z0 OpD.cells 26 w v l) (hwf:∀ x∈l,x.wf) (hn:l.length≤1000000):Calls Tryz.prog 81 #[v] w fun e w'=>Z56 w l e w':=by
 obtain ⟨a,cap,rfl,hcap,hmax,-⟩:=id h
 unfold maxLen at hmax
 have HH:=Jh (And.intro h hwf)
 clear h hwf
 by_cases h0:l=[]
 ·subst h0
  go_enter Tryz.func81,Tryz.ntmps81
  go_wp2_with fail
  refine (ZX _ 1 _).mono ?_
  rintro e w1 ⟨rfl,rfl⟩
  rw[V9 _ (by decide)]
  unfold Yk
  go_wp2_with fail
  go_ret2
  exact .inr ⟨_,1,.inl ⟨rfl,.inl rfl⟩,rfl,Below.refl _ _⟩
 ·have hl0:¬ ((l.length:Nat):Int)=0:=by
   have:=List.length_pos_iff.2 h0
   omega
  obtain ⟨q,hq⟩:=Je (l.length)
  have HQ:=Lib.hid hq
  have HS:Hid (Z0 OpD.cells 26 w (.slice a q cap) l):=Jh (by rw[←hq];exact HH.out.1)
  rw[hq] at hl0 hcap ⊢
  clear hq
  go_enter Tryz.func81,Tryz.ntmps81
  go_wp2_with fail
  refine (Z4d _ l _ HS.out HH.out.2 (by omega)).mono ?_
  rintro e w1 hp
  unfold Z0x at hp
  rcases hp with ⟨h1,h2,v1,rfl,hown,hb⟩|⟨h1,rfl,hb⟩|⟨h1,h2,rfl,hb⟩
  ·obtain ⟨xa,xc,hv1,hxc,hxm,-⟩:=hown.slice Z6
   have HE:=Jh (And.intro h1 (And.intro h2 (And.intro (hown.slice Z6) hb)))
   subst hv1
   clear h1 h2 hown hb
   go_wp2_with fail
   refine (ZX _ 0 _).mono ?_
   rintro e w2 ⟨rfl,rfl⟩
   rw[YB]
   go_wp2_with fail
   refine (Z6M 66 _ (Xj l) _ HE.out.2.2.1).mono ?_
   rintro e w3 hp
   unfold Qs at hp
   rcases hp with ⟨h3,v3,rfl,hown3,hb3⟩|⟨h3,rfl,hb3⟩
   ·have HW:=Jh (And.intro h3 (And.intro (hown3.mono HE.out.2.2.2.size) (HE.out.2.2.2.trans (hb3.mono HE.out.2.2.2.size))))
    clear h3 hown3 hb3
    go_wp2_with fail
    refine (ZX _ 0 _).mono ?_
    rintro e w4 ⟨rfl,rfl⟩
    rw[YB]
    go_wp2_with fail
    go_ret2
    exact .inl ⟨h0,HE.out.1,HE.out.2.1,HW.out.1,v3,rfl,HW.out.2.1,HW.out.2.2⟩
   ·have HW:=Jh (And.intro h3 (HE.out.2.2.2.trans (hb3.mono HE.out.2.2.2.size)))
    clear h3 hb3
    go_wp2_with fail
    refine (ZX _ 1 _).mono ?_
    rintro e w4 ⟨rfl,rfl⟩
    rw[V9 _ (by decide)]
    unfold Yk
    go_wp2_with fail
    go_ret2
    exact .inr ⟨_,1,.inr (.inr ⟨rfl,HW.out.1⟩),rfl,HW.out.2⟩
  ·have HE:=Jh (And.intro h1 hb)
   clear h1 hb
   go_wp2_with fail
   refine (ZX _ 1 _).mono ?_
   rintro e w2 ⟨rfl,rfl⟩
   rw[V9 _ (by decide)]
   unfold Yk
   go_wp2_with fail
   go_ret2
   exact .inr ⟨_,1,.inl ⟨rfl,.inr HE.out.1⟩,rfl,HE.out.2⟩
  ·have HE:=Jh (And.intro h1 (And.intro h2 hb))
   clear h1 h2 hb
   go_wp2_with fail
   refine (ZX _ 71 _).mono ?_
   rintro e w2 ⟨rfl,rfl⟩
   rw[V9 _ (by decide)]
   unfold Yk
   go_wp2_with fail
   go_ret2
   exact .inr ⟨_,71,.inr (.inl ⟨rfl,h0,HE.out.1,HE.out.2.1⟩),rfl,HE.out.2.2⟩
structure OpA where
 kind:Int
 name:ByteArray
 s:ByteArray
 b:Sl
 at_:Int
 names:Int
 keep:Sl
 torn:Int
 bs:List UInt8
 ks:List Bool
def Z7j (x:Bool):List Value:=[.bool x]
def WE (t:Option TypeId):Prop:=t=none∨t=some 118∨t=some 126∨t=some 3∨t=some 124∨t=some 131
theorem Zb.dtag {base:Nat} {w:World} {D:DSh} {A:Z4} (h:Zb base w D A) {b:Nat} (hb:Wn D A b):WE (Ys w b):=by
 rcases hb with rfl|rfl|rfl|hb|hb|⟨f,hf,rfl|hb⟩
 ·exact .inr (.inl h.tpb)
 ·exact .inl (Xl h.mfiles)
 ·exact .inl (Xl h.mbase)
 ·exact .inr (.inr (.inl (Zk h.ochg hb)))
 ·exact .inr (.inr (.inr (.inl (Zk h.osyn hb))))
 ·exact .inr (.inr (.inr (.inr (.inl (h.file b hf).tag))))
 ·exact .inr (.inr (.inr (.inr (.inr ((h.file f hf).row hb).1))))
def Ta (x:OpA) (A:Z4) (c:Int) (A':Z4):Prop :=
 if x.kind=1 then c=Y4 A x.name∧((c≠0∧A'=A)∨(c=0∧∃ fb,fb∉A.ids∧A'=Zz ⟨0,x.name,⟨#[]⟩,some fb⟩ (ZQ fb A)))
 else if x.kind=2 then (Z8 A.files x.name=none∧c=61∧A'=A)∨(∃ f,Z8 A.files x.name=some f∧1048576<ZB (A.fs f)+x.bs.length∧c=62∧A'=A)∨(∃ f,Z8 A.files x.name=some f∧ZB (A.fs f)+x.bs.length≤1048576∧c=0∧A'=Yw f x.bs A)
 else if x.kind=3 then (Z8 A.files x.name=none∧c=61∧A'=A)∨(∃ f,Z8 A.files x.name=some f∧c=0∧A'=X4 f A)
 else if x.kind=4 then (Yn x.s=false∧c=63∧A'=A)∨(Yn x.s=true∧Z8 A.files x.name=none∧c=61∧A'=A)∨(∃ f,Yn x.s=true∧Z8 A.files x.name=some f∧c=0∧A'=Zz ⟨0,x.s,x.name,some f⟩ A)
 else if x.kind=5 then (Z8 A.files x.name=none∧c=61∧A'=A)∨(∃ f,Z8 A.files x.name=some f∧c=0∧A'=Zz ⟨0,⟨#[]⟩,x.name,none⟩ A)
 else if x.kind=6 then c=0∧A'=XO A
 else c=0∧A'=A
theorem Z4q (c:Chg) (l:List (ByteArray × Nat)):(ZU c l).length≤l.length+1:=by
 have h1:=(Ss l c.old).length_le
 unfold ZU
 cases c.f with
 | none=>dsimp only;omega
 | some f=>dsimp only;have:=Z0H (Xs l c.old) c.name f;omega
theorem SU (c:Chg) (l:List (ByteArray × Nat)) (h:(l.map (·.1)).Nodup):((ZU c l).map (·.1)).Nodup:=by
 unfold ZU
 cases c.f with
 | none=>exact Sx l c.old h
 | some f=>exact Z0i _ _ _ (Sx l c.old h)
theorem Xe (c:Chg) (l:List (ByteArray × Nat)) (h:(l.map (·.1)).Nodup) (n:ByteArray) :
  Z8 (ZU c l) n=match c.f with|some f=>if n=c.name then some f else if n=c.old then none else Z8 l n|none=>if n=c.old then none else Z8 l n:=by
 have hd:Z8 (Xs l c.old) n=if n=c.old then none else Z8 l n:=by
  by_cases e:n=c.old
  ·rw[if_pos e,e];exact Sa l c.old h
  ·rw[if_neg e];exact QL l (fun e'=>e e'.symm)
 unfold ZU
 cases c.f with
 | none=>exact hd
 | some f =>
  dsimp only
  by_cases e:n=c.name
  ·rw[if_pos e,e];exact U9 _ _ _
  ·rw[if_neg e,Ty _ _ (fun e'=>e e'.symm)];exact hd
structure Z4.Inj (A:Z4):Prop where
 nd:(A.files.map (·.1)).Nodup
 ids:∀ n f,Z8 A.files n=some f→f∈A.ids
 one:∀ n m f,Z8 A.files n=some f→Z8 A.files m=some f→n=m
 rt:∀ n f,Z8 A.files n=some f→Yn n=true
theorem Z4N:Xa.Inj:=⟨List.nodup_nil,fun n f h=>(by cases h),fun n m f h=>(by cases h),fun n f h=>(by cases h)⟩
theorem Z4.Inj.step {A:Z4} (h:A.Inj) (c:Chg) (hf:∀ f,c.f=some f→(f∈A.ids∧Yn c.name=true)∧∀ n,Z8 A.files n=some f→n=c.old):(Zz c A).Inj:=by
 have ha:=Xe c A.files h.nd
 refine ⟨SU c A.files h.nd,fun n f hn=>?_,fun n m f hn hm=>?_,fun n f hn=>?_⟩
 ·change Z8 (ZU c A.files) n=some f at hn
  rw[ha] at hn
  cases hc:c.f with
  | none =>
   rw[hc] at hn
   dsimp only at hn
   split at hn
   ·cases hn
   ·exact h.ids n f hn
  | some g =>
   rw[hc] at hn
   dsimp only at hn
   split at hn
   ·cases hn;exact (hf f hc).1.1
   ·split at hn
    ·cases hn
    ·exact h.ids n f hn
 ·change Z8 (ZU c A.files) n=some f at hn
  change Z8 (ZU c A.files) m=some f at hm
  rw[ha] at hn hm
  cases hc:c.f with
  | none =>
   rw[hc] at hn hm
   dsimp only at hn hm
   split at hn
   ·cases hn
   ·split at hm
    ·cases hm
    ·exact h.one n m f hn hm
  | some g =>
   rw[hc] at hn hm
   dsimp only at hn hm
   have key:∀ n,¬ n=c.name→(if n=c.name then some g else if n=c.old then none else Z8 A.files n)=some g→False:=fun n h1 h2=>by
    rw[if_neg h1] at h2
    split at h2
    ·cases h2
    ·rename_i h3;exact h3 ((hf g hc).2 n h2)
   by_cases e1:n=c.name
   ·rw[if_pos e1] at hn
    cases hn
    by_cases e2:m=c.name
    ·rw[e1,e2]
    ·exact (key m e2 hm).elim
   ·by_cases e2:m=c.name
    ·rw[if_pos e2] at hm
     cases hm
     exact (key n e1 hn).elim
    ·rw[if_neg e1] at hn
     rw[if_neg e2] at hm
     split at hn
     ·cases hn
     ·split at hm
      ·cases hm
      ·exact h.one n m f hn hm
 ·change Z8 (ZU c A.files) n=some f at hn
  rw[ha] at hn
  cases hc:c.f with
  | none =>
   rw[hc] at hn
   dsimp only at hn
   split at hn
   ·cases hn
   ·exact h.rt n f hn
  | some g =>
   rw[hc] at hn
   dsimp only at hn
   split at hn
   ·rename_i e;rw[e];exact (hf g hc).1.2
   ·split at hn
    ·cases hn
    ·exact h.rt n f hn
theorem Z4.Inj.born {A:Z4} (h:A.Inj) (fb:Nat):(ZQ fb A).Inj:=⟨h.nd,fun n f hn=>List.mem_cons_of_mem _ (h.ids n f hn),h.one,h.rt⟩
theorem Z4.Small.mono {A:Z4} {n m:Nat} (h:A.Small n) (hm:n≤m):A.Small m :=
 ⟨h.now0,by have:=h.now;omega,Nat.le_trans h.chg hm,Nat.le_trans h.syn hm,fun f hf=>Nat.le_trans (h.pcs f hf) (by omega),Nat.le_trans h.fil hm⟩
theorem Z4.Small.step {A:Z4} {n:Nat} (h:A.Small n) (c:Chg):(Zz c A).Small (n+1):=by
 refine ⟨?_,?_,?_,?_,fun f hf=>Nat.le_trans (h.pcs f hf) (by omega),?_⟩
 ·have:=h.now0;simp only[Zz];omega
 ·have:=h.now;simp only[Zz];omega
 ·have:=h.chg;simp[Zz];omega
 ·have:=h.syn;simp only[Zz];omega
 ·have:=h.fil;have:=Z4q c A.files;simp only[Zz];omega
theorem Ta.small {x:OpA} {A A':Z4} {c:Int} (h:Ta x A c A') {n:Nat} (hs:A.Small n):A'.Small (n+1):=by
 have h0:=hs.mono (Nat.le_succ n)
 have hn0:=hs.now0
 have hn:=hs.now
 unfold Ta at h
 split at h
 ·rcases h with ⟨_,⟨_,rfl⟩|⟨_,fb,hfb,rfl⟩⟩
  ·exact h0
  ·refine Z4.Small.step (A:=ZQ fb A) ⟨hs.now0,hs.now,hs.chg,hs.syn,fun f hf=>?_,hs.fil⟩ _
   simp only[ZQ]
   split
   ·simp
   ·rename_i e
    rcases List.mem_cons.1 hf with e2|hf
    ·exact absurd e2 e
    ·exact hs.pcs f hf
 ·split at h
  ·rcases h with ⟨_,_,rfl⟩|⟨f,_,_,_,rfl⟩|⟨f,hf,_,_,rfl⟩
   ·exact h0
   ·exact h0
   ·refine ⟨by simp only[Yw];omega,by simp only[Yw];omega,h0.chg,h0.syn,fun g hg=>?_,h0.fil⟩
    simp only[Yw]
    split
    ·rename_i e;subst e;have:=hs.pcs g hg;simp;omega
    ·exact h0.pcs g hg
  ·split at h
   ·rcases h with ⟨_,_,rfl⟩|⟨f,_,_,rfl⟩
    ·exact h0
    ·refine ⟨by simp only[X4];omega,by simp only[X4];omega,h0.chg,h0.syn,fun g hg=>?_,h0.fil⟩
     simp only[X4]
     split
     ·rename_i e;subst e;rw[List.length_map];exact h0.pcs g hg
     ·exact h0.pcs g hg
   ·split at h
    ·rcases h with ⟨_,_,rfl⟩|⟨_,_,_,rfl⟩|⟨f,_,hf,_,rfl⟩
     ·exact h0
     ·exact h0
     ·exact hs.step _
    ·split at h
     ·rcases h with ⟨_,_,rfl⟩|⟨f,hf,_,rfl⟩
      ·exact h0
      ·exact hs.step _
     ·split at h
      ·rcases h with ⟨_,rfl⟩
       exact ⟨by simp only[XO];omega,by simp only[XO];omega,h0.chg,by have:=hs.syn;simp[XO];omega,h0.pcs,h0.fil⟩
      ·rcases h with ⟨_,rfl⟩
       exact h0
theorem QV (k:Int) (ps:List PcA):Zp (ps.map (Ve k))=Zp ps:=by
 unfold Zp
 rw[List.flatMap_map]
 congr 1
 funext p
 simp only[Ve]
 split <;> rfl
def X5 (c:Int) (n:Nat):Nat:=((if c<0 then -(c+1) else c) % (n:Int)).toNat
theorem U0 (c:Int) {n:Nat} (hn:0<n):X5 c n<n:=by
 unfold X5
 have h1:=Int.emod_lt_of_pos (if c<0 then -(c+1) else c) (show (0:Int)<n by omega)
 have h2:=Int.emod_nonneg (if c<0 then -(c+1) else c) (show (n:Int)≠0 by omega)
 omega
theorem Q5 (c:Int) (n:Nat) (hc1:-9223372036854775808≤c) (hc2:c≤9223372036854775807) (hn:0<n) (hn2:n≤70368744177664) (w:World) :
  Calls Tryz.prog 75 #[.int .i64 c,.int .i64 n] w fun e w'=>e=.returned (.int .i64 (X5 c n))∧w'=w:=by
 have hn0:¬ (n:Int)=0:=by omega
 have hlt:=U0 c hn
 by_cases h0:c<0
 ·have hp:(-(c+1)).tmod (n:Int)=(X5 c n:Int):=by
   unfold X5
   rw[if_pos h0,Int.tmod_eq_emod_of_nonneg (by omega)]
   have h2:=Int.emod_nonneg (-(c+1)) (show (n:Int)≠0 by omega)
   omega
  have hw1:IntKind.i64.wrap (c+1)=c+1:=IntWalk.i64_in _ (by omega)
  have hw2:IntKind.i64.wrap (-(c+1))=-(c+1):=IntWalk.i64_in _ (by omega)
  go_enter Tryz.func75,Tryz.ntmps75
  go_wp2
  go_ret
  exact ⟨by first|(rw[hp];rfl)|simp[hp]|(simp;omega),rfl⟩
 ·have hp:c.tmod (n:Int)=(X5 c n:Int):=by
   unfold X5
   rw[if_neg h0,Int.tmod_eq_emod_of_nonneg (by omega)]
   have h2:=Int.emod_nonneg c (show (n:Int)≠0 by omega)
   omega
  go_enter Tryz.func75,Tryz.ntmps75
  go_wp2
  go_ret
  exact ⟨by first|(rw[hp];rfl)|simp[hp]|(simp;omega),rfl⟩
theorem QZ {V:Type} {ev:V→Value} {b:Nat} {l:List (ByteArray × V)} {w:World} (h:Zq Value.string ev w b l) :
  Calls Tryz.prog 78 #[.map (some b)] w fun e w'=>e=.returned (.map (some w.heap.size))∧Zq Value.string ev w' w.heap.size l∧Below w.heap.size w w':=by
 obtain ⟨hn,es,clock,h1,h2⟩:=h
 refine (AnyW.maps_Clone Tryz.mcloneF b es clock w h1).mono ?_
 rintro e w' ⟨rfl,rfl⟩
 exact ⟨rfl,⟨hn,es,clock,(MapKept.heap_alloc w _).1,h2⟩,(Below.refl _ _).alloc (Nat.le_refl _) _⟩
def XH (syn:List Int) (at_:Int):Int:=syn.foldl (fun s n=>if n≤at_ then n else s) 0
theorem Z4Y {syn:List Int} {k:Nat} {n:Int} (at_:Int) (h:syn[k]?=some n):XH (syn.take (k+1)) at_=if n≤at_ then n else XH (syn.take k) at_:=by
 unfold XH
 rw[List.take_add_one,h,Option.toList_some,List.foldl_append]
 rfl
def XR (chg:List Chg) (safe at_:Int):Nat:=(chg.filter fun c=>decide (safe<c.at_) && decide (c.at_≤at_)).length
theorem Z4s {chg:List Chg} {k:Nat} {c:Chg} (safe at_:Int) (h:chg[k]?=some c):XR (chg.take (k+1)) safe at_=XR (chg.take k) safe at_+if safe<c.at_∧c.at_≤at_ then 1 else 0:=by
 unfold XR
 rw[List.take_add_one,h,Option.toList_some,List.filter_append,List.length_append]
 by_cases h1:safe<c.at_ <;> by_cases h2:c.at_≤at_ <;> simp[h1,h2]
theorem Z2h (chg:List Chg) (safe at_:Int) (k:Nat):XR (chg.take k) safe at_≤k:=by
 unfold XR
 exact Nat.le_trans (List.length_filter_le _ _) (by rw[List.length_take];omega)
def Wd (safe at_:Int):List Chg→Nat→List (ByteArray × Nat)→List (ByteArray × Nat)
 | [],_,m=>m
 | c :: cs,op,m=>if safe<c.at_ then (if op=0∨at_<c.at_ then m else Wd safe at_ cs (op - 1) (ZU c m)) else Wd safe at_ cs op (ZU c m)
def YU (A:Z4) (at_ names:Int):List (ByteArray × Nat):=Wd (XH A.syn at_) at_ A.chg (X5 names (XR A.chg (XH A.syn at_) at_+1)) A.base
def Uf (w:World) (A:Z4) (at_ names:Int) (e:Ending) (w':World):Prop :=
 ∃ m,e=.returned (.map (some m))∧w.heap.size≤m∧Zq Value.string YX w' m (YU A at_ names)∧Below w.heap.size w w'
theorem Own.shape {α:Type} {ea:α→List Value} {k:Nat} {e:TypeId} {base:Nat} {w:World} {v:Value} {l:List α} (h:Own ea k e base w v l) (hk:∀ x,(ea x).length=k):∃ a cap,v=.slice a l.length cap∧l.length≤cap∧cap≤maxLen∧(l≠[]→∃ g,a=some ⟨g,0,none⟩∧base≤g∧g<w.heap.size):=by
 obtain ⟨a,cap,e1,h2,h3,_⟩:=h.slice hk
 refine ⟨a,cap,e1,h2,h3,fun hne=>?_⟩
 rcases h.eq_slice with ⟨_,e⟩|⟨g,c,e,hg⟩
 ·exact absurd e hne
 ·rw[e1] at e
  simp only[Value.slice.injEq] at e
  exact ⟨g,e.1,hg⟩
theorem Z3R {base:Nat} {w:World} {D:DSh} {A:Z4} (h:Zb base w D A) (at_ names:Int) (hn1:-9223372036854775808≤names) (hn2:names≤9223372036854775807) {N:Nat} (hsm:A.Small N) (hN:N≤1000000) :
  Calls Tryz.prog 76 #[.pointer (some ⟨D.pb,0,none⟩),.int .i64 at_,.int .i64 names] w fun e w'=>Uf w A at_ names e w':=by
 have c1:=Joins.cell_of_block h.blk 1
 have c2:=Joins.cell_of_block h.blk 2
 have c3:=Joins.cell_of_block h.blk 3
 simp only[List.getElem?_toArray,List.getElem?_cons_succ,List.getElem?_cons_zero] at c1 c2 c3
 obtain ⟨sa,scap,hvs,hs1,hs2,hsg⟩:=h.osyn.shape Zf
 obtain ⟨ca,ccap,hvc,hc1,hc2,hcg⟩:=h.ochg.shape Chg.len
 rw[hvs] at c3
 rw[hvc] at c2
 have hos:=h.osyn
 have hoc:=h.ochg
 rw[hvs] at hos
 rw[hvc] at hoc
 unfold maxLen at hs2 hc2
 have hls:=hsm.syn
 have hlc:=hsm.chg
 have HOS:=Lib.hid hos
 have HOC:=Lib.hid hoc
 have HSG:=Lib.hid hsg
 have HCG:=Lib.hid hcg
 have HMB:=Lib.hid h.mbase
 clear h hos hoc hsg hcg hvs hvc hsm
 go_enter Tryz.func76,Tryz.ntmps76
 go_wp2_with fail
 go_loopg [7,21] A.syn.length (fun g sv iv wr=>∃ k:Nat,g=A.syn.length - k∧k≤A.syn.length∧sv=.int .i64 (XH (A.syn.take k) at_)∧iv=.int .i64 k∧wr=w)
 case atStart=>exact ⟨0,by omega,by omega,by simp[XH],rfl,rfl⟩
 case round =>
  obtain ⟨k,hg,hk,rfl,rfl,ew⟩:=hrel
  have ew':=ew.symm
  subst ew'
  have HG:=Lib.hid hg
  clear hg
  by_cases hkl:k<A.syn.length
  ·obtain ⟨n,hn⟩:∃ n,A.syn[k]?=some n:=⟨_,List.getElem?_eq_getElem hkl⟩
   obtain ⟨g,e1,_⟩:=HSG.out (by intro e;rw[e] at hn;simp at hn)
   subst e1
   have n0:=HOS.out.cellAt Zf hn (j:=0) rfl
   simp only[Nat.add_zero,Nat.mul_one] at n0
   have hkk:(k:Int)<(A.syn.length:Int):=by omega
   have hsn:=Z4Y at_ hn
   clear hn
   by_cases hle:n≤at_
   ·rw[if_pos hle] at hsn
    have HSN:=Lib.hid hsn
    clear hsn
    go_wp2_with fail
    go_roundg (A.syn.length - (k+1))
    case measure=>rw[HG.out];omega
    case rel=>exact ⟨k+1,rfl,by omega,by rw[HSN.out],by simp,rfl⟩
   ·rw[if_neg hle] at hsn
    have HSN:=Lib.hid hsn
    clear hsn
    go_wp2_with fail
    go_roundg (A.syn.length - (k+1))
    case measure=>rw[HG.out];omega
    case rel=>exact ⟨k+1,rfl,by omega,by rw[HSN.out],by simp,rfl⟩
  ·obtain rfl:k=A.syn.length:=by omega
   rw[List.take_length]
   obtain ⟨safe,hsafe⟩:∃ s,XH A.syn at_=s:=⟨_,rfl⟩
   rw[hsafe]
   have HSF:=Lib.hid hsafe
   clear hsafe HG
   go_wp2_with fail
   go_loopg [10,35] A.chg.length (fun g ov iv wr=>∃ k:Nat,g=A.chg.length - k∧k≤A.chg.length∧ov=.int .i64 (XR (A.chg.take k) safe at_)∧iv=.int .i64 k∧Hid (Below w.heap.size w wr))
   case atStart=>exact ⟨0,by omega,by omega,by simp[XR],rfl,Jh (Below.refl _ _)⟩
   case round =>
    obtain ⟨k,hg,hk,rfl,rfl,hU⟩:=hrel
    have HG:=Lib.hid hg
    clear hg
    by_cases hkl:k<A.chg.length
    ·obtain ⟨c,hc⟩:∃ c,A.chg[k]?=some c:=⟨_,List.getElem?_eq_getElem hkl⟩
     obtain ⟨g,e1,_⟩:=HCG.out (by intro e;rw[e] at hc;simp at hc)
     subst e1
     obtain ⟨p0,hp0⟩:∃ p0,Wk c.f=.pointer p0:=⟨_,rfl⟩
     have q0:=ZH hU.out (HOC.out.cellAt Chg.len hc (j:=0) rfl)
     have q1:=ZH hU.out (HOC.out.cellAt Chg.len hc (j:=1) rfl)
     have q2:=ZH hU.out (HOC.out.cellAt Chg.len hc (j:=2) rfl)
     have q3:=ZH hU.out (HOC.out.cellAt Chg.len hc (j:=3) rfl)
     rw[hp0] at q3
     simp only[Nat.add_zero] at q0
     have hkk:(k:Int)<(A.chg.length:Int):=by omega
     have hsn:=Z4s safe at_ hc
     have hle:=Z2h A.chg safe at_ k
     have HB:Hid (Below w.heap.size w (wr.alloc (.cells #[.int .i64 c.at_,.string c.name,.string c.old,.pointer p0] 126))):=Jh (hU.out.alloc hU.out.size _)
     clear hc hp0 hU
     by_cases h1:safe<c.at_
     ·by_cases h2:c.at_≤at_
      ·rw[if_pos ⟨h1,h2⟩] at hsn
       have HSN:=Lib.hid hsn
       clear hsn
       go_wp2_with fail
       go_roundg (A.chg.length - (k+1))
       case measure=>rw[HG.out];omega
       case rel=>exact ⟨k+1,rfl,by omega,by rw[HSN.out];simp,by simp,HB⟩
      ·rw[if_neg (fun h=>h2 h.2)] at hsn
       have HSN:=Lib.hid hsn
       clear hsn
       go_wp2_with fail
       go_roundg (A.chg.length - (k+1))
       case measure=>rw[HG.out];omega
       case rel=>exact ⟨k+1,rfl,by omega,by rw[HSN.out];simp,by simp,HB⟩
     ·rw[if_neg (fun h=>h1 h.1)] at hsn
      have HSN:=Lib.hid hsn
      clear hsn
      go_wp2_with fail
      go_roundg (A.chg.length - (k+1))
      case measure=>rw[HG.out];omega
      case rel=>exact ⟨k+1,rfl,by omega,by rw[HSN.out];simp,by simp,HB⟩
    ·obtain rfl:k=A.chg.length:=by omega
     rw[List.take_length]
     obtain ⟨op,hop⟩:=Je (XR A.chg safe at_)
     have hle:=Z2h A.chg safe at_ A.chg.length
     rw[List.take_length,hop] at hle
     rw[hop]
     have HOP:=Lib.hid hop
     have hpk:=Q5 names (op+1) hn1 hn2 (by omega) (by omega)
     have hpl:=U0 names (show 0<op+1 by omega)
     have HPK:=Lib.hid hpk
     obtain ⟨pk,hpke⟩:=Je (X5 names (op+1))
     rw[hpke] at hpl
     have HPE:=Lib.hid hpke
     have c1':=ZH hU.out c1
     have c2':=ZH hU.out c2
     have HMB2:=Jh (HMB.out.below hU.out)
     have HB2:=Lib.hid hU.out
     clear hop hpk hpke hU HG
     go_wp2_with fail
     refine (HPK.out wr).mono ?_
     rintro e w2 ⟨rfl,e2⟩
     have e2':=e2.symm
     subst e2'
     rw[HPE.out]
     go_wp2_with fail
     refine (QZ HMB2.out).mono ?_
     rintro e w3 ⟨rfl,hm3,b3⟩
     have c2'':=ZH b3 c2'
     have HM3:=Lib.hid hm3
     have HB3:=Jh (HB2.out.trans (b3.mono HB2.out.size))
     have hmz:w.heap.size≤wr.heap.size:=HB2.out.size
     clear hm3 b3
     obtain ⟨mb,hmb⟩:=Je (wr.heap.size)
     rw[hmb] at HM3 hmz ⊢
     clear hmb
     obtain ⟨fin,hfin⟩:=Je (YU A at_ names)
     have HFIN:Hid (Wd safe at_ A.chg pk A.base=fin):=Jh (by rw[←hfin];unfold YU;rw[HSF.out,HOP.out,HPE.out])
     have HFE:=Lib.hid hfin
     clear hfin
     go_wp2_with fail
     go_loopg [10,66] A.chg.length (fun g ov iv wr=>∃ (k o:Nat) (m:List (ByteArray × Nat)),g=A.chg.length - k∧k≤A.chg.length∧o≤op∧ov=.int .i64 o∧iv=.int .i64 k∧Hid (Zq Value.string YX wr mb m∧Wd safe at_ (A.chg.drop k) o m=fin∧Below w.heap.size w wr))
     case atStart=>exact ⟨0,pk,A.base,by omega,by omega,by omega,rfl,rfl,Lib.hid ⟨HM3.out,by rw[List.drop_zero];exact HFIN.out,HB3.out⟩⟩
     case round =>
      obtain ⟨k,o,m,hg,hk,hoo,rfl,rfl,hU⟩:=hrel
      have HG:=Lib.hid hg
      clear hg
      by_cases hkl:k<A.chg.length
      ·obtain ⟨c,hc⟩:∃ c,A.chg[k]?=some c:=⟨_,List.getElem?_eq_getElem hkl⟩
       obtain ⟨g,e1,_⟩:=HCG.out (by intro e;rw[e] at hc;simp at hc)
       subst e1
       obtain ⟨p0,hp0⟩:∃ p0,Wk c.f=.pointer p0:=⟨_,rfl⟩
       have q0:=ZH hU.out.2.2 (HOC.out.cellAt Chg.len hc (j:=0) rfl)
       have q1:=ZH hU.out.2.2 (HOC.out.cellAt Chg.len hc (j:=1) rfl)
       have q2:=ZH hU.out.2.2 (HOC.out.cellAt Chg.len hc (j:=2) rfl)
       have q3:=ZH hU.out.2.2 (HOC.out.cellAt Chg.len hc (j:=3) rfl)
       rw[hp0] at q3
       simp only[Nat.add_zero] at q0
       have hkk:(k:Int)<(A.chg.length:Int):=by omega
       have hup:=hU.out.2.1
       rw[List.drop_eq_getElem_cons hkl,show A.chg[k]=c from (List.getElem?_eq_some_iff.1 hc).2] at hup
       unfold Wd at hup
       obtain ⟨ob,hob⟩:∃ ob:Obj,.cells #[.int .i64 c.at_,.string c.name,.string c.old,.pointer p0] 126=ob:=⟨_,rfl⟩
       have hap:=fun W h=>Z1E c mb m W h
       rw[hp0] at hap
       have HAP:=Lib.hid hap
       have HM:=Jh (hU.out.1.alloc ob)
       have HB:=Jh (hU.out.2.2.alloc hU.out.2.2.size ob)
       have HB0:=Lib.hid hU.out.2.2
       subst hob
       clear hc hp0 hap hU
       by_cases h1:safe<c.at_
       ·rw[if_pos h1] at hup
        by_cases ho:o=0
        ·have hoo2:(o:Int)=0:=by omega
         rw[if_pos (.inl ho)] at hup
         have HN:=Jh (show Uf w A at_ names (.returned (.map (some mb))) _ from ⟨mb,rfl,hmz,by rw[HFE.out,←hup];exact HM.out,HB.out⟩)
         clear hup
         go_wp2
         go_ret
         exact HN.out
        ·have hoo2:¬ (o:Int)=0:=by omega
         by_cases h2:at_<c.at_
         ·have htr:True:=trivial
          rw[if_pos (.inr h2)] at hup
          have HN:=Jh (show Uf w A at_ names (.returned (.map (some mb))) _ from ⟨mb,rfl,hmz,by rw[HFE.out,←hup];exact HM.out,HB.out⟩)
          clear hup
          go_wp2
          go_ret
          exact HN.out
         ·have htr:True:=trivial
          rw[if_neg (by rintro (e|e);exact ho e;exact h2 e)] at hup
          have HUP:=Lib.hid hup
          clear hup
          go_wp2_with fail
          refine (HAP.out _ HM.out).mono ?_
          rintro e w5 ⟨rfl,hm5,hx5⟩
          have HN:Hid (Zq Value.string YX w5 mb (ZU c m)∧Wd safe at_ (A.chg.drop (k+1)) (o - 1) (ZU c m)=fin∧Below w.heap.size w w5):=Lib.hid ⟨hm5,HUP.out,Ext.new HB.out hx5 (fun i hi _ e=>by omega) HB.out.size⟩
          clear hm5 hx5
          go_wp2_with fail
          go_roundg (A.chg.length - (k+1))
          case measure=>rw[HG.out];omega
          case rel=>exact ⟨k+1,o - 1,ZU c m,rfl,by omega,by omega,by congr 1;omega,by simp,HN⟩
       ·rw[if_neg h1] at hup
        have HUP:=Lib.hid hup
        clear hup
        go_wp2_with fail
        refine (HAP.out _ HM.out).mono ?_
        rintro e w5 ⟨rfl,hm5,hx5⟩
        have HN:Hid (Zq Value.string YX w5 mb (ZU c m)∧Wd safe at_ (A.chg.drop (k+1)) (o) (ZU c m)=fin∧Below w.heap.size w w5):=Lib.hid ⟨hm5,HUP.out,Ext.new HB.out hx5 (fun i hi _ e=>by omega) HB.out.size⟩
        clear hm5 hx5
        go_wp2_with fail
        go_roundg (A.chg.length - (k+1))
        case measure=>rw[HG.out];omega
        case rel=>exact ⟨k+1,o,ZU c m,rfl,by omega,by omega,rfl,by simp,HN⟩
      ·obtain rfl:k=A.chg.length:=by omega
       have hup:=hU.out.2.1
       rw[List.drop_length] at hup
       have hup2:m=fin:=hup
       have HN:=Jh (show Uf w A at_ names (.returned (.map (some mb))) wr from ⟨mb,rfl,hmz,by rw[HFE.out,←hup2];exact hU.out.1,hU.out.2.2⟩)
       clear hU hup hup2
       go_wp2
       go_ret
       exact HN.out
def Zl:ByteArray:={ data:=#[108,111,103] }
def Zn:ByteArray:={ data:=#[110,101,119] }
def rmA (A:Z4):Z4:=if Z8 A.files Zn=none then A else Zz ⟨0,⟨#[]⟩,Zn,none⟩ A
theorem UC (A:Z4) (n:ByteArray):Qb (XE A) n=true↔Z8 A.files n≠none:=by
 rw[Qw,(RS A).mem_iff,ne_eq,WH]
 exact Classical.not_not.symm
def Xh (w:World) (lb pb:Nat) (vo:Value) (sy:Int):Prop:=w.heap[lb]?=some (.cells #[.pointer (some ⟨pb,0,none⟩),vo,.int .i64 sy] 133 (0,0))
theorem Xh.c0 {w:World} {lb pb:Nat} {vo:Value} {sy:Int} (h:Xh w lb pb vo sy):w.cell? ⟨lb,0,none⟩=some (.pointer (some ⟨pb,0,none⟩)):=Joins.cell_of_block h 0
theorem Xh.c1 {w:World} {lb pb:Nat} {vo:Value} {sy:Int} (h:Xh w lb pb vo sy):w.cell? ⟨lb,1,none⟩=some vo:=Joins.cell_of_block h 1
theorem Xh.c2 {w:World} {lb pb:Nat} {vo:Value} {sy:Int} (h:Xh w lb pb vo sy):w.cell? ⟨lb,2,none⟩=some (.int .i64 sy):=Joins.cell_of_block h 2
theorem Xh.tag {w:World} {lb pb:Nat} {vo:Value} {sy:Int} (h:Xh w lb pb vo sy):Ys w lb=some 133:=YW h
theorem Xh.lt {w:World} {lb pb:Nat} {vo:Value} {sy:Int} (h:Xh w lb pb vo sy):lb<w.heap.size:=WT h.tag
theorem Xh.below {w w':World} {lb pb:Nat} {vo:Value} {sy:Int} (h:Xh w lb pb vo sy) (hb:Below w.heap.size w w'):Xh w' lb pb vo sy:=((Ext.of_below (S:=fun _=>False) hb).block lb h.lt id).trans h
theorem Xh.turn {base:Nat} {w w':World} {lb:Nat} {vo:Value} {sy:Int} {D D':DSh} {A A':Z4} (h:Xh w lb D.pb vo sy) (hd:Zb base w D A) (ht:Ze base w D A w' D' A'):Xh w' lb D'.pb vo sy:=by
 unfold Xh
 rw[ht.pb]
 refine (ht.ext.block lb h.lt (fun hf=>?_)).trans h
 have:=hd.dtag hf
 rw[h.tag] at this
 rcases this with h1|h1|h1|h1|h1|h1 <;> revert h1 <;> decide
theorem Z0c {base:Nat} {w:World} {D:DSh} {A:Z4} (h:Zb base w D A) (hbw:base≤w.heap.size) {N:Nat} (hsm:A.Small N) (hN:N≤1000000) (lb:Nat) (vo:Value) (sy:Int) (hl:Xh w lb D.pb vo sy) :
  Calls Tryz.prog 120 #[.pointer (some ⟨lb,0,none⟩)] w fun e w'=>e=.returned .nilIface∧∃ D',Ze base w D A w' D' (rmA A):=by
 have c0:=hl.c0
 have HH:=Jh (And.intro h (And.intro hsm (And.intro hbw hl)))
 clear h hsm hbw hl
 go_enter Tryz.func120,Tryz.ntmps120
 go_wp2_with fail
 refine (TE HH.out.1 (by have:=HH.out.2.1.fil;omega)).mono ?_
 rintro e w1 ⟨v1,rfl,hown,hb⟩
 obtain ⟨xa,xc,hv1,hxc,hxm,-⟩:=hown.slice VZ
 have HO:=Jh (And.intro (hown.slice VZ) hb)
 subst hv1
 have c1:=(HH.out.2.2.2.below hb).c0
 clear hown hb
 go_wp2_with fail
 refine (SX _ (XE A) Zn _ HO.out.1).mono ?_
 rintro e w2 ⟨rfl,rfl⟩
 cases hn:Qb (XE A) Zn with
 | false =>
  have hno:Z8 A.files Zn=none:=by
   cases hg:Z8 A.files Zn with
   | none=>rfl
   | some f=>have:=(UC A Zn).2 (by rw[hg];simp);rw[hn] at this;cases this
  have HR:Hid (rmA A=A):=Jh (by unfold rmA;rw[if_pos hno])
  go_wp2_with fail
  go_ret
  exact ⟨rfl,D,by rw[HR.out];exact Ze.below HH.out.1 HO.out.2⟩
 | true =>
  have hne:=(UC A Zn).1 hn
  have HR:Hid (rmA A=Zz ⟨0,⟨#[]⟩,Zn,none⟩ A):=Jh (by unfold rmA;rw[if_neg hne])
  have HNE:=Lib.hid hne
  clear hne
  go_wp2_with fail
  refine (QJ (HH.out.1.below HO.out.2) (Nat.le_trans HH.out.2.2.1 HO.out.2.size) Zn HH.out.2.1.now0 (by have:=HH.out.2.1.now;omega) (by have:=HH.out.2.1.chg;omega)).mono ?_
  rintro e w3 hp
  rcases hp with ⟨hno,rfl,ht⟩|⟨f,D',hf,rfl,ht⟩
  ·exact absurd hno HNE.out
  ·have HT:=Jh ((Ze.below HH.out.1 HO.out.2).trans ht)
   clear hf ht
   go_wp2_with fail
   refine (ZX _ 0 _).mono ?_
   rintro e w4 ⟨rfl,rfl⟩
   rw[YB]
   go_wp2_with fail
   go_ret
   exact ⟨rfl,D',by rw[HR.out];exact HT.out⟩
def Z4g (k:Int) (n s:ByteArray) (bs:List UInt8):OpA:=⟨k,n,s,⟨none,0,0⟩,0,0,⟨none,0,0⟩,0,bs,[]⟩
theorem Z4.Small.make {A:Z4} {n:Nat} (h:A.Small n) {x:ByteArray} {fb:Nat} (hc:Y4 A x=0) (hf:fb∉A.ids):(Zz ⟨0,x,⟨#[]⟩,some fb⟩ (ZQ fb A)).Small (n+1) :=
 Ta.small (x:=Z4g 1 x ⟨#[]⟩ []) (A:=A) (c:=0) (by unfold Ta;refine Eq.mpr (if_pos (show (1:Int)=1 from rfl)) ?_;exact ⟨hc.symm,.inr ⟨rfl,fb,hf,rfl⟩⟩) h
theorem Z4.Small.app {A:Z4} {n:Nat} (h:A.Small n) {x:ByteArray} {f:Nat} {bs:List UInt8} (hg:Z8 A.files x=some f) (hs:ZB (A.fs f)+bs.length≤1048576):(Yw f bs A).Small (n+1) :=
 Ta.small (x:=Z4g 2 x ⟨#[]⟩ bs) (A:=A) (c:=0) (by unfold Ta;refine Eq.mpr (if_neg (show ¬ (2:Int)=1 by decide)) ?_;refine Eq.mpr (if_pos (show (2:Int)=2 from rfl)) ?_;exact .inr (.inr ⟨f,hg,hs,rfl,rfl⟩)) h
theorem Z4.Small.sync {A:Z4} {n:Nat} (h:A.Small n) {x:ByteArray} {f:Nat} (hg:Z8 A.files x=some f):(X4 f A).Small (n+1) :=
 Ta.small (x:=Z4g 3 x ⟨#[]⟩ []) (A:=A) (c:=0) (by unfold Ta;refine Eq.mpr (if_neg (show ¬ (3:Int)=1 by decide)) ?_;refine Eq.mpr (if_neg (show ¬ (3:Int)=2 by decide)) ?_;refine Eq.mpr (if_pos (show (3:Int)=3 from rfl)) ?_;exact .inr ⟨f,hg,rfl,rfl⟩) h
theorem Z4.Small.syn_ {A:Z4} {n:Nat} (h:A.Small n):(XO A).Small (n+1) :=
 Ta.small (x:=Z4g 6 ⟨#[]⟩ ⟨#[]⟩ []) (A:=A) (c:=0) (by unfold Ta;refine Eq.mpr (if_neg (show ¬ (6:Int)=1 by decide)) ?_;refine Eq.mpr (if_neg (show ¬ (6:Int)=2 by decide)) ?_;refine Eq.mpr (if_neg (show ¬ (6:Int)=3 by decide)) ?_;refine Eq.mpr (if_neg (show ¬ (6:Int)=4 by decide)) ?_;refine Eq.mpr (if_neg (show ¬ (6:Int)=5 by decide)) ?_;refine Eq.mpr (if_pos (show (6:Int)=6 from rfl)) ?_;exact ⟨rfl,rfl⟩) h
theorem Z4.Small.rm {A:Z4} {n:Nat} (h:A.Small n):(rmA A).Small (n+1):=by
 unfold rmA
 split
 ·exact h.mono (Nat.le_succ n)
 ·exact h.step _
def an1 (fb:Nat) (A:Z4):Z4:=Zz ⟨0,Zn,⟨#[]⟩,some fb⟩ (ZQ fb (rmA A))
def an2 (fb:Nat) (bs:List UInt8) (A:Z4):Z4:=XO (X4 fb (Yw fb bs (an1 fb A)))
def Ro (fb:Nat) (bs:List UInt8) (A:Z4):Z4:=XO (Zz ⟨0,Zl,Zn,some fb⟩ (an2 fb bs A))
theorem Z2B {A:Z4} (hn:(A.files.map (·.1)).Nodup):Z8 (rmA A).files Zn=none:=by
 unfold rmA
 split
 ·assumption
 ·exact Sa _ _ hn
theorem Z0P (A:Z4):(rmA A).files.length≤A.files.length:=by
 unfold rmA
 split
 ·exact Nat.le_refl _
 ·exact (Ss A.files Zn).length_le
theorem VE (A:Z4):(rmA A).ids=A.ids:=by unfold rmA;split <;> rfl
theorem VR:Yn Zn=true:=by decide
theorem Va:Yn Zl=true:=by decide
theorem Rp {A:Z4} (hn:(A.files.map (·.1)).Nodup) (hl:A.files.length≤7):Y4 (rmA A) Zn=0:=by
 have h1:=Z2B hn
 have h2:=Z0P A
 unfold Y4
 rw[VR,h1]
 simp
 omega
theorem Wr (fb:Nat) (A:Z4):Z8 (an1 fb A).files Zn=some fb:=by
 unfold an1 Zz ZU
 exact U9 _ _ _
theorem Z3b (fb:Nat) (A:Z4):(an1 fb A).fs fb=[]:=by
 unfold an1 Zz ZQ
 simp
def Qf (base:Nat) (w:World) (D:DSh) (A:Z4) (bs:List UInt8) (e:Ending) (w':World):Prop :=
 (bs.length≤1048576∧e=.returned .nilIface∧∃ fb D',fb∉A.ids∧Ze base w D A w' D' (Ro fb bs A)) ∨
 (1048576<bs.length∧(∃ s,e=.returned (Yk s 62))∧∃ fb D',fb∉A.ids∧Ze base w D A w' D' (Zz ⟨0,⟨#[]⟩,Zn,none⟩ (an1 fb A)))
theorem Ze.keep {base:Nat} {w w':World} {D D':DSh} {A A':Z4} (ht:Ze base w D A w' D' A') (hd:Zb base w D A) {b:Nat} {o:Obj} (h:w.heap[b]?=some o) (hg:¬ WE (Ys w b)):w'.heap[b]?=some o :=
 (ht.ext.block b (Array.getElem?_eq_some_iff.1 h).1 (fun hf=>hg (hd.dtag hf))).trans h
theorem Z2n {base:Nat} {w:World} {D:DSh} {A:Z4} (h:Zb base w D A) (hbw:base≤w.heap.size) {N:Nat} (hsm:A.Small N) (hN:N≤900000) (hfl:A.files.length≤7) (lb:Nat) (vo:Value) (sy:Int) (hl:Xh w lb D.pb vo sy)
  (va:Option Addr) (vn vc:Nat) (bs:List UInt8) (hv:Z0 u8c 1 w (.slice va vn vc) bs) (hvd:∀ a,va=some a→¬ WE (Ys w a.block)) (hbs:bs.length≤70368744177664) :
  Calls Tryz.prog 86 #[.pointer (some ⟨lb,0,none⟩),.slice va vn vc] w fun e w'=>Qf base w D A bs e w':=by
 have HH:=Jh (And.intro h (And.intro hsm (And.intro hbw (And.intro hl hv))))
 clear h hsm hbw hl hv
 go_enter Tryz.func86,Tryz.ntmps86
 go_wp2_with fail
 refine (Z0c HH.out.1 HH.out.2.2.1 HH.out.2.1 (by omega) lb vo sy HH.out.2.2.2.1).mono ?_
 rintro e w1 ⟨rfl,D1,ht1⟩
 have hl1:=HH.out.2.2.2.1.turn HH.out.1 ht1
 have c1:=hl1.c0
 have H1:=Jh (And.intro ht1 (And.intro hl1 (Nat.le_trans HH.out.2.2.1 ht1.ext.size)))
 have S1:=Lib.hid HH.out.2.1.rm
 clear ht1 hl1
 go_wp2_with fail
 refine (Sw H1.out.1.is_ H1.out.2.2 Zn S1.out.now0 (by have:=S1.out.now;omega) (by have:=S1.out.chg;omega)).mono ?_
 rintro e w2 ⟨rfl,hp⟩
 rw[Rp HH.out.1.mfiles.1 hfl]
 rw[Rp HH.out.1.mfiles.1 hfl] at hp
 rcases hp with ⟨hno,_⟩|⟨_,fb,D2,hfb,ht2⟩
 ·exact absurd rfl hno
 have hl2:=H1.out.2.1.turn H1.out.1.is_ ht2
 have c2:=hl2.c0
 have H2:=Jh (And.intro ht2 (And.intro hl2 (And.intro (Nat.le_trans H1.out.2.2 ht2.ext.size) hfb)))
 have S2:=Jh (S1.out.make (Rp HH.out.1.mfiles.1 hfl) hfb)
 clear ht2 hl2 hfb
 go_wp2_with fail
 refine (ZX _ 0 _).mono ?_
 rintro e w3 ⟨rfl,rfl⟩
 rw[YB]
 go_wp2_with fail
 have T2:=Jh (H1.out.1.trans H2.out.1)
 have hv2:Z0 u8c 1 w3 (.slice va vn vc) bs:=HH.out.2.2.2.2.ext T2.out.ext (fun b o n cap e hf=>by
  simp only[Value.slice.injEq] at e
  exact hvd _ e.1 (HH.out.1.dtag hf))
 have hsz:ZB ((an1 fb A).fs fb)=0:=by rw[Z3b];rfl
 refine (UG T2.out.is_ H2.out.2.2.1 Zn _ bs hv2 hbs S2.out (by omega)).mono ?_
 rintro e w4 hp
 unfold TX at hp
 rcases hp with ⟨hno,_⟩|⟨f,hg,hbig,rfl,ht4⟩|⟨f,D4,hg,hsm4,rfl,ht4⟩
 ·rw[show Z8 (Zz ⟨0,Zn,⟨#[]⟩,some fb⟩ (ZQ fb (rmA A))).files Zn=some fb from Wr fb A] at hno
  cases hno
 ·have hfe:f=fb:=by
   have h9:=Wr fb A
   unfold an1 at h9
   rw[h9] at hg
   exact (Option.some.inj hg).symm
  subst hfe
  have hb2:1048576<bs.length:=by
   have h9:=hsz
   unfold an1 at h9
   omega
  have H4:=Jh (And.intro (T2.out.trans ht4) (And.intro (H2.out.2.1.turn T2.out.is_ ht4) (And.intro hb2 (Nat.le_trans H2.out.2.2.1 ht4.ext.size))))
  clear hg hbig ht4 hv2 hsz hb2
  have c4:=H4.out.2.1.c0
  go_wp2_with fail
  refine (ZX _ 62 _).mono ?_
  rintro e w5 ⟨rfl,rfl⟩
  rw[V9 _ (by decide)]
  unfold Yk
  go_wp2_with fail
  refine (QJ H4.out.1.is_ H4.out.2.2.2 Zn S2.out.now0 (by have:=S2.out.now;omega) (by have:=S2.out.chg;omega)).mono ?_
  rintro e w6 hp
  rcases hp with ⟨hno,_⟩|⟨g,D6,_,rfl,ht6⟩
  ·rw[show Z8 (Zz ⟨0,Zn,⟨#[]⟩,some f⟩ (ZQ f (rmA A))).files Zn=some f from Wr f A] at hno
   cases hno
  ·have H6:=Jh (H4.out.1.trans ht6)
   clear ht6
   go_wp2_with fail
   go_ret
   exact .inr ⟨H4.out.2.2.1,⟨_,rfl⟩,f,D6,by have:=H2.out.2.2.2;rwa [VE] at this,H6.out⟩
 ·have hfe:f=fb:=by
   have h9:=Wr fb A
   unfold an1 at h9
   rw[h9] at hg
   exact (Option.some.inj hg).symm
  subst hfe
  have hb2:bs.length≤1048576:=by
   have h9:=hsz
   unfold an1 at h9
   omega
  have S4:=Jh (S2.out.app hg hsm4)
  have H4:=Jh (And.intro (T2.out.trans ht4) (And.intro (H2.out.2.1.turn T2.out.is_ ht4) (And.intro hb2 (Nat.le_trans H2.out.2.2.1 ht4.ext.size))))
  clear hg hsm4 ht4 hv2 hsz hb2
  have c4:=H4.out.2.1.c0
  go_wp2_with fail
  refine (ZX _ 0 _).mono ?_
  rintro e w5 ⟨rfl,rfl⟩
  rw[YB]
  go_wp2_with fail
  have hx0:Below w5.heap.size w5 (w5.alloc (.cells #[.string ⟨#[115,121,110,99]⟩,.string ⟨#[110,97,109,101,115]⟩,.string ⟨#[114,101,110,97,109,101]⟩,.string ⟨#[110,97,109,101,115]⟩] 9)):=(Below.refl _ _).alloc (Nat.le_refl _) _
  have hn0:=ZK w5 (.cells #[.string ⟨#[115,121,110,99]⟩,.string ⟨#[110,97,109,101,115]⟩,.string ⟨#[114,101,110,97,109,101]⟩,.string ⟨#[110,97,109,101,115]⟩] 9)
  obtain ⟨w6,hw6⟩:=Je (w5.alloc (.cells #[.string ⟨#[115,121,110,99]⟩,.string ⟨#[110,97,109,101,115]⟩,.string ⟨#[114,101,110,97,109,101]⟩,.string ⟨#[110,97,109,101,115]⟩] 9))
  rw[hw6] at hx0 hn0 ⊢
  have HB0:=Jh (And.intro (H4.out.1.trans (Ze.below H4.out.1.is_ hx0)) (And.intro (H4.out.2.1.below hx0) (And.intro hn0 (Nat.le_trans H4.out.2.2.2 hx0.size))))
  have HW6:=Lib.hid hw6
  clear hx0 hn0 c1 c2 c4 hw6
  refine wp_loop_rounds 5 ?_
  have cS0:w6.cell? ⟨w5.heap.size,0,none⟩=some (.string ⟨#[115,121,110,99]⟩):=Joins.cell_of_block HB0.out.2.2.1 0
  have cL0:=HB0.out.2.1.c0
  rw[rounds_succ]
  go_wp2_with fail
  refine (Qx HB0.out.1.is_ Zn S4.out (by omega)).mono ?_
  rintro e w7 hp
  unfold Sq at hp
  rcases hp with ⟨hno,_⟩|⟨g,hg,rfl,ht⟩
  ·rw[show Z8 (Yw f bs (Zz ⟨0,Zn,⟨#[]⟩,some f⟩ (ZQ f (rmA A)))).files Zn=some f from Wr f A] at hno
   cases hno
  have hge:g=f:=by
   rw[show Z8 (Yw f bs (Zz ⟨0,Zn,⟨#[]⟩,some f⟩ (ZQ f (rmA A)))).files Zn=some f from Wr f A] at hg
   exact (Option.some.inj hg).symm
  subst hge
  have S5:=Jh (S4.out.sync hg)
  clear hg
  have HB1:=Jh (And.intro (HB0.out.1.trans ht) (And.intro (HB0.out.2.1.turn HB0.out.1.is_ ht) (And.intro (ht.keep HB0.out.1.is_ HB0.out.2.2.1 (by rw[YW HB0.out.2.2.1];unfold WE;decide)) (Nat.le_trans HB0.out.2.2.2 ht.ext.size))))
  clear ht cS0 cL0
  go_wp2_with fail
  refine (ZX _ 0 _).mono ?_
  rintro e wq0 ⟨rfl,rfl⟩
  rw[YB]
  go_wp2_with fail
  have cS1:wq0.cell? ⟨w5.heap.size,1,none⟩=some (.string ⟨#[110,97,109,101,115]⟩):=Joins.cell_of_block HB1.out.2.2.1 1
  have cL1:=HB1.out.2.1.c0
  rw[rounds_succ]
  go_wp2_with fail
  refine (VK HB1.out.1.is_ HB1.out.2.2.2 S5.out.now0 (by have:=S5.out.now;omega) (by have:=S5.out.syn;omega)).mono ?_
  rintro e w8 ⟨rfl,D8,ht⟩
  have S6:=Lib.hid S5.out.syn_
  have HB2:=Jh (And.intro (HB1.out.1.trans ht) (And.intro (HB1.out.2.1.turn HB1.out.1.is_ ht) (And.intro (ht.keep HB1.out.1.is_ HB1.out.2.2.1 (by rw[YW HB1.out.2.2.1];unfold WE;decide)) (Nat.le_trans HB1.out.2.2.2 ht.ext.size))))
  clear ht cS1 cL1
  go_wp2_with fail
  refine (ZX _ 0 _).mono ?_
  rintro e wq1 ⟨rfl,rfl⟩
  rw[YB]
  go_wp2_with fail
  have cS2:wq1.cell? ⟨w5.heap.size,2,none⟩=some (.string ⟨#[114,101,110,97,109,101]⟩):=Joins.cell_of_block HB2.out.2.2.1 2
  have cL2:=HB2.out.2.1.c0
  rw[rounds_succ]
  go_wp2_with fail
  refine (Z51 HB2.out.1.is_ HB2.out.2.2.2 Zn Zl S6.out.now0 (by have:=S6.out.now;omega) (by have:=S6.out.chg;omega)).mono ?_
  rintro e w9 hp
  rcases hp with ⟨hno,_⟩|⟨_,hno,_⟩|⟨h,D9,_,hg,rfl,ht⟩
  ·rw[Va] at hno;cases hno
  ·rw[show Z8 (XO (X4 g (Yw g bs (Zz ⟨0,Zn,⟨#[]⟩,some g⟩ (ZQ g (rmA A)))))).files Zn=some g from Wr g A] at hno
   cases hno
  rw[show Z8 (XO (X4 g (Yw g bs (Zz ⟨0,Zn,⟨#[]⟩,some g⟩ (ZQ g (rmA A)))))).files Zn=some g from Wr g A] at hg
  have hhe:=Option.some.inj hg
  subst hhe
  have S7:=Jh (S6.out.step ⟨0,Zl,Zn,some g⟩)
  clear hg
  have HB3:=Jh (And.intro (HB2.out.1.trans ht) (And.intro (HB2.out.2.1.turn HB2.out.1.is_ ht) (And.intro (ht.keep HB2.out.1.is_ HB2.out.2.2.1 (by rw[YW HB2.out.2.2.1];unfold WE;decide)) (Nat.le_trans HB2.out.2.2.2 ht.ext.size))))
  clear ht cS2 cL2
  go_wp2_with fail
  refine (ZX _ 0 _).mono ?_
  rintro e wq2 ⟨rfl,rfl⟩
  rw[YB]
  go_wp2_with fail
  have cS3:wq2.cell? ⟨w5.heap.size,3,none⟩=some (.string ⟨#[110,97,109,101,115]⟩):=Joins.cell_of_block HB3.out.2.2.1 3
  have cL3:=HB3.out.2.1.c0
  rw[rounds_succ]
  go_wp2_with fail
  refine (VK HB3.out.1.is_ HB3.out.2.2.2 S7.out.now0 (by have:=S7.out.now;omega) (by have:=S7.out.syn;omega)).mono ?_
  rintro e w10 ⟨rfl,D10,ht⟩
  have HB4:=Jh (And.intro (HB3.out.1.trans ht) (And.intro (HB3.out.2.1.turn HB3.out.1.is_ ht) (And.intro (ht.keep HB3.out.1.is_ HB3.out.2.2.1 (by rw[YW HB3.out.2.2.1];unfold WE;decide)) (Nat.le_trans HB3.out.2.2.2 ht.ext.size))))
  clear ht cS3 cL3
  go_wp2_with fail
  refine (ZX _ 0 _).mono ?_
  rintro e wq3 ⟨rfl,rfl⟩
  rw[YB]
  go_wp2_with fail
  rw[rounds_succ]
  go_wp2_with fail
  go_ret
  exact .inl ⟨H4.out.2.2.1,rfl,g,_,by have:=H2.out.2.2.2;rwa [VE] at this,HB4.out.1⟩
def Yo (l:List OpD):Prop:=l≠[]∧l.length≤200∧(∀ x∈l,x.right=true∧x.wf)∧(Xj l).length≤65536
theorem Wz (l:List OpD):(Yt l).length=11+(Xj l).length:=R8 _ _
theorem Wg {b:List UInt8} {l:List OpD} {n:Nat}:YM b=some (l,n)↔Yo l∧n=(Yt l).length∧Yt l <+: b:=by
 constructor
 ·intro h
  cases ht:Yu b with
  | none=>rw[Uq ht] at h;cases h
  | some p =>
   obtain ⟨k,body⟩:=p
   by_cases hk:k=66
   ·subst hk
    cases hd:Xb body with
    | none=>rw[Z0z ht hd] at h;cases h
    | some m =>
     by_cases hm:m=[]
     ·subst hm;rw[Qr ht hd] at h;cases h
     ·rw[Tp ht hd hm] at h
      cases h
      have h1:=Q9 ht
      have h2:=Z2J.1 hd
      have h3:=h1.1
      have h4:=h1.2
      rw[←h2.2.2] at h3 h4 ⊢
      exact ⟨⟨hm,h2.1,h2.2.1,h3⟩,(Wz l).symm,h4⟩
   ·rw[SY ht hk] at h;cases h
 ·rintro ⟨hg,rfl,hp⟩
  have ht:Yu b=some (66,Xj l):=Z3c ⟨hg.2.2.2,hp⟩
  rw[Tp ht (Z2J.2 ⟨hg.2.1,hg.2.2.1,rfl⟩) hg.1,Wz]
theorem Z2I {l m:List OpD} (hl:Yo l) (hm:Yo m) {r s:List UInt8} (h:Yt l++r=Yt m++s):l=m∧r=s:=by
 have h1:YM (Yt l++r)=some (l,(Yt l).length):=Wg.2 ⟨hl,rfl,List.prefix_append _ _⟩
 have h2:YM (Yt m++s)=some (m,(Yt m).length):=Wg.2 ⟨hm,rfl,List.prefix_append _ _⟩
 rw[h,h2] at h1
 cases h1
 exact ⟨rfl,List.append_cancel_left h⟩
noncomputable def Z0G:Nat→List UInt8→List (List OpD)
 | 0,_=>[]
 | k+1,b=>match YM b with|none=>[]|some (l,n)=>l :: Z0G k (b.drop n)
noncomputable def Xc (b:List UInt8):List (List OpD):=Z0G b.length b
def ZG (ls:List (List OpD)):List UInt8:=ls.flatMap Yt
theorem V7 (l:List OpD) (ls:List (List OpD)):ZG (l :: ls)=Yt l++ZG ls:=rfl
theorem XN (ls ms:List (List OpD)):ZG (ls++ms)=ZG ls++ZG ms:=by unfold ZG;rw[List.flatMap_append]
theorem VC (l:List OpD):ZG [l]=Yt l:=by unfold ZG;simp
noncomputable def XD (b:List UInt8):Nat:=(ZG (Xc b)).length
theorem Q6 {b:List UInt8} {l:List OpD} {n:Nat} (h:YM b=some (l,n)):b=Yt l++b.drop n∧0<n∧n≤b.length:=by
 obtain ⟨hg,rfl,r,rfl⟩:=Wg.1 h
 refine ⟨by rw[List.drop_left],by rw[Wz];omega,by simp⟩
theorem Z59:∀ (k:Nat) (b:List UInt8),b.length≤k→(∀ l∈Z0G k b,Yo l)∧∃ r,b=ZG (Z0G k b)++r∧YM r=none:=by
 intro k
 induction k with
 | zero =>
  intro b hb
  obtain rfl:b=[]:=List.length_eq_zero_iff.1 (by omega)
  exact ⟨fun l hl=>(by cases hl),[],rfl,Uq (Xp (by simp))⟩
 | succ k ih =>
  intro b hb
  cases ht:YM b with
  | none =>
   rw[Z0G,ht]
   exact ⟨fun l hl=>(by cases hl),b,rfl,ht⟩
  | some p =>
   obtain ⟨l,n⟩:=p
   rw[Z0G,ht]
   dsimp only
   obtain ⟨h1,h2,h3⟩:=Q6 ht
   obtain ⟨g,r,e,hr⟩:=ih (b.drop n) (by rw[List.length_drop];omega)
   refine ⟨fun m hm=>?_,r,?_,hr⟩
   ·rcases List.mem_cons.1 hm with rfl|hm
    ·exact (Wg.1 ht).1
    ·exact g m hm
   ·rw[V7,List.append_assoc,←e]
    exact h1
theorem Z0g:∀ {ls ms:List (List OpD)} {r s:List UInt8},(∀ l∈ls,Yo l)→(∀ l∈ms,Yo l)→ZG ls++r=ZG ms++s→YM r=none→YM s=none→ls=ms∧r=s
 | [],[],r,s,_,_,h,_,_=>⟨rfl,h⟩
 | [],m :: ms,r,s,_,hm,h,hr,_=>by
  rw[V7,List.append_assoc] at h
  have:YM r=some (m,(Yt m).length):=Wg.2 ⟨hm m (by simp),rfl,⟨_,h.symm⟩⟩
  rw[hr] at this
  cases this
 | l :: ls,[],r,s,hl,_,h,_,hs=>by
  rw[V7,List.append_assoc] at h
  have:YM s=some (l,(Yt l).length):=Wg.2 ⟨hl l (by simp),rfl,⟨_,h⟩⟩
  rw[hs] at this
  cases this
 | l :: ls,m :: ms,r,s,hl,hm,h,hr,hs=>by
  rw[V7,V7,List.append_assoc,List.append_assoc] at h
  obtain ⟨rfl,h2⟩:=Z2I (hl l (by simp)) (hm m (by simp)) h
  obtain ⟨rfl,h3⟩:=Z0g (fun x hx=>hl x (by simp[hx])) (fun x hx=>hm x (by simp[hx])) h2 hr hs
  exact ⟨rfl,h3⟩
theorem Z6w {b x r:List UInt8} (h:b=x++r):b.drop x.length=r:=by subst h;exact List.drop_left
theorem Z6h {b x r:List UInt8} (h:b=x++r):b.take x.length=x:=by subst h;exact List.take_left
theorem WS (b:List UInt8):(∀ l∈Xc b,Yo l)∧b=ZG (Xc b)++b.drop (XD b)∧YM (b.drop (XD b))=none:=by
 obtain ⟨g,r,e,hr⟩:=Z59 b.length b (Nat.le_refl _)
 have e2:b.drop (XD b)=r:=Z6w e
 exact ⟨g,by rw[e2];exact e,by rw[e2];exact hr⟩
theorem Ri {b r:List UInt8} {ls:List (List OpD)} (hg:∀ l∈ls,Yo l) (hb:b=ZG ls++r) (hr:YM r=none):Xc b=ls∧b.drop (XD b)=r:=by
 obtain ⟨g,e,h⟩:=WS b
 obtain ⟨h1,h2⟩:=Z0g g hg (e.symm.trans hb) h hr
 exact ⟨h1,h2⟩
theorem Z3X {b r:List UInt8} {ls:List (List OpD)} (hg:∀ l∈ls,Yo l) (hb:b=ZG ls++r) (hr:YM r=none):XD b=(ZG ls).length:=by
 unfold XD
 rw[(Ri hg hb hr).1]
theorem Z1h:YM []=none:=Uq (Xp (by simp))
theorem Rr (b:List UInt8):XD b≤b.length:=by
 have h:=(WS b).2.1
 have h2:=congrArg List.length h
 rw[List.length_append,List.length_drop] at h2
 change b.length=XD b+(b.length - XD b) at h2
 omega
theorem R9 (b:List UInt8):b.take (XD b)=ZG (Xc b):=by
 exact Z6h (WS b).2.1
structure Xi (base:Nat) (w:World) (pb lb:Nat) (vo:Value) (L:List OpD) (sy:Int):Prop where
 b:Xh w lb pb vo sy
 o:Own OpD.cells 26 68 base w vo L
 lo:base≤lb
 wf:∀ x∈L,x.wf
theorem Qz:¬ WE (some 68):=by unfold WE;decide
theorem Z7M:¬ WE (some 133):=by unfold WE;decide
theorem Z5r:¬ WE (some 5):=by unfold WE;decide
section
variable {base B:Nat} {w w' w'':World} {D D' D'':DSh} {A A' A'':Z4} {pb lb:Nat} {vo vo' vo'':Value} {L L' L'':List OpD} {sy sy' sy'':Int}
theorem Xi.below (h:Xi base w pb lb vo L sy) (hb:Below w.heap.size w w'):Xi base w' pb lb vo L sy:=⟨h.b.below hb,h.o.below1 hb,h.lo,h.wf⟩
theorem Xi.turn (h:Xi base w D.pb lb vo L sy) (hd:Zb B w D A) (ht:Ze B w D A w' D' A'):Xi base w' D'.pb lb vo L sy :=
 ⟨h.b.turn hd ht,h.o.ext ht.ext (fun b hb hf=>Qz (by rw[←Zk h.o hb];exact hd.dtag hf)),h.lo,h.wf⟩
theorem Xi.mono (h:Xi base w pb lb vo L sy) (hb:B≤base):Xi B w pb lb vo L sy:=⟨h.b,h.o.mono hb,Nat.le_trans hb h.lo,h.wf⟩
structure LT (base:Nat) (w:World) (D:DSh) (A:Z4) (lb:Nat) (vo:Value) (w':World) (D':DSh) (A':Z4) (vo':Value) (L':List OpD) (sy':Int):Prop where
 disk:Zb base w' D' A'
 pb:D'.pb=D.pb
 log:Xi base w' D'.pb lb vo' L' sy'
 ext:Ext (fun b=>Wn D A b∨b=lb∨vo.ownBlock=some b) w w'
 foot:∀ b,Wn D' A' b→Wn D A b∨w.heap.size≤b
 own:∀ b,vo'.ownBlock=some b→vo.ownBlock=some b∨w.heap.size≤b
theorem LT.of_turned (hd:Zb base w D A) (hl:Xi base w D.pb lb vo L sy) (ht:Ze base w D A w' D' A'):LT base w D A lb vo w' D' A' vo L sy :=
 ⟨ht.is_,ht.pb,hl.turn hd ht,ht.ext.mono (fun _ _ h=>.inl h),ht.foot,fun _ h=>.inl h⟩
theorem LT.trans (h:LT base w D A lb vo w' D' A' vo' L' sy') (k:LT base w' D' A' lb vo' w'' D'' A'' vo'' L'' sy''):LT base w D A lb vo w'' D'' A'' vo'' L'' sy'' where
 disk:=k.disk
 pb:=k.pb.trans h.pb
 log:=k.log
 ext:=h.ext.andThen k.ext (fun i hi hs=>by
  rcases hs with hs|hs|hs
  ·exact .inl ((h.foot i hs).resolve_right (by omega))
  ·exact .inr (.inl hs)
  ·exact .inr (.inr ((h.own i hs).resolve_right (by omega))))
 foot b hb:=by
  rcases k.foot b hb with e|e
  ·exact h.foot b e
  ·exact .inr (Nat.le_trans h.ext.size e)
 own b hb:=by
  rcases k.own b hb with e|e
  ·exact h.own b e
  ·exact .inr (Nat.le_trans h.ext.size e)
theorem LT.turn (h:LT base w D A lb vo w' D' A' vo' L' sy') (k:Ze base w' D' A' w'' D'' A''):LT base w D A lb vo w'' D'' A'' vo' L' sy':=h.trans (LT.of_turned h.disk h.log k)
theorem LT.below (h:LT base w D A lb vo w' D' A' vo' L' sy') (k:Below w'.heap.size w' w''):LT base w D A lb vo w'' D' A' vo' L' sy':=h.turn (Ze.below h.disk k)
theorem LT.frame {w0:World} (h:LT base w D A lb vo w' D' A' vo' L' sy') (hd:Zb base w D A) (hl:Xi base w D.pb lb vo L sy) (hb:Below B w0 w) (hB:B≤base) (hs:B≤w.heap.size):Below B w0 w' :=
 Ext.new hb h.ext (fun i hi _ hp=>by
  rcases hp with hp|hp|hp
  ·have:=(hd.foot hp).1;omega
  ·have:=hl.lo;omega
  ·have:=(hl.o.blk i hp).1;omega) hs
theorem Xh.set1 (h:Xh w lb pb vo sy) (v:Value):Xh (w.setCell ⟨lb,1,none⟩ v) lb pb v sy:=by
 have:=Joins.block_setCell (i:=1) h v
 exact this
theorem Xh.set2 (h:Xh w lb pb vo sy) (n:Int):Xh (w.setCell ⟨lb,2,none⟩ (.int .i64 n)) lb pb vo n:=by
 have:=Joins.block_setCell (i:=2) h (.int .i64 n)
 exact this
theorem Xi.set2 (h:Xi base w pb lb vo L sy) (n:Int):Xi base (w.setCell ⟨lb,2,none⟩ (.int .i64 n)) pb lb vo L n :=
 ⟨h.b.set2 n,h.o.ext (YO w lb 2 _) (fun b hb e=>ZO (Zk h.o hb) h.b.tag (by decide) e),h.lo,h.wf⟩
theorem Zb.setLog (hd:Zb base w D A) (hl:Xh w lb pb vo sy) (i:Nat) (v:Value):Zb base (w.setCell ⟨lb,i,none⟩ v) D A :=
 hd.ext (YO w lb i v) (fun b hb e=>Z7M (by rw[←hl.tag];subst e;exact hd.dtag hb)) (fun b _ ht e=>ZO ht hl.tag (by decide) e)
theorem LT.set2 (h:LT base w D A lb vo w' D' A' vo' L' sy') (n:Int):LT base w D A lb vo (w'.setCell ⟨lb,2,none⟩ (.int .i64 n)) D' A' vo' L' n :=
 ⟨h.disk.setLog h.log.b 2 _,h.pb,h.log.set2 n,h.ext.setCell (p:=⟨lb,2,none⟩) (.inr (.inr (.inl rfl))) _,h.foot,h.own⟩
theorem LT.more (h:LT base w D A lb vo w' D' A' vo' L' sy') {v:Value} {xs:List OpD} (hx:Ext (fun b=>vo'.ownBlock=some b) w' w'') (ho:Own OpD.cells 26 68 base w'' v (L'++xs)) (hn:∀ b,v.ownBlock=some b→vo'.ownBlock=some b∨w'.heap.size≤b) (hwf:∀ x∈xs,x.wf) :
  LT base w D A lb vo (w''.setCell ⟨lb,1,none⟩ v) D' A' v (L'++xs) sy':=by
 have hl2:Xh w'' lb D'.pb vo' sy':=(hx.block lb h.log.b.lt (fun e=>ZO (Zk h.log.o e) h.log.b.tag (by decide) rfl)).trans h.log.b
 have hd2:Zb base w'' D' A':=h.disk.ext hx (fun b hb e=>Qz (by rw[←Zk h.log.o e];exact h.disk.dtag hb)) (fun b _ ht e=>ZO ht (Zk h.log.o e) (by decide) rfl)
 refine ⟨hd2.setLog hl2 1 v,h.pb,⟨hl2.set1 v,ho.ext (YO w'' lb 1 v) (fun b hb e=>ZO (Zk ho hb) hl2.tag (by decide) e),h.log.lo,fun x hx=>?_⟩,?_,h.foot,fun b hb=>?_⟩
 ·rcases List.mem_append.1 hx with hx|hx
  ·exact h.log.wf x hx
  ·exact hwf x hx
 ·refine Ext.setCell (p:=⟨lb,1,none⟩) ?_ (.inr (.inr (.inl rfl))) _
  exact h.ext.andThen hx (fun i hi hs=>.inr (.inr ((h.own i hs).resolve_right (by omega))))
 ·rcases hn b hb with e|e
  ·exact h.own b e
  ·exact .inr (Nat.le_trans h.ext.size e)
end
def Rq (A A':Z4) (L:List OpD):Prop :=
 (Z8 A.files Zl=none∧L=[]∧∃ fb,fb∉A.ids∧A'=XO (Zz ⟨0,Zl,⟨#[]⟩,some fb⟩ (ZQ fb (rmA A)))) ∨
 (∃ f,Z8 A.files Zl=some f∧L=(Xc (Zp (A.fs f))).flatten ∧
  (
   ((XD (Zp (A.fs f))<(Zp (A.fs f)).length∨Z8 A.files Zn≠none)∧∃ fb,fb∉A.ids∧A'=Ro fb ((Zp (A.fs f)).take (XD (Zp (A.fs f)))) A) ∨
   (XD (Zp (A.fs f))=(Zp (A.fs f)).length∧Z8 A.files Zn=none∧A'=XO (X4 f A))))
theorem Z05 {P:Program} {α:Type} {ea:α→List Value} {q:Nat} {t e:TypeId} (ht:P.underlying t=some (.slice e)) (hsz:(P.info? e).map (·.size)=some q) (a:Option Addr) (n cap p:Nat) (hn:n≤cap) (hp:p≤n) :
  ∃ a',(∀ W,(Instr.slice t (.slice a n cap) none (some (.int .i64 (p:Int))) none).run P W=.ok (.slice a' p cap) W)∧(∀ W (l:List α),l.length=n→Z0 ea q W (.slice a n cap) l→Z0 ea q W (.slice a' p cap) (l.take p))∧(∀ ad,a'=some ad→∃ ad0,a=some ad0∧ad.block=ad0.block):=by
 obtain ⟨a',h1,h2⟩:=Ye (ea:=ea) ht hsz a n cap p hn hp
 refine ⟨a',h1,h2,fun ad had=>?_⟩
 obtain ⟨i,hi,hq⟩:∃ i,P.info? e=some i∧i.size=q:=by
  cases h:P.info? e with
  | none=>rw[h] at hsz;cases hsz
  | some i=>rw[h] at hsz;exact ⟨i,rfl,Option.some.inj hsz⟩
 have hpc:p≤cap:=by omega
 have h3:=h1 default
 simp[Instr.slice,Instr.sliceBounds,Instr.sliceBound,asIntOf,run_underlying ht,sizeOf,typeInfo,hi,hq,hpc,hn,eq_comm] at h3
 subst h3
 split at had
 ·exact ⟨ad,had,rfl⟩
 ·cases a with
  | none=>cases had
  | some a0 =>
   simp at had
   subst had
   refine ⟨a0,rfl,?_⟩
   unfold Addr.add
   split <;> rfl
theorem Tj {P:Program} {w:World} {α:Type} {ea:α→List Value} {k:Nat} {e:TypeId} {base:Nat} {v vx:Value} {l ys:List α} (t ty:TypeId) (i:TypeInfo) (z:Value) (bytes:Nat) (ht:P.underlying t=some (.slice e)) (hi:P.info? e=some i) (hz:i.zero=some z)
  (hsize:i.size=k) (hby:i.bytes=bytes) (hzs:z.cells.size=k) (hk0:0<k) (hk:∀ x,(ea x).length=k) (h1:∀ x,∀ u∈ea x,u.oneCell'=true)
  (hown:Own ea k e base w v l) (hx:Z0 ea k w vx ys) (hne:ys≠[]) (h63:l.length+ys.length≤maxLen) (hbytes:(l.length+ys.length)*bytes≤140737488355328) (hbase:base≤w.heap.size) :
  ∃ v' w',(Builtin.append_ #[t,t] ty #[v,vx]).run P w=.ok v' w'∧Own ea k e base w' v' (l++ys)∧Ext (fun b=>v.ownBlock=some b) w w'∧∀ b,v'.ownBlock=some b→v.ownBlock=some b∨w.heap.size≤b:=by
 obtain ⟨v',w',hr,ho,hxt⟩:=Yd t ty i z bytes ht hi hz hsize hby hzs hk0 hk h1 hown hx h63 hbytes hbase
 refine ⟨v',w',hr,ho,hxt,?_⟩
 obtain ⟨a,cap,rfl,hcap,hmax,hcs⟩:=hx
 obtain ⟨b,o,rfl,hc⟩:=hcs hne
 refine Z0h t ty i z k bytes ht hi hz hsize hby v l.length (l.flatMap ea) hown ⟨b,o,none⟩ ys.length cap (ys.flatMap ea) (by rw[Zw hk]) (fun j u hj=>?_) (fun u hu=>?_) h63 hbytes (List.length_pos_iff.2 hne) hr
 ·have hjl:=(List.getElem?_eq_some_iff.1 hj).1
  rw[Zw hk] at hjl
  have hdm:j / k*k+j % k=j:=by rw[Nat.mul_comm];exact Nat.div_add_mod j k
  have hq:j / k<ys.length:=Nat.div_lt_of_lt_mul (by rw[Nat.mul_comm];exact hjl)
  obtain ⟨x,hx⟩:∃ x,ys[j / k]?=some x:=⟨_,List.getElem?_eq_getElem hq⟩
  obtain ⟨u',hu'⟩:∃ u',(ea x)[j % k]?=some u':=⟨_,List.getElem?_eq_getElem (by rw[hk];exact Nat.mod_lt _ hk0)⟩
  have h3:=getElem?_flatMap_k hk ys (j / k) x hx (j % k) u' hu'
  rw[hdm,hj] at h3
  cases h3
  have h4:=hc (j / k) x hx (j % k) u hu'
  rw[Nat.add_assoc,hdm] at h4
  rw[show (Addr.add ⟨b,o,none⟩ j)=⟨b,o+j,none⟩ from by unfold Addr.add;split <;> simp_all]
  exact h4
 ·obtain ⟨x,_,hx⟩:=List.mem_flatMap.1 hu
  exact h1 x u hx
theorem Xy.extB {S:Nat→Prop} {w w':World} (h:Xy w) (hx:Ext S w w') (hS:∀ i,S i→0<i):Xy w':=hx.keep h (fun e=>by have:=hS 0 e;omega)
theorem Ze.errTy {base:Nat} {w w':World} {D D':DSh} {A A':Z4} (h:Ze base w D A w' D' A') (hd:Zb base w D A) (h0:0<base) (hg:Xy w):Xy w' :=
 hg.extB h.ext (fun i hi=>by have:=(hd.foot hi).1;omega)
theorem VL:∀ (ls:List (List OpD)),(∀ l∈ls,Yo l)→ls.flatten.length≤200*ls.length∧11*ls.length≤(ZG ls).length
 | [],_=>⟨by simp,by simp⟩
 | l :: ls,h=>by
  obtain ⟨h1,h2⟩:=VL ls (fun m hm=>h m (by simp[hm]))
  have h3:=(h l (by simp)).2.1
  have h4:=Wz l
  rw[V7,List.length_append,List.flatten_cons,List.length_append,List.length_cons]
  constructor <;> omega
def Z33 (base:Nat) (w:World) (D:DSh) (A:Z4) (lb:Nat) (e:Ending) (w':World):Prop :=
 e=.returned .nilIface∧∃ D' A' vo L,Rq A A' L∧LT base w D A lb (.slice none 0 0) w' D' A' vo L 0
theorem Z6G {base:Nat} {w:World} {D:DSh} {A:Z4} (h:Zb base w D A) (hbw:base≤w.heap.size) {N:Nat} (hsm:A.Small N) (hN:N≤800000) (hfl:A.files.length≤7) (lb:Nat) (hl:Xi base w D.pb lb (.slice none 0 0) [] 0) (hg:Xy w) (h0:0<base) :
  Calls Tryz.prog 72 #[.pointer (some ⟨lb,0,none⟩)] w fun e w'=>Z33 base w D A lb e w':=by
 have HH:=Jh (And.intro h (And.intro hsm (And.intro hbw (And.intro hl hg))))
 have c0:=hl.b.c0
 clear h hsm hbw hl hg
 go_enter Tryz.func72,Tryz.ntmps72
 go_wp2_with fail
 refine (U8 HH.out.1 Zl HH.out.2.1 (by omega)).mono ?_
 rintro e w1 hp
 unfold Vs at hp
 rcases hp with ⟨hno,rfl,rfl⟩|⟨f,va,hf,rfl,hown,hb⟩
 ·go_wp2_with fail
  refine (ZX _ 61 _).mono ?_
  rintro e w2 ⟨rfl,rfl⟩
  rw[V9 _ (by decide)]
  go_wp2_with fail
  refine (Z82 _ 61 61 _).mono ?_
  rintro e w3 ⟨rfl,hb3⟩
  have H3:=Jh (Ze.below HH.out.1 hb3)
  have L3:=HH.out.2.2.2.1.below hb3
  have z3:=Nat.le_trans HH.out.2.2.1 hb3.size
  clear hb3
  go_wp2_with fail
  refine (Z0c H3.out.is_ z3 HH.out.2.1 (by omega) lb _ _ L3.b).mono ?_
  rintro e w4 ⟨rfl,D4,ht4⟩
  have H4:=Jh (H3.out.trans ht4)
  have L4:=L3.turn H3.out.is_ ht4
  have z4:=Nat.le_trans z3 ht4.ext.size
  have c4:=L4.b.c0
  have S4:=Lib.hid HH.out.2.1.rm
  have hmk:Y4 (rmA A) Zl=0:=by
   have h1:Z8 (rmA A).files Zl=none:=by
    unfold rmA
    split
    ·exact hno
    ·show Z8 (ZU ⟨0,⟨#[]⟩,Zn,none⟩ A.files) Zl=none
     rw[Xe _ _ HH.out.1.mfiles.1]
     dsimp only
     split
     ·rfl
     ·exact hno
   have h2:=Z0P A
   unfold Y4
   rw[Va,h1]
   simp
   omega
  clear ht4 L3 z3 c0
  go_wp2_with fail
  refine (Sw H4.out.is_ z4 Zl S4.out.now0 (by have:=S4.out.now;omega) (by have:=S4.out.chg;omega)).mono ?_
  rintro e w5 ⟨rfl,hp⟩
  rw[hmk] at hp ⊢
  rcases hp with ⟨hc,_⟩|⟨_,fb,D5,hfb,ht5⟩
  ·exact absurd rfl hc
  have H5:=Jh (H4.out.trans ht5)
  have L5:=L4.turn H4.out.is_ ht5
  have z5:=Nat.le_trans z4 ht5.ext.size
  have c5:=L5.b.c0
  have S5:=Jh (S4.out.make hmk hfb)
  rw[VE] at hfb
  have F5:=Lib.hid hfb
  clear ht5 L4 z4 c4 hmk hfb
  go_wp2_with fail
  refine (ZX _ 0 _).mono ?_
  rintro e w6 ⟨rfl,rfl⟩
  rw[YB]
  go_wp2_with fail
  refine (VK H5.out.is_ z5 S5.out.now0 (by have:=S5.out.now;omega) (by have:=S5.out.syn;omega)).mono ?_
  rintro e w7 ⟨rfl,D7,ht7⟩
  have H7:=Jh (H5.out.trans ht7)
  clear ht7 L5 z5 c5
  go_wp2_with fail
  refine (ZX _ 0 _).mono ?_
  rintro e w8 ⟨rfl,rfl⟩
  rw[YB]
  go_wp2_with fail
  go_ret
  exact ⟨rfl,D7,_,_,[],.inl ⟨hno,rfl,fb,F5.out,rfl⟩,LT.of_turned HH.out.1 HH.out.2.2.2.1 H7.out⟩
 ·obtain ⟨xa,xc,hv1,hxc,hxm,-⟩:=hown.slice Z6
  unfold maxLen at hxm
  obtain ⟨b,hbe⟩:=Je (Zp (A.fs f))
  have hbl:b.length≤1048576:=by rw[←hbe,VQ];exact HH.out.1.ok.sz f (HH.out.1.ok.inf _ _ (Wy hf)).1
  rw[hbe] at hown hv1 hxc
  have HS:Hid (Z0 u8c 1 w1 va b∧Own u8c 1 5 w.heap.size w1 va b):=Lib.hid ⟨hown.slice Z6,hown⟩
  have HF:=Jh (And.intro hf hbe)
  subst hv1
  have T1:=Jh (LT.of_turned HH.out.1 HH.out.2.2.2.1 (Ze.below HH.out.1 hb))
  have G1:=Jh (HH.out.2.2.2.2.below hb)
  have z1:=Nat.le_trans HH.out.2.2.1 hb.size
  clear hown hf hb hbe c0
  obtain ⟨q,hq⟩:=Je (b.length)
  have HQ:=Lib.hid hq
  rw[hq] at hxc hbl ⊢
  clear hq
  go_wp2_with fail
  refine (ZX _ 0 _).mono ?_
  rintro e w2 ⟨rfl,rfl⟩
  rw[YB]
  go_wp2_with fail
  refine (Z7v 61 _).mono ?_
  rintro e w3 ⟨rfl,rfl⟩
  go_wp2_with fail
  go_loopg [8] q (fun g kv wx=>∃ (ls:List (List OpD)) (k:Nat) (vo:Value),g=q - k∧kv=.int .i64 k∧k≤q∧Hid (k=(ZG ls).length∧b=ZG ls++b.drop k∧(∀ l∈ls,Yo l)) ∧
   Hid (LT base w D A lb (.slice none 0 0) wx D A vo ls.flatten 0∧Own u8c 1 5 w.heap.size wx (.slice xa q xc) b∧Xy wx∧base≤wx.heap.size))
  case atStart=>exact ⟨[],0,_,rfl,rfl,Nat.zero_le _,Lib.hid ⟨rfl,by simp[ZG],fun l hl=>(by cases hl)⟩,Lib.hid ⟨T1.out,by rw[←HQ.out];exact HS.out.2,G1.out,z1⟩⟩
  case round =>
   obtain ⟨ls,k,vo,hg,rfl,hkq,HP,HM⟩:=hrel
   have HG:=Lib.hid hg
   clear hg
   obtain ⟨a1,c1,hsl,hS1,-⟩:=ZJ (P:=Tryz.prog) (ea:=u8c) Tryz.underlying22 Zh xa q xc k hxc hkq
   have HS1:=Jh (hS1 wr b HQ.out (HM.out.2.1.slice Z6))
   have cL0:=HM.out.1.log.b.c0
   have cL1:=HM.out.1.log.b.c1
   clear hS1
   go_wp2_with fail
   refine (Z5L _ (b.drop k) _ HS1.out HM.out.2.2.1).mono ?_
   rintro e w4 hp
   unfold Z5u at hp
   rcases hp with ⟨l,n,x,hl,rfl,ho,hb4⟩|⟨hl,rfl,hb4⟩
   ·obtain ⟨hbd,hn0,hnl⟩:=Q6 hl
    obtain ⟨hgl,hne,-⟩:=Wg.1 hl
    have hkn:k+n≤q:=by rw[List.length_drop,HQ.out] at hnl;omega
    have HP2:Hid (k+n=(ZG (ls++[l])).length∧b=ZG (ls++[l])++b.drop (k+n)∧(∀ m∈ls++[l],Yo m)):=Jh (by
     refine ⟨?_,?_,fun m hm=>?_⟩
     ·rw[XN,VC,List.length_append,←hne,←HP.out.1]
     ·rw[XN,VC,List.append_assoc,←List.drop_drop,←hbd]
      exact HP.out.2.1
     ·rcases List.mem_append.1 hm with hm|hm
      ·exact HP.out.2.2 m hm
      ·rw[List.mem_singleton.1 hm];exact hgl)
    have HGL:=Lib.hid hgl
    have hcnt:=VL ls HP.out.2.2
    have hcl:ls.flatten.length≤20000000:=by have:=HP.out.1;omega
    have hll:=hgl.2.1
    have T4:=Jh (HM.out.1.below hb4)
    have O4:=Jh (HM.out.2.1.below1 hb4)
    have z4:base≤w4.heap.size:=Nat.le_trans HM.out.2.2.2 hb4.size
    have G4:=Jh (HM.out.2.2.1.below hb4)
    obtain ⟨ya,yc,hx,hyc,hym,-⟩:=ho.slice OpD.len
    unfold maxLen at hym
    have hl0:¬ ((l.length:Nat):Int)=0:=by have:=List.length_pos_iff.2 hgl.1;omega
    subst hx
    have hox:=ho.slice OpD.len
    obtain ⟨i0,hi,hz0,hz1,hz2⟩:=info_parts UJ
    obtain ⟨v',w',hr,ho5,hx5,hn5⟩:=Tj (P:=Tryz.prog) 24 24 i0 _ _ Tryz.underlying24 hi hz0 hz1 hz2 rfl (by omega) OpD.len OpD.one T4.out.log.o hox hgl.1 (by unfold maxLen;omega) (by omega) z4
    obtain ⟨sv,hsv⟩:=ho5.slv
    subst hsv
    have hl2:=(hx5.block lb T4.out.log.b.lt (fun e=>ZO (Zk T4.out.log.o e) T4.out.log.b.tag (by decide) rfl)).trans T4.out.log.b
    have T5:=Jh (T4.out.more hx5 ho5 hn5 (fun y hy=>(HGL.out.2.2.1 y hy).2))
    have O5:Hid (Own u8c 1 5 w.heap.size w' (.slice xa q xc) b):=Jh (O4.out.ext hx5 (fun b hb e=>ZO (Zk O4.out hb) (Zk T4.out.log.o e) (by decide) rfl))
    have G5:Hid (Xy w'):=Jh (G4.out.extB hx5 (fun i hi=>by have:=(T4.out.log.o.blk i hi).1;omega))
    have z5:base≤w'.heap.size:=Nat.le_trans z4 hx5.size
    have cM0:=T4.out.log.b.c0
    have cM1:=T4.out.log.b.c1
    have fM1:w'.frozen? ⟨lb,1,none⟩=false:=Joins.unfrozen_of_block hl2 1
    have cN1:w'.cell? ⟨lb,1,none⟩=some vo:=Joins.cell_of_block hl2 1
    have HR:=Lib.hid hr
    have HL2:=Lib.hid hl2
    obtain ⟨ql,hql⟩:=Je (l.length)
    rw[hql] at hl0 hyc hll ⊢
    have HRL:Hid ((Builtin.append_ #[24,24] 24 #[vo,.slice ya ql yc]).run Tryz.prog w4=.ok (.slice sv.a sv.n sv.cap) w'):=Jh (by rw[←hql];exact HR.out)
    clear hl ho hb4 hbd hnl hgl hne hcnt hcl hox hi hz0 hz1 hz2 hr ho5 hx5 hn5 hl2 HR hql
    go_wp2_with (at_builtin;refine YV rfl _ _ _ rfl rfl rfl HRL.out ?_)
    go_roundg (q - (k+n))
    case measure=>rw[HG.out];omega
    case rel =>
     refine ⟨ls++[l],k+n,sv.val,rfl,by simp,hkn,HP2,Lib.hid ⟨?_,?_,?_,?_⟩⟩
     ·rw[List.flatten_append,List.flatten_singleton];exact T5.out
     ·exact O5.out.ext (YO w' lb 1 _) (fun b hb e=>ZO (Zk O5.out hb) (YW HL2.out) (by decide) e)
     ·exact G5.out.extB (YO w' lb 1 _) (fun i hi=>by subst hi;have:=T4.out.log.lo;omega)
     ·simpa using z5
   ·have HL:Hid (Xc b=ls∧XD b=k):=Lib.hid ⟨(Ri HP.out.2.2 HP.out.2.1 hl).1,by rw[Z3X HP.out.2.2 HP.out.2.1 hl,←HP.out.1]⟩
    have T4:=Jh (HM.out.1.below hb4)
    have O4:=Jh (HM.out.2.1.below1 hb4)
    have z4:base≤w4.heap.size:=Nat.le_trans HM.out.2.2.2 hb4.size
    have cM0:=T4.out.log.b.c0
    clear hl hb4
    by_cases hkq2:k<q
    ·have hki:(k:Int)<(q:Int):=by omega
     obtain ⟨a2,hsl2,hS2,hB2⟩:=Z05 (P:=Tryz.prog) (ea:=u8c) Tryz.underlying22 Zh xa q xc k hxc hkq
     have HS2:=Jh (hS2 w4 b HQ.out (O4.out.slice Z6))
     have HA:Hid (b.take (XD b)=b.take k):=Jh (by rw[HL.out.2])
     clear hS2
     have hvd:∀ ad,a2=some ad→¬ WE (Ys w4 ad.block):=fun ad he=>by
      obtain ⟨ad0,e0,e1⟩:=hB2 ad he
      have hown:=O4.out
      subst e0
      rcases hown.eq_slice with ⟨e2,_⟩|⟨g,c,e2,_⟩
      ·simp at e2
      ·simp only[Value.slice.injEq,Option.some.injEq] at e2
       have:=Zk hown (b:=ad0.block) (by rw[e2.1];rfl)
       rw[e1,this]
       exact Z5r
     have HVD:=Lib.hid hvd
     clear hB2 hvd
     go_wp2_with fail
     refine (Z2n T4.out.disk z4 HH.out.2.1 (by omega) hfl lb _ _ T4.out.log.b _ _ _ (b.take k) HS2.out HVD.out (by rw[List.length_take];omega)).mono ?_
     rintro e w8 hp
     unfold Qf at hp
     rcases hp with ⟨hle,rfl,fb,D8,hfb,ht⟩|⟨hbig,_⟩
     ·have T8:=Jh (T4.out.turn ht)
      clear ht
      go_wp2_with fail
      go_ret
      refine ⟨rfl,D8,_,vo,ls.flatten,.inr ⟨f,HF.out.1,by rw[HF.out.2,HL.out.1],.inl ⟨.inl (by rw[HF.out.2,HL.out.2,HQ.out];exact hkq2),fb,hfb,by rw[HF.out.2,HA.out]⟩⟩,T8.out⟩
     ·rw[List.length_take] at hbig
      omega
    ·have hki:¬ (k:Int)<(q:Int):=by omega
     go_wp2_with fail
     refine (TE T4.out.disk (by omega)).mono ?_
     rintro e w5 ⟨v5,rfl,hown5,hb5⟩
     obtain ⟨xa5,xc5,hv5,hxc5,hxm5,-⟩:=hown5.slice VZ
     have HN5:=Jh (hown5.slice VZ)
     have T5:=Jh (T4.out.below hb5)
     have O5:=Jh (O4.out.below1 hb5)
     have z5:base≤w5.heap.size:=Nat.le_trans z4 hb5.size
     have cP0:=T5.out.log.b.c0
     subst hv5
     clear hown5 hb5
     go_wp2_with fail
     refine (SX _ (XE A) Zn _ HN5.out).mono ?_
     rintro e w6 ⟨rfl,rfl⟩
     cases hn:Qb (XE A) Zn with
     | true =>
      have HNE:Hid (Z8 A.files Zn≠none):=Jh ((UC A Zn).1 hn)
      clear hn
      obtain ⟨a2,hsl2,hS2,hB2⟩:=Z05 (P:=Tryz.prog) (ea:=u8c) Tryz.underlying22 Zh xa q xc k hxc hkq
      have HS2:=Jh (hS2 w6 b HQ.out (O5.out.slice Z6))
      have HA:Hid (b.take (XD b)=b.take k):=Jh (by rw[HL.out.2])
      clear hS2
      have hvd:∀ ad,a2=some ad→¬ WE (Ys w6 ad.block):=fun ad he=>by
       obtain ⟨ad0,e0,e1⟩:=hB2 ad he
       have hown:=O5.out
       subst e0
       rcases hown.eq_slice with ⟨e2,_⟩|⟨g,c,e2,_⟩
       ·simp at e2
       ·simp only[Value.slice.injEq,Option.some.injEq] at e2
        have:=Zk hown (b:=ad0.block) (by rw[e2.1];rfl)
        rw[e1,this]
        exact Z5r
      have HVD:=Lib.hid hvd
      clear hB2 hvd
      go_wp2_with fail
      refine (Z2n T5.out.disk z5 HH.out.2.1 (by omega) hfl lb _ _ T5.out.log.b _ _ _ (b.take k) HS2.out HVD.out (by rw[List.length_take];omega)).mono ?_
      rintro e w8 hp
      unfold Qf at hp
      rcases hp with ⟨hle,rfl,fb,D8,hfb,ht⟩|⟨hbig,_⟩
      ·have T8:=Jh (T5.out.turn ht)
       clear ht
       go_wp2_with fail
       go_ret
       refine ⟨rfl,D8,_,vo,ls.flatten,.inr ⟨f,HF.out.1,by rw[HF.out.2,HL.out.1],.inl ⟨.inr HNE.out,fb,hfb,by rw[HF.out.2,HA.out]⟩⟩,T8.out⟩
      ·rw[List.length_take] at hbig
       omega
     | false =>
      have HNE:Hid (Z8 A.files Zn=none):=Jh (by
       cases hg:Z8 A.files Zn with
       | none=>rfl
       | some f=>have:=(UC A Zn).2 (by rw[hg];simp);rw[hn] at this;cases this)
      clear hn
      go_wp2_with fail
      refine (Qx T5.out.disk Zl HH.out.2.1 (by omega)).mono ?_
      rintro e w7 hp
      unfold Sq at hp
      rcases hp with ⟨hno,_⟩|⟨g,hg,rfl,ht⟩
      ·rw[HF.out.1] at hno;cases hno
      have hgf:g=f:=by rw[HF.out.1] at hg;exact (Option.some.inj hg).symm
      subst hgf
      have T7:=Jh (T5.out.turn ht)
      have S7:=Jh (HH.out.2.1.sync hg)
      have z7:=Nat.le_trans z5 ht.ext.size
      have cQ0:=T7.out.log.b.c0
      clear hg ht
      go_wp2_with fail
      refine (ZX _ 0 _).mono ?_
      rintro e w8 ⟨rfl,rfl⟩
      rw[YB]
      go_wp2_with fail
      refine (VK T7.out.disk z7 S7.out.now0 (by have:=S7.out.now;omega) (by have:=S7.out.syn;omega)).mono ?_
      rintro e w9 ⟨rfl,D9,ht⟩
      have T9:=Jh (T7.out.turn ht)
      clear ht
      go_wp2_with fail
      refine (ZX _ 0 _).mono ?_
      rintro e w10 ⟨rfl,rfl⟩
      rw[YB]
      go_wp2_with fail
      go_ret
      exact ⟨rfl,D9,_,vo,ls.flatten,.inr ⟨g,HF.out.1,by rw[HF.out.2,HL.out.1],.inr ⟨by rw[HF.out.2,HL.out.2,HQ.out];omega,HNE.out,rfl⟩⟩,T9.out⟩
theorem Z4f {l:List OpD} {vx:Value} {w:World} (h:Z0 OpD.cells 26 w vx l) (hl:l.length≤100000000) :
  Calls Tryz.prog 74 #[vx] w fun e w'=>∃ v',e=.returned v'∧Own OpD.cells 26 68 w.heap.size w' v' l∧Below w.heap.size w w':=by
 obtain ⟨i0,hi,hz0,hz1,hz2⟩:=info_parts UJ
 have h0:=h
 obtain ⟨a,cap,rfl,hcap,hmax,hcs⟩:=h
 cases a with
 | none =>
  have hys:l=[]:=Classical.byContradiction fun hn=>by obtain ⟨b,o,e,_⟩:=hcs hn;cases e
  subst hys
  clear h0 hcs
  have hnil:=fun (w:World) a n c=>Lib.run_eql_slice_nil (P:=Tryz.prog) w 24 _ a n c 0 0 Tryz.underlying24
  go_enter Tryz.func74,Tryz.ntmps74
  go_wp2
  go_ret
  exact ⟨_,rfl,Own.nil,Below.refl _ _⟩
 | some ad =>
  have ho:=Own.empty (base:=w.heap.size) OpD.cells 26 68 (w:=w) (Nat.le_refl _)
  have hx:=h0.below ((Below.refl w.heap.size w).alloc (Nat.le_refl _) (.cells #[] 68))
  obtain ⟨v',w',hr,hown,hx'⟩:=Yd (P:=Tryz.prog) 24 24 i0 _ _ Tryz.underlying24 hi hz0 hz1 hz2 rfl (by omega) OpD.len OpD.one ho hx (by simp[maxLen];omega) (by simp;omega) (by simp)
  have hB:=Ext.new ((Below.refl w.heap.size w).alloc (Nat.le_refl _) (.cells #[] 68)) hx' (fun i hi _ e=>by have:=(ho.blk i e).1;omega) (by simp)
  have HR:=Lib.hid hr
  have HO:=Lib.hid hown
  have HB:=Lib.hid hB
  clear h0 hcs ho hx hr hown hx' hB hi hz0 hz1 hz2
  have hnil:=fun (w:World) a n c=>Lib.run_eql_slice_nil (P:=Tryz.prog) w 24 _ a n c 0 0 Tryz.underlying24
  go_enter Tryz.func74,Tryz.ntmps74
  go_wp2_with (at_builtin;refine YV rfl _ _ _ rfl rfl rfl HR.out ?_)
  go_ret
  exact ⟨_,rfl,HO.out,HB.out⟩
theorem Own.raise {α:Type} {ea:α→List Value} {k:Nat} {e:TypeId} {base B:Nat} {w:World} {v:Value} {l:List α} (h:Own ea k e base w v l) (hb:∀ b,v.ownBlock=some b→B≤b):Own ea k e B w v l:=by
 obtain ⟨h1,h2⟩:=h
 refine ⟨h1,?_⟩
 rcases h2 with h2|⟨g,cap,cur,e1,h3,h4⟩
 ·exact .inl h2
 ·exact .inr ⟨g,cap,cur,e1,hb g (by rw[e1];rfl),h4⟩
section
variable {base:Nat} {w:World} {D:DSh} {A:Z4} {lb:Nat} {vo:Value} {L:List OpD} {sy:Int}
theorem TP {pb:Nat} (hl:Xi base w pb lb vo L sy):Calls Tryz.prog 39 #[.pointer (some ⟨lb,0,none⟩)] w fun e w'=>e=.returned (.int .i64 sy)∧w'=w:=by
 have c2:=hl.b.c2
 go_enter Tryz.func39,Tryz.ntmps39
 go_wp2
 go_ret
 exact ⟨rfl,rfl⟩
theorem UQ {pb:Nat} (hl:Xi base w pb lb vo L sy) (hL:L.length≤100000000):Calls Tryz.prog 33 #[.pointer (some ⟨lb,0,none⟩)] w fun e w'=>∃ v',e=.returned v'∧Own OpD.cells 26 68 w.heap.size w' v' L∧Below w.heap.size w w':=by
 have c1:=hl.b.c1
 have HS:=Jh (hl.o.slice OpD.len)
 obtain ⟨sl,hsl⟩:=hl.o.slv
 subst hsl
 clear hl
 go_enter Tryz.func33,Tryz.ntmps33
 go_wp2_with fail
 refine (Z4f HS.out hL).mono ?_
 rintro e w1 ⟨v1,rfl,ho,hb⟩
 have HO:=Jh (And.intro ho hb)
 clear ho hb
 go_wp2_with fail
 go_ret
 exact ⟨v1,rfl,HO.out.1,HO.out.2⟩
theorem Z5U (hd:Zb base w D A) (hl:Xi base w D.pb lb vo L sy) {N:Nat} (hsm:A.Small N) (hN:N≤800000) :
  Calls Tryz.prog 41 #[.pointer (some ⟨lb,0,none⟩)] w fun e w' =>
   (Z8 A.files Zl=none∧e=.returned (.int .i64 61)∧LT base w D A lb vo w' D A vo L sy)∨(∃ f,Z8 A.files Zl=some f∧e=.returned (.int .i64 0)∧LT base w D A lb vo w' D (X4 f A) vo L L.length):=by
 have c0:=hl.b.c0
 obtain ⟨a,cap,hvo,-,-,-⟩:=hl.o.slice OpD.len
 have HH:=Jh (And.intro hd (And.intro hl hsm))
 clear hd hl hsm
 go_enter Tryz.func41,Tryz.ntmps41
 go_wp2_with fail
 refine (Qx HH.out.1 Zl HH.out.2.2 (by omega)).mono ?_
 rintro e w1 hp
 unfold Sq at hp
 rcases hp with ⟨hno,rfl,ht⟩|⟨f,hf,rfl,ht⟩
 ·have HT:=Jh (LT.of_turned HH.out.1 HH.out.2.1 ht)
  clear ht c0
  go_wp2_with fail
  go_ret
  exact .inl ⟨hno,rfl,HT.out⟩
 ·have HT:=Jh (LT.of_turned HH.out.1 HH.out.2.1 ht)
  clear ht c0
  have c1:=HT.out.log.b.c1
  rw[hvo] at c1
  have c2:=HT.out.log.b.c2
  have f2:w1.frozen? ⟨lb,2,none⟩=false:=Joins.unfrozen_of_block HT.out.log.b 2
  go_wp2_with fail
  go_ret
  exact .inr ⟨f,hf,rfl,HT.out.set2 _⟩
def Z2T (base:Nat) (w:World) (D:DSh) (A:Z4) (lb:Nat) (vo:Value) (L:List OpD) (sy:Int) (l:List OpD) (e:Ending) (w':World):Prop :=
 (∃ n:Int,e=.returned (.int .i64 n)∧(n=1∧(l=[]∨200<l.length)∨n=71∧l≠[]∧l.length≤200∧(∃ x∈l,x.right=false)∨n=1∧65536<(Xj l).length ∨
   n=61∧Yo l∧Z8 A.files Zl=none∨n=62∧Yo l∧∃ f,Z8 A.files Zl=some f∧1048576<ZB (A.fs f)+(Yt l).length)∧LT base w D A lb vo w' D A vo L sy) ∨
 (Yo l∧∃ f D' vo',Z8 A.files Zl=some f∧ZB (A.fs f)+(Yt l).length≤1048576∧e=.returned (.int .i64 0)∧LT base w D A lb vo w' D' (Yw f (Yt l) A) vo' (L++l) sy)
theorem Z3O (hd:Zb base w D A) (hbw:base≤w.heap.size) (hl:Xi base w D.pb lb vo L sy) {N:Nat} (hsm:A.Small N) (hN:N≤800000) (hL:L.length≤100000000) (hg:Xy w) (h0:0<base)
  (v:Value) (l:List OpD) (hv:Z0 OpD.cells 26 w v l) (hvo:∀ b o n cap,v=.slice (some ⟨b,o,none⟩) n cap→¬ (Wn D A b∨b=lb∨vo.ownBlock=some b)) (hwf:∀ x∈l,x.wf) (hn:l.length≤1000000) :
  Calls Tryz.prog 40 #[.pointer (some ⟨lb,0,none⟩),v] w fun e w'=>Z2T base w D A lb vo L sy l e w':=by
 obtain ⟨a,cap,rfl,hcap,hmax,-⟩:=id hv
 have HH:=Jh (And.intro hd (And.intro hl (And.intro hsm (And.intro hg (And.intro hv (And.intro hvo hwf))))))
 have z0:=hbw
 clear hd hl hsm hg hv hvo hwf
 obtain ⟨q,hq⟩:=Je (l.length)
 have HQ:=Lib.hid hq
 have HS:Hid (Z0 OpD.cells 26 w (.slice a q cap) l):=Jh (by rw[←hq];exact HH.out.2.2.2.2.1)
 rw[hq] at hcap ⊢
 clear hq
 go_enter Tryz.func40,Tryz.ntmps40
 go_wp2_with fail
 refine (Z3A _ l _ HS.out HH.out.2.2.2.2.2.2 hn).mono ?_
 rintro e w1 hp
 unfold Z56 at hp
 rcases hp with ⟨h1,h2,h3,h4,x,rfl,hown,hb⟩|⟨s,n,hc,rfl,hb⟩
 ·have hgood:Yo l:=⟨h1,h2,fun y hy=>⟨h3 y hy,HH.out.2.2.2.2.2.2 y hy⟩,h4⟩
  have HX:=Jh (And.intro hgood (hown.slice Z6))
  obtain ⟨xa,xc,hx,hxc,hxm,-⟩:=hown.slice Z6
  have HT:=Jh (LT.of_turned HH.out.1 HH.out.2.1 (Ze.below HH.out.1 hb))
  have G1:=Jh (HH.out.2.2.2.1.below hb)
  have z1:=Nat.le_trans z0 hb.size
  have hfl:(Yt l).length≤65547:=by rw[Wz];omega
  have c0:=HT.out.log.b.c0
  subst hx
  clear h1 h2 h3 h4 hgood hown hb
  go_wp2_with fail
  refine (UG HT.out.disk z1 Zl _ (Yt l) HX.out.2 (by omega) HH.out.2.2.1 (by omega)).mono ?_
  rintro e w2 hp
  unfold TX at hp
  rcases hp with ⟨hno,rfl,ht⟩|⟨f,hf,hbig,rfl,ht⟩|⟨f,D2,hf,hfit,rfl,ht⟩
  ·have H2:=Jh (HT.out.turn ht)
   have G2:=Jh (ht.errTy HT.out.disk h0 G1.out)
   clear ht c0
   go_wp2_with fail
   refine (ZX _ 61 _).mono ?_
   rintro e w3 ⟨rfl,rfl⟩
   rw[V9 _ (by decide)]
   unfold Yk
   go_wp2_with fail
   refine (SF _ 61 _ G2.out).mono ?_
   rintro e w4 ⟨rfl,hb4⟩
   have H4:=Jh (H2.out.below hb4)
   clear hb4
   go_wp2_with fail
   go_ret
   exact .inl ⟨61,rfl,.inr (.inr (.inr (.inl ⟨rfl,HX.out.1,hno⟩))),H4.out⟩
  ·have H2:=Jh (HT.out.turn ht)
   have G2:=Jh (ht.errTy HT.out.disk h0 G1.out)
   clear ht c0
   go_wp2_with fail
   refine (ZX _ 62 _).mono ?_
   rintro e w3 ⟨rfl,rfl⟩
   rw[V9 _ (by decide)]
   unfold Yk
   go_wp2_with fail
   refine (SF _ 62 _ G2.out).mono ?_
   rintro e w4 ⟨rfl,hb4⟩
   have H4:=Jh (H2.out.below hb4)
   clear hb4
   go_wp2_with fail
   go_ret
   exact .inl ⟨62,rfl,.inr (.inr (.inr (.inr ⟨rfl,HX.out.1,f,hf,hbig⟩))),H4.out⟩
  ·have H2:=Jh (HT.out.turn ht)
   have z2:=Nat.le_trans z1 ht.ext.size
   have HF:=Jh (And.intro hf hfit)
   clear hf hfit ht c0
   obtain ⟨i0,hi,hz0,hz1,hz2⟩:=info_parts UJ
   have hS2:Z0 OpD.cells 26 w2 (.slice a q cap) l:=HS.out.ext H2.out.ext (fun b o n c e hs=>HH.out.2.2.2.2.2.1 b o n c (by rw[←e,HQ.out]) hs)
   have ho2:=H2.out.log.o
   have cL0:=H2.out.log.b.c0
   have cL1:=H2.out.log.b.c1
   obtain ⟨v',w',hr,ho,hx,hn'⟩:=Tj (P:=Tryz.prog) 24 24 i0 _ _ Tryz.underlying24 hi hz0 hz1 hz2 rfl (by omega) OpD.len OpD.one ho2 hS2 HX.out.1.1 (by unfold maxLen;omega) (by omega) z2
   obtain ⟨sv,hsv⟩:=ho.slv
   subst hsv
   have HR:Hid ((Builtin.append_ #[24,24] 24 #[vo,.slice a q cap]).run Tryz.prog w2=.ok (.slice sv.a sv.n sv.cap) w'):=Lib.hid hr
   have HN:=Jh (H2.out.more hx ho hn' (fun y hy=>(HX.out.1.2.2.1 y hy).2))
   have fL1:w'.frozen? ⟨lb,1,none⟩=false:=by
    have hl2:=(hx.block lb H2.out.log.b.lt (fun e=>ZO (Zk H2.out.log.o e) H2.out.log.b.tag (by decide) rfl)).trans H2.out.log.b
    exact Joins.unfrozen_of_block hl2 1
   have cL2:w'.cell? ⟨lb,1,none⟩=some vo:=by
    have hl2:=(hx.block lb H2.out.log.b.lt (fun e=>ZO (Zk H2.out.log.o e) H2.out.log.b.tag (by decide) rfl)).trans H2.out.log.b
    exact Joins.cell_of_block hl2 1
   clear ho2 hr ho hx hn' hS2 hi hz0 hz1 hz2
   go_wp2_with fail
   refine (ZX _ 0 _).mono ?_
   rintro e w3 ⟨rfl,rfl⟩
   rw[YB]
   go_wp2_with (at_builtin;refine YV rfl _ _ _ rfl rfl rfl HR.out ?_)
   go_ret
   exact .inr ⟨HX.out.1,f,D2,sv.val,HF.out.1,HF.out.2,rfl,HN.out⟩
 ·have HT:=Jh (LT.of_turned HH.out.1 HH.out.2.1 (Ze.below HH.out.1 hb))
  have G1:=Jh (HH.out.2.2.2.1.below hb)
  have HC:=Lib.hid hc
  clear hb hc
  unfold Yk
  go_wp2_with fail
  refine (SF s n _ G1.out).mono ?_
  rintro e w2 ⟨rfl,hb2⟩
  have H2:=Jh (HT.out.below hb2)
  clear hb2
  go_wp2_with fail
  go_ret
  exact .inl ⟨n,rfl,(by rcases HC.out with h|h|h;exact .inl h;exact .inr (.inl h);exact .inr (.inr (.inl h))),H2.out⟩
def QA (base:Nat) (w:World) (D:DSh) (A:Z4) (e:Ending) (w':World):Prop :=
 ∃ lb D' A' vo L,e=.returned (.tuple #[.pointer (some ⟨lb,0,none⟩),.int .i64 0])∧Rq A A' L∧Ze base w D A w' D' A'∧Xi w.heap.size w' D'.pb lb vo L L.length
theorem SZ (hd:Zb base w D A) (hbw:base≤w.heap.size) {N:Nat} (hsm:A.Small N) (hN:N≤800000) (hfl:A.files.length≤7) (hg:Xy w) (h0:0<base) :
  Calls Tryz.prog 32 #[.pointer (some ⟨D.pb,0,none⟩)] w fun e w'=>QA base w D A e w':=by
 have hb1:Below w.heap.size w (w.alloc (.cells #[.pointer (some ⟨D.pb,0,none⟩),.slice none 0 0,.int .i64 0] 133)):=(Below.refl _ _).alloc (Nat.le_refl _) _
 have hn1:=ZK w (.cells #[.pointer (some ⟨D.pb,0,none⟩),.slice none 0 0,.int .i64 0] 133)
 obtain ⟨w1,hw1⟩:=Je (w.alloc (.cells #[.pointer (some ⟨D.pb,0,none⟩),.slice none 0 0,.int .i64 0] 133))
 rw[hw1] at hb1 hn1
 have hL:Xi base w1 D.pb w.heap.size (.slice none 0 0) [] 0:=⟨hn1,Own.nil,hbw,fun x hx=>(by cases hx)⟩
 have HH:=Jh (And.intro hd (And.intro hsm (And.intro hg (And.intro hb1 hL))))
 have HW:=Lib.hid hw1
 have z1:base≤w1.heap.size:=Nat.le_trans hbw hb1.size
 clear hd hsm hg hb1 hn1 hL hw1
 go_enter Tryz.func32,Tryz.ntmps32
 go_wp2_with fail
 rw[HW.out]
 refine (Z6G (HH.out.1.below HH.out.2.2.2.1) z1 HH.out.2.1 hN hfl w.heap.size HH.out.2.2.2.2 (HH.out.2.2.1.below HH.out.2.2.2.1) h0).mono ?_
 rintro e w2 hp
 unfold Z33 at hp
 obtain ⟨rfl,D2,A2,vo,L,hop,ht⟩:=hp
 obtain ⟨sv,hsv⟩:=ht.log.o.slv
 subst hsv
 have HT:=Jh (And.intro hop ht)
 have c1:w2.cell? ⟨w.heap.size,1,none⟩=some (.slice sv.a sv.n sv.cap):=ht.log.b.c1
 have c2:=ht.log.b.c2
 have f2:w2.frozen? ⟨w.heap.size,2,none⟩=false:=Joins.unfrozen_of_block ht.log.b 2
 have hnl:Hid (sv.n=L.length):=Jh (Own.nlen ht.log.o OpD.len).1
 clear hop ht
 go_wp2_with fail
 go_ret2
 have hx:=HT.out.2.set2 (sv.n:Int)
 rw[hnl.out] at hx ⊢
 refine ⟨w.heap.size,D2,A2,sv.val,L,rfl,HT.out.1,⟨hx.disk,hx.pb,?_,fun b hb=>(hx.foot b hb).imp id (fun h=>Nat.le_trans HH.out.2.2.2.1.size h)⟩,hx.log.b,hx.log.o.raise (fun b hb=>?_),Nat.le_refl _,hx.log.wf⟩
 ·refine (Ext.of_below HH.out.2.2.2.1).andThen hx.ext (fun i hi hs=>?_)
  rcases hs with hs|hs|hs
  ·exact hs
  ·omega
  ·cases hs
 ·rcases hx.own b hb with e|e
  ·cases e
  ·exact Nat.le_trans HH.out.2.2.2.1.size e
end
theorem Z2p (n:Nat) (w:World) (h:n<4294967296):Calls Tryz.prog 116 #[.int .u32 (n:Int)] w fun e w'=>Xv w (ZY n) e w':=by
 have HF:=Jh (Sz n)
 obtain ⟨z0,h0⟩:∃ z,UInt8.ofNat (n % 256)=z:=⟨_,rfl⟩
 obtain ⟨z1,h1⟩:∃ z,UInt8.ofNat (n / 256 % 256)=z:=⟨_,rfl⟩
 obtain ⟨z2,h2⟩:∃ z,UInt8.ofNat (n / 65536 % 256)=z:=⟨_,rfl⟩
 obtain ⟨z3,h3⟩:∃ z,UInt8.ofNat (n / 16777216 % 256)=z:=⟨_,rfl⟩
 have e0:(n:Int) % 256=(z0.toNat:Int):=by rw[←h0,Yv (by omega)];omega
 have e1:(n:Int) / 256 % 256=(z1.toNat:Int):=by rw[←h1,Yv (by omega)];omega
 have e2:(n:Int) / 65536 % 256=(z2.toNat:Int):=by rw[←h2,Yv (by omega)];omega
 have e3:(n:Int) / 16777216=(z3.toNat:Int):=by rw[←h3,Yv (by omega)];omega
 rw[h0,h1,h2,h3] at HF
 have HO:=Jh (Qk (base:=w.heap.size) (W:=w) [z0,z1,z2,z3] (Nat.le_refl _) (by simp))
 have HB:Hid (Below w.heap.size w (w.alloc (.cells ([z0,z1,z2,z3].flatMap u8c).toArray 5))):=Jh ((Below.refl _ _).alloc (Nat.le_refl _) _)
 clear h0 h1 h2 h3
 go_enter Tryz.func116,Tryz.ntmps116
 go_wp2_with fail
 go_ret
 exact ⟨_,rfl,by rw[HF.out];exact HO.out,HB.out⟩
theorem Z5M (k:UInt8) (v:Value) (body:List UInt8) (w:World) (h:Z0 u8c 1 w v body):Calls Tryz.prog 67 #[.int .u8 (k.toNat:Int),v] w fun e w'=>Qs w k body e w':=by
 obtain ⟨a,cap,rfl,hcap,hmax,-⟩:=id h
 unfold maxLen at hmax
 by_cases hbig:65536<body.length
 ·have hb1:(65536:Int)<(body.length:Int):=by omega
  go_enter Tryz.func67,Tryz.ntmps67
  go_wp2_with fail
  go_ret2
  exact .inr ⟨hbig,rfl,Below.refl _ _⟩
 have hb1:¬ (65536:Int)<(body.length:Int):=by omega
 have hN:body.length≤65536:=by omega
 have HH:=Lib.hid h
 have ho1:=Qk (base:=w.heap.size) (W:=w) [k] (Nat.le_refl _) (by simp)
 have bb1:Below w.heap.size w (w.alloc (.cells ([k].flatMap u8c).toArray 5)):=(Below.refl _ _).alloc (Nat.le_refl _) _
 have H1:=Jh (And.intro ho1 bb1)
 clear h hbig ho1 bb1
 go_enter Tryz.func67,Tryz.ntmps67
 go_wp2_with fail
 refine (Z2p body.length _ (by omega)).mono ?_
 rintro e w2 ⟨v2,rfl,own2,b2⟩
 have ho2:=H1.out.1.below1 b2
 have bb2:Below w.heap.size w w2:=H1.out.2.trans (b2.mono H1.out.2.size)
 obtain ⟨⟨ua,un,uc⟩,w3,hr3,own3,b3,z3⟩:=ZL ho2 bb2 (own2.slice Z6) bb2.size (by simp[ZY])
 have hd3:[k]++ZY body.length=XJ k body:=rfl
 rw[hd3] at own3
 have b4:Below w3.heap.size w3 (w3.alloc (.cells #[] 5)):=(Below.refl _ _).alloc (Nat.le_refl _) _
 have HX3:=HH.out.below b3
 obtain ⟨⟨sa,sn,sc⟩,w5,hr5,own5,b5,z5⟩:=ZL (Z0Q (base:=w3.heap.size) (Nat.le_refl _)) b4 ((own3.slice Z6).below b4) b4.size (by simp[XJ,ZY])
 rw[List.nil_append] at own5
 obtain ⟨⟨ta,tn,tc⟩,w6,hr6,own6,b6,z6⟩:=ZL own5 b5 (HX3.below b5) z5 (by simp[XJ,ZY];omega)
 have H3:=Jh (And.intro ((own3.slice Z6).below b6) (And.intro (HX3.below b6) (b3.trans (b6.mono z3))))
 have H6:=Jh (own6.slice Z6)
 clear own2 ho2 bb2 own3 b4 own5 own6 b3 b5 b6 hd3 b2 HX3 z3 z5 z6
 go_wp2_with (first|(at_builtin;refine Lib.wpList_append_run _ rfl _ _ _ _ rfl _ _ rfl rfl _ _ hr3 ?_)|(at_builtin;refine Lib.wpList_append_run _ rfl _ _ _ _ rfl _ _ rfl rfl _ _ hr5 ?_)|(at_builtin;refine Lib.wpList_append_run _ rfl _ _ _ _ rfl _ _ rfl rfl _ _ hr6 ?_))
 clear hr3 hr5 hr6
 refine (Z6P _ _ _ H6.out).mono ?_
 rintro e w7 ⟨rfl,rfl⟩
 have HC:=Jh (Z0Y (XJ k body++body))
 obtain ⟨c,hc⟩:=Je (We (XJ k body++body))
 have HCC:=Lib.hid hc
 rw[hc] at HC ⊢
 clear hc
 have b7:Below w6.heap.size w6 (w6.alloc (.cells ([83,84].flatMap u8c).toArray 5)):=(Below.refl _ _).alloc (Nat.le_refl _) _
 have ho7:=Qk (base:=w6.heap.size) (W:=w6) [83,84] (Nat.le_refl _) (by simp)
 obtain ⟨⟨ka,kn,kc⟩,w8,hr8,own8,b8,z8⟩:=ZL ho7 b7 (H3.out.1.below b7) b7.size (by simp[XJ,ZY])
 have H8:=Jh (And.intro own8 (And.intro b8 z8))
 clear b7 ho7 own8 b8 z8
 go_wp2_with (at_builtin;refine Lib.wpList_append_run _ rfl _ _ _ _ rfl _ _ rfl rfl _ _ hr8 ?_)
 clear hr8
 refine (Z2p c w8 HC.out).mono ?_
 rintro e w9 ⟨v9,rfl,own9,b9⟩
 have b69:Below w6.heap.size w6 w9:=H8.out.2.1.trans (b9.mono H8.out.2.2)
 obtain ⟨⟨la,ln,lc⟩,w10,hr10,own10,b10,z10⟩:=ZL (H8.out.1.below1 b9) b69 (own9.slice Z6) b69.size (by simp[XJ,ZY])
 obtain ⟨⟨ma,mn,mc⟩,w11,hr11,own11,b11,z11⟩:=ZL own10 b10 (H3.out.2.1.below b10) z10 (by simp[XJ,ZY];omega)
 have ew:[83,84]++XJ k body++ZY c++body=Xn k body:=by
  unfold Xn
  rw[HCC.out]
  simp
 rw[ew] at own11
 have HF:=Jh (And.intro (own11.mono H3.out.2.2.size) (H3.out.2.2.trans (b11.mono H3.out.2.2.size)))
 clear own9 own10 own11 b9 b69 b10 b11 z10 z11 ew
 go_wp2_with (first|(at_builtin;refine Lib.wpList_append_run _ rfl _ _ _ _ rfl _ _ rfl rfl _ _ hr10 ?_)|(at_builtin;refine Lib.wpList_append_run _ rfl _ _ _ _ rfl _ _ rfl rfl _ _ hr11 ?_))
 go_ret2
 exact .inl ⟨hN,_,rfl,HF.out.1,HF.out.2⟩
theorem Z2R (v:Value) (b:List UInt8) (w:World) (h:Z0 u8c 1 w v b) (hs:b.length<7):Calls Tryz.prog 63 #[v] w fun e w'=>Uj w b e w':=by
 obtain ⟨a,cap,rfl,hcap,hmax,-⟩:=id h
 unfold maxLen at hmax
 have HNO:=Jh (Xp (b:=b) (by omega))
 have HH:=Lib.hid h
 clear h
 match b,hs,HH,HNO,hcap with
 | [],_,HH,HNO,hcap =>
  simp only[List.length_cons,List.length_nil,Nat.zero_add,Nat.reduceAdd] at hcap ⊢
  go_enter Tryz.func63,Tryz.ntmps63
  go_wp2_with fail
  all_goals
   (try simp only[Exit.inBlock,Exit.then])
   refine bodyPost_ret (Zg rfl _ _ _) rfl ?_
   exact .inr ⟨HNO.out,⟨_,by decide,rfl⟩,Below.refl _ _⟩
 | [x0],_,HH,HNO,hcap =>
  obtain ⟨bb,o,rfl,c0⟩:=HH.out.at1 (k:=0) (x:=x0) (u:=.int .u8 (x0.toNat:Int)) rfl rfl
  rw[Nat.add_zero] at c0
  have l0:=x0.toNat_lt
  simp only[List.length_cons,List.length_nil,Nat.zero_add,Nat.reduceAdd] at hcap ⊢
  go_enter Tryz.func63,Tryz.ntmps63
  go_wp2_with fail
  all_goals
   (try simp only[Exit.inBlock,Exit.then])
   refine bodyPost_ret (Zg rfl _ _ _) rfl ?_
   exact .inr ⟨HNO.out,⟨_,by decide,rfl⟩,Below.refl _ _⟩
 | [x0,x1],_,HH,HNO,hcap =>
  obtain ⟨bb,o,rfl,c0⟩:=HH.out.at1 (k:=0) (x:=x0) (u:=.int .u8 (x0.toNat:Int)) rfl rfl
  have c1:w.cell? ⟨bb,o+1,none⟩=some (.int .u8 (x1.toNat:Int)):=by obtain ⟨_,_,e,c⟩:=HH.out.at1 (k:=1) (x:=x1) (u:=.int .u8 (x1.toNat:Int)) rfl rfl;cases e;exact c
  rw[Nat.add_zero] at c0
  have l0:=x0.toNat_lt
  have l1:=x1.toNat_lt
  simp only[List.length_cons,List.length_nil,Nat.zero_add,Nat.reduceAdd] at hcap ⊢
  go_enter Tryz.func63,Tryz.ntmps63
  go_wp2_with fail
  all_goals
   (try simp only[Exit.inBlock,Exit.then])
   refine bodyPost_ret (Zg rfl _ _ _) rfl ?_
   exact .inr ⟨HNO.out,⟨_,by decide,rfl⟩,Below.refl _ _⟩
 | [x0,x1,x2],_,HH,HNO,hcap =>
  obtain ⟨bb,o,rfl,c0⟩:=HH.out.at1 (k:=0) (x:=x0) (u:=.int .u8 (x0.toNat:Int)) rfl rfl
  have c1:w.cell? ⟨bb,o+1,none⟩=some (.int .u8 (x1.toNat:Int)):=by obtain ⟨_,_,e,c⟩:=HH.out.at1 (k:=1) (x:=x1) (u:=.int .u8 (x1.toNat:Int)) rfl rfl;cases e;exact c
  have c2:w.cell? ⟨bb,o+2,none⟩=some (.int .u8 (x2.toNat:Int)):=by obtain ⟨_,_,e,c⟩:=HH.out.at1 (k:=2) (x:=x2) (u:=.int .u8 (x2.toNat:Int)) rfl rfl;cases e;exact c
  rw[Nat.add_zero] at c0
  have l0:=x0.toNat_lt
  have l1:=x1.toNat_lt
  have l2:=x2.toNat_lt
  simp only[List.length_cons,List.length_nil,Nat.zero_add,Nat.reduceAdd] at hcap ⊢
  go_enter Tryz.func63,Tryz.ntmps63
  go_wp2_with fail
  all_goals
   (try simp only[Exit.inBlock,Exit.then])
   refine bodyPost_ret (Zg rfl _ _ _) rfl ?_
   exact .inr ⟨HNO.out,⟨_,by decide,rfl⟩,Below.refl _ _⟩
 | [x0,x1,x2,x3],_,HH,HNO,hcap =>
  obtain ⟨bb,o,rfl,c0⟩:=HH.out.at1 (k:=0) (x:=x0) (u:=.int .u8 (x0.toNat:Int)) rfl rfl
  have c1:w.cell? ⟨bb,o+1,none⟩=some (.int .u8 (x1.toNat:Int)):=by obtain ⟨_,_,e,c⟩:=HH.out.at1 (k:=1) (x:=x1) (u:=.int .u8 (x1.toNat:Int)) rfl rfl;cases e;exact c
  have c2:w.cell? ⟨bb,o+2,none⟩=some (.int .u8 (x2.toNat:Int)):=by obtain ⟨_,_,e,c⟩:=HH.out.at1 (k:=2) (x:=x2) (u:=.int .u8 (x2.toNat:Int)) rfl rfl;cases e;exact c
  have c3:w.cell? ⟨bb,o+3,none⟩=some (.int .u8 (x3.toNat:Int)):=by obtain ⟨_,_,e,c⟩:=HH.out.at1 (k:=3) (x:=x3) (u:=.int .u8 (x3.toNat:Int)) rfl rfl;cases e;exact c
  rw[Nat.add_zero] at c0
  have l0:=x0.toNat_lt
  have l1:=x1.toNat_lt
  have l2:=x2.toNat_lt
  have l3:=x3.toNat_lt
  simp only[List.length_cons,List.length_nil,Nat.zero_add,Nat.reduceAdd] at hcap ⊢
  go_enter Tryz.func63,Tryz.ntmps63
  go_wp2_with fail
  all_goals
   (try simp only[Exit.inBlock,Exit.then])
   refine bodyPost_ret (Zg rfl _ _ _) rfl ?_
   exact .inr ⟨HNO.out,⟨_,by decide,rfl⟩,Below.refl _ _⟩
 | [x0,x1,x2,x3,x4],_,HH,HNO,hcap =>
  obtain ⟨bb,o,rfl,c0⟩:=HH.out.at1 (k:=0) (x:=x0) (u:=.int .u8 (x0.toNat:Int)) rfl rfl
  have c1:w.cell? ⟨bb,o+1,none⟩=some (.int .u8 (x1.toNat:Int)):=by obtain ⟨_,_,e,c⟩:=HH.out.at1 (k:=1) (x:=x1) (u:=.int .u8 (x1.toNat:Int)) rfl rfl;cases e;exact c
  have c2:w.cell? ⟨bb,o+2,none⟩=some (.int .u8 (x2.toNat:Int)):=by obtain ⟨_,_,e,c⟩:=HH.out.at1 (k:=2) (x:=x2) (u:=.int .u8 (x2.toNat:Int)) rfl rfl;cases e;exact c
  have c3:w.cell? ⟨bb,o+3,none⟩=some (.int .u8 (x3.toNat:Int)):=by obtain ⟨_,_,e,c⟩:=HH.out.at1 (k:=3) (x:=x3) (u:=.int .u8 (x3.toNat:Int)) rfl rfl;cases e;exact c
  have c4:w.cell? ⟨bb,o+4,none⟩=some (.int .u8 (x4.toNat:Int)):=by obtain ⟨_,_,e,c⟩:=HH.out.at1 (k:=4) (x:=x4) (u:=.int .u8 (x4.toNat:Int)) rfl rfl;cases e;exact c
  rw[Nat.add_zero] at c0
  have l0:=x0.toNat_lt
  have l1:=x1.toNat_lt
  have l2:=x2.toNat_lt
  have l3:=x3.toNat_lt
  have l4:=x4.toNat_lt
  simp only[List.length_cons,List.length_nil,Nat.zero_add,Nat.reduceAdd] at hcap ⊢
  go_enter Tryz.func63,Tryz.ntmps63
  go_wp2_with fail
  all_goals
   (try simp only[Exit.inBlock,Exit.then])
   refine bodyPost_ret (Zg rfl _ _ _) rfl ?_
   exact .inr ⟨HNO.out,⟨_,by decide,rfl⟩,Below.refl _ _⟩
 | [x0,x1,x2,x3,x4,x5],_,HH,HNO,hcap =>
  obtain ⟨bb,o,rfl,c0⟩:=HH.out.at1 (k:=0) (x:=x0) (u:=.int .u8 (x0.toNat:Int)) rfl rfl
  have c1:w.cell? ⟨bb,o+1,none⟩=some (.int .u8 (x1.toNat:Int)):=by obtain ⟨_,_,e,c⟩:=HH.out.at1 (k:=1) (x:=x1) (u:=.int .u8 (x1.toNat:Int)) rfl rfl;cases e;exact c
  have c2:w.cell? ⟨bb,o+2,none⟩=some (.int .u8 (x2.toNat:Int)):=by obtain ⟨_,_,e,c⟩:=HH.out.at1 (k:=2) (x:=x2) (u:=.int .u8 (x2.toNat:Int)) rfl rfl;cases e;exact c
  have c3:w.cell? ⟨bb,o+3,none⟩=some (.int .u8 (x3.toNat:Int)):=by obtain ⟨_,_,e,c⟩:=HH.out.at1 (k:=3) (x:=x3) (u:=.int .u8 (x3.toNat:Int)) rfl rfl;cases e;exact c
  have c4:w.cell? ⟨bb,o+4,none⟩=some (.int .u8 (x4.toNat:Int)):=by obtain ⟨_,_,e,c⟩:=HH.out.at1 (k:=4) (x:=x4) (u:=.int .u8 (x4.toNat:Int)) rfl rfl;cases e;exact c
  have c5:w.cell? ⟨bb,o+5,none⟩=some (.int .u8 (x5.toNat:Int)):=by obtain ⟨_,_,e,c⟩:=HH.out.at1 (k:=5) (x:=x5) (u:=.int .u8 (x5.toNat:Int)) rfl rfl;cases e;exact c
  rw[Nat.add_zero] at c0
  have l0:=x0.toNat_lt
  have l1:=x1.toNat_lt
  have l2:=x2.toNat_lt
  have l3:=x3.toNat_lt
  have l4:=x4.toNat_lt
  have l5:=x5.toNat_lt
  simp only[List.length_cons,List.length_nil,Nat.zero_add,Nat.reduceAdd] at hcap ⊢
  go_enter Tryz.func63,Tryz.ntmps63
  go_wp2_with fail
  all_goals
   (try simp only[Exit.inBlock,Exit.then])
   refine bodyPost_ret (Zg rfl _ _ _) rfl ?_
   exact .inr ⟨HNO.out,⟨_,by decide,rfl⟩,Below.refl _ _⟩
theorem Z8d (a b c d p q r N:Nat) (h:a+b*p+c*q+d*r=N):(a:Int)+(b:Int)*(p:Int)+(c:Int)*(q:Int)+(d:Int)*(r:Int)=(N:Int):=by
 rw[←h]
 push_cast
 rfl
theorem Z87 {b:List UInt8} (h:7≤b.length):∃ m0 m1 k a0 a1 a2 a3 r,b=m0 :: m1 :: k :: a0 :: a1 :: a2 :: a3 :: r:=by
 match b,h with
 | m0 :: m1 :: k :: a0 :: a1 :: a2 :: a3 :: r,_=>exact ⟨m0,m1,k,a0,a1,a2,a3,r,rfl⟩
theorem Z0j {m0 m1 k a0 a1 a2 a3:UInt8} {r:List UInt8} {q:UInt8 × List UInt8} (h:Yu (m0 :: m1 :: k :: a0 :: a1 :: a2 :: a3 :: r)=some q):q.1=k∧q.2.length=Yq a0 a1 a2 a3∧q.2=((m0 :: m1 :: k :: a0 :: a1 :: a2 :: a3 :: r).take (11+Yq a0 a1 a2 a3)).drop 11∧Xn k q.2=(m0 :: m1 :: k :: a0 :: a1 :: a2 :: a3 :: r).take (11+Yq a0 a1 a2 a3):=by
 have h9:=Q9 (k:=q.1) (body:=q.2) h
 by_cases hl:11≤(m0 :: m1 :: k :: a0 :: a1 :: a2 :: a3 :: r).length
 ·obtain ⟨_,_,_,_,_,_,_,s0,s1,s2,s3,t,e⟩:=SK hl
  simp only[List.cons.injEq] at e
  obtain ⟨rfl,rfl,rfl,rfl,rfl,rfl,rfl,rfl⟩:=e
  rw[U5] at h
  split at h
  ·rename_i hc
   cases h
   obtain ⟨n,hn⟩:=Je (Yq a0 a1 a2 a3)
   rw[hn] at hc h9 ⊢
   have hlen:(t.take n).length=n:=by rw[List.length_take,Nat.min_eq_left hc.2.2.2.1]
   rw[TI]
   refine ⟨rfl,hlen,rfl,?_⟩
   have h8:=(List.prefix_iff_eq_take.1 h9.2)
   rw[R8,hlen,TI] at h8
   exact h8
  ·cases h
 ·rw[Xp (by omega)] at h
  cases h
theorem Z21 {m0 m1 k a0 a1 a2 a3:UInt8} {r:List UInt8} {N:Nat} (hN:Yq a0 a1 a2 a3=N) (hb:N≤65536) (hl:11+N≤(m0 :: m1 :: k :: a0 :: a1 :: a2 :: a3 :: r).length) :
  (Xn k (((m0 :: m1 :: k :: a0 :: a1 :: a2 :: a3 :: r).take (11+N)).drop 11)=(m0 :: m1 :: k :: a0 :: a1 :: a2 :: a3 :: r).take (11+N)→Yu (m0 :: m1 :: k :: a0 :: a1 :: a2 :: a3 :: r)=some (k,((m0 :: m1 :: k :: a0 :: a1 :: a2 :: a3 :: r).take (11+N)).drop 11)) ∧
  (¬ Xn k (((m0 :: m1 :: k :: a0 :: a1 :: a2 :: a3 :: r).take (11+N)).drop 11)=(m0 :: m1 :: k :: a0 :: a1 :: a2 :: a3 :: r).take (11+N)→Yu (m0 :: m1 :: k :: a0 :: a1 :: a2 :: a3 :: r)=none):=by
 subst hN
 constructor
 ·intro h
  refine Z3c ⟨?_,?_⟩
  ·rw[List.length_drop,List.length_take];omega
  ·rw[h];exact List.take_prefix _ _
 ·intro h
  cases ht:Yu (m0 :: m1 :: k :: a0 :: a1 :: a2 :: a3 :: r) with
  | none=>rfl
  | some q =>
   obtain ⟨h1,h2,h3,h4⟩:=Z0j ht
   rw[h3] at h4
   exact absurd h4 h
theorem Z4V {m0 m1 k a0 a1 a2 a3:UInt8} {r:List UInt8} {N:Nat} (hN:Yq a0 a1 a2 a3=N) (h:65536<N∨(m0 :: m1 :: k :: a0 :: a1 :: a2 :: a3 :: r).length<11+N):Yu (m0 :: m1 :: k :: a0 :: a1 :: a2 :: a3 :: r)=none:=by
 subst hN
 cases ht:Yu (m0 :: m1 :: k :: a0 :: a1 :: a2 :: a3 :: r) with
 | none=>rfl
 | some q =>
  obtain ⟨h1,h2,h3,h4⟩:=Z0j ht
  have h5:=Z1H (k:=q.1) (body:=q.2) ht
  omega
theorem Z4y (v:Value) (b:List UInt8) (w:World) (h:Z0 u8c 1 w v b):Calls Tryz.prog 63 #[v] w fun e w'=>Uj w b e w':=by
 by_cases h7:b.length<7
 ·exact Z2R v b w h h7
 obtain ⟨m0,m1,k,x3,x4,x5,x6,r,rfl⟩:=Z87 (b:=b) (by omega)
 obtain ⟨a,cap,rfl,hcap,hmax,-⟩:=id h
 unfold maxLen at hmax
 have HP:=Jh (fun N hN=>Z21 (m0:=m0) (m1:=m1) (k:=k) (a0:=x3) (a1:=x4) (a2:=x5) (a3:=x6) (r:=r) (N:=N) hN)
 have HM:=Jh (fun N hN=>Z4V (m0:=m0) (m1:=m1) (k:=k) (a0:=x3) (a1:=x4) (a2:=x5) (a3:=x6) (r:=r) (N:=N) hN)
 have HMK:=Jh (Z0f (b:=m0 :: m1 :: k :: x3 :: x4 :: x5 :: x6 :: r))
 obtain ⟨b,hb⟩:=Je (m0 :: m1 :: k :: x3 :: x4 :: x5 :: x6 :: r)
 have g0:b[0]?=some m0:=by rw[←hb];rfl
 have g1:b[1]?=some m1:=by rw[←hb];rfl
 have g2:b[2]?=some k:=by rw[←hb];rfl
 have g3:b[3]?=some x3:=by rw[←hb];rfl
 have g4:b[4]?=some x4:=by rw[←hb];rfl
 have g5:b[5]?=some x5:=by rw[←hb];rfl
 have g6:b[6]?=some x6:=by rw[←hb];rfl
 rw[hb] at h h7 hcap HP HM HMK ⊢
 have hmk:Yu b≠none→m0=83∧m1=84:=fun h=>by have:=HMK.out h;rw[←hb] at this;simpa using this
 clear HMK hb
 obtain ⟨n,hn⟩:=Je (b.length)
 rw[hn] at h hcap h7 HP HM ⊢
 have HH:=Lib.hid h
 obtain ⟨bb,o,rfl,c0⟩:=h.at1 g0 rfl
 have l0:=m0.toNat_lt
 have c1:w.cell? ⟨bb,o+1,none⟩=some (.int .u8 (m1.toNat:Int)):=by obtain ⟨_,_,e,c⟩:=h.at1 g1 rfl;cases e;exact c
 have l1:=m1.toNat_lt
 have c2:w.cell? ⟨bb,o+2,none⟩=some (.int .u8 (k.toNat:Int)):=by obtain ⟨_,_,e,c⟩:=h.at1 g2 rfl;cases e;exact c
 have l2:=k.toNat_lt
 have c3:w.cell? ⟨bb,o+3,none⟩=some (.int .u8 (x3.toNat:Int)):=by obtain ⟨_,_,e,c⟩:=h.at1 g3 rfl;cases e;exact c
 have l3:=x3.toNat_lt
 have c4:w.cell? ⟨bb,o+4,none⟩=some (.int .u8 (x4.toNat:Int)):=by obtain ⟨_,_,e,c⟩:=h.at1 g4 rfl;cases e;exact c
 have l4:=x4.toNat_lt
 have c5:w.cell? ⟨bb,o+5,none⟩=some (.int .u8 (x5.toNat:Int)):=by obtain ⟨_,_,e,c⟩:=h.at1 g5 rfl;cases e;exact c
 have l5:=x5.toNat_lt
 have c6:w.cell? ⟨bb,o+6,none⟩=some (.int .u8 (x6.toNat:Int)):=by obtain ⟨_,_,e,c⟩:=h.at1 g6 rfl;cases e;exact c
 have l6:=x6.toNat_lt
 rw[Nat.add_zero] at c0
 have h70:¬ (n:Int)<7:=by omega
 have h0n:(0:Int)<(n:Int):=by omega
 have h1n:(1:Int)<(n:Int):=by omega
 clear h g0 g1 g3 g4 g5 g6
 by_cases hm:m0=83∧m1=84
 rotate_left
 ·have HNO:Hid (Yu b=none):=Jh (Classical.byContradiction fun h=>hm (hmk h))
  by_cases hm0:m0=83
  ·have hm1:¬ (m1.toNat:Int)=84:=fun e=>hm ⟨hm0,UInt8.toNat_inj.1 (show m1.toNat=84 by omega)⟩
   subst hm0
   clear hm hmk
   go_enter Tryz.func63,Tryz.ntmps63
   go_wp2_with fail
   (try simp only[Exit.inBlock,Exit.then])
   refine bodyPost_ret (Zg rfl _ _ _) rfl ?_
   exact .inr ⟨HNO.out,⟨_,by decide,rfl⟩,Below.refl _ _⟩
  ·have hm1:¬ (m0.toNat:Int)=83:=fun e=>hm0 (UInt8.toNat_inj.1 (show m0.toNat=83 by omega))
   clear hm hmk hm0
   go_enter Tryz.func63,Tryz.ntmps63
   go_wp2_with fail
   (try simp only[Exit.inBlock,Exit.then])
   refine bodyPost_ret (Zg rfl _ _ _) rfl ?_
   exact .inr ⟨HNO.out,⟨_,by decide,rfl⟩,Below.refl _ _⟩
 obtain ⟨rfl,rfl⟩:=hm
 clear hmk
 obtain ⟨N,hN⟩:=Je (Yq x3 x4 x5 x6)
 have hsum:x3.toNat+x4.toNat*256+x5.toNat*65536+x6.toNat*16777216=N:=hN
 have HN:=Lib.hid hN
 have HS:=Lib.hid hsum
 have i0:IntKind.i64.wrap ((x3.toNat:Int))=(x3.toNat:Int):=IntWalk.i64_in _ (by omega)
 have i1:IntKind.i64.wrap ((x4.toNat:Int))=(x4.toNat:Int):=IntWalk.i64_in _ (by omega)
 have i2:IntKind.i64.wrap ((x5.toNat:Int))=(x5.toNat:Int):=IntWalk.i64_in _ (by omega)
 have i3:IntKind.i64.wrap ((x6.toNat:Int))=(x6.toNat:Int):=IntWalk.i64_in _ (by omega)
 have i4:IntKind.i64.wrap ((x4.toNat:Int)*256)=(x4.toNat:Int)*256:=IntWalk.i64_in _ (by omega)
 have i5:IntKind.i64.wrap ((x5.toNat:Int)*65536)=(x5.toNat:Int)*65536:=IntWalk.i64_in _ (by omega)
 have i6:IntKind.i64.wrap ((x6.toNat:Int)*16777216)=(x6.toNat:Int)*16777216:=IntWalk.i64_in _ (by omega)
 have i7:IntKind.i64.wrap ((x3.toNat:Int)+(x4.toNat:Int)*256)=(x3.toNat:Int)+(x4.toNat:Int)*256:=IntWalk.i64_in _ (by omega)
 have i8:IntKind.i64.wrap ((x3.toNat:Int)+(x4.toNat:Int)*256+(x5.toNat:Int)*65536)=(x3.toNat:Int)+(x4.toNat:Int)*256+(x5.toNat:Int)*65536:=IntWalk.i64_in _ (by omega)
 have i9:IntKind.i64.wrap ((x3.toNat:Int)+(x4.toNat:Int)*256+(x5.toNat:Int)*65536+(x6.toNat:Int)*16777216)=(x3.toNat:Int)+(x4.toNat:Int)*256+(x5.toNat:Int)*65536+(x6.toNat:Int)*16777216:=IntWalk.i64_in _ (by omega)
 have u2:¬ (n:Int)≤2:=by omega
 have u3:¬ (n:Int)≤3:=by omega
 have u4:¬ (n:Int)≤4:=by omega
 have u5:¬ (n:Int)≤5:=by omega
 have u6:¬ (n:Int)≤6:=by omega
 go_enter Tryz.func63,Tryz.ntmps63
 go_upto_region 7 with fail
 refine Z7 (fun W:World=>W.cell? ⟨bb,o+3,none⟩=some (.int .u8 (x3.toNat:Int))∧W.cell? ⟨bb,o+4,none⟩=some (.int .u8 (x4.toNat:Int))∧W.cell? ⟨bb,o+5,none⟩=some (.int .u8 (x5.toNat:Int))∧W.cell? ⟨bb,o+6,none⟩=some (.int .u8 (x6.toNat:Int))) (fun _=>false) (by kernel_rfl) ?_
 have hS0:(fun W:World=>W.cell? ⟨bb,o+3,none⟩=some (.int .u8 (x3.toNat:Int))∧W.cell? ⟨bb,o+4,none⟩=some (.int .u8 (x4.toNat:Int))∧W.cell? ⟨bb,o+5,none⟩=some (.int .u8 (x5.toNat:Int))∧W.cell? ⟨bb,o+6,none⟩=some (.int .u8 (x6.toNat:Int))) w.drew:=⟨c3,c4,c5,c6⟩
 have H2:Hid (w.drew.cell? ⟨bb,o+2,none⟩=some (.int .u8 (k.toNat:Int))∧Z0 u8c 1 w.drew (.slice (some ⟨bb,o,none⟩) n cap) b∧Below w.heap.size w w.drew):=Lib.hid ⟨c2,HH.out.below (Below.refl _ _).drew,(Below.refl _ _).drew⟩
 clear c0 c1 c2 c3 c4 c5 c6 hsum
 generalize w.drew=W1 at hS0 H2 ⊢
 refine J4 0 64 _ hS0 ?_
 try simp only[Ja]
 refine J4 1 65 (.pointer (some ⟨bb,o+3,none⟩)) hS0 ?_
 try simp only[Ja]
 refine J4 2 66 (.int .u8 (x3.toNat:Int)) hS0 ?_
 try simp only[Ja]
 refine J4 3 67 (.int .i64 (x3.toNat:Int)) hS0 ?_
 try simp only[Ja]
 refine J4 4 68 _ hS0 ?_
 try simp only[Ja]
 refine J4 5 69 (.pointer (some ⟨bb,o+4,none⟩)) hS0 ?_
 try simp only[Ja]
 refine J4 6 70 (.int .u8 (x4.toNat:Int)) hS0 ?_
 try simp only[Ja]
 refine J4 7 71 (.int .i64 (x4.toNat:Int)) hS0 ?_
 try simp only[Ja]
 refine J4 8 72 (.int .i64 ((x4.toNat:Int)*256)) hS0 ?_
 try simp only[Ja]
 refine J4 9 73 (.int .i64 ((x3.toNat:Int)+(x4.toNat:Int)*256)) hS0 ?_
 try simp only[Ja]
 refine J4 10 74 _ hS0 ?_
 try simp only[Ja]
 refine J4 11 75 (.pointer (some ⟨bb,o+5,none⟩)) hS0 ?_
 try simp only[Ja]
 refine J4 12 76 (.int .u8 (x5.toNat:Int)) hS0 ?_
 try simp only[Ja]
 refine J4 13 77 (.int .i64 (x5.toNat:Int)) hS0 ?_
 try simp only[Ja]
 refine J4 14 78 (.int .i64 ((x5.toNat:Int)*65536)) hS0 ?_
 try simp only[Ja]
 refine J4 15 79 (.int .i64 ((x3.toNat:Int)+(x4.toNat:Int)*256+(x5.toNat:Int)*65536)) hS0 ?_
 try simp only[Ja]
 refine J4 16 80 _ hS0 ?_
 try simp only[Ja]
 refine J4 17 81 (.pointer (some ⟨bb,o+6,none⟩)) hS0 ?_
 try simp only[Ja]
 refine J4 18 82 (.int .u8 (x6.toNat:Int)) hS0 ?_
 try simp only[Ja]
 refine J4 19 83 (.int .i64 (x6.toNat:Int)) hS0 ?_
 try simp only[Ja]
 refine J4 20 84 (.int .i64 ((x6.toNat:Int)*16777216)) hS0 ?_
 try simp only[Ja]
 refine J4 21 85 (.int .i64 ((x3.toNat:Int)+(x4.toNat:Int)*256+(x5.toNat:Int)*65536+(x6.toNat:Int)*16777216)) hS0 ?_
 try simp only[Ja]
 refine J4 22 6 _ hS0 ?_
 try simp only[Ja]
 refine Z3 (by kernel_rfl) ?_ _
 rw[show (x3.toNat:Int)+(x4.toNat:Int)*256+(x5.toNat:Int)*65536+(x6.toNat:Int)*16777216=(N:Int) from Z8d x3.toNat x4.toNat x5.toNat x6.toNat 256 65536 16777216 N HS.out]
 clear l0 l1 l3 l4 l5 l6 hS0 i0 i1 i2 i3 i4 i5 i6 i7 i8 i9 u3 u4 u5 u6
 by_cases hbig:65536<N
 ·have hb1:(65536:Int)<(N:Int):=by omega
  have HNO:=Jh (HM.out N HN.out (.inl hbig))
  go_wp2_with fail
  (try simp only[Exit.inBlock,Exit.then])
  refine bodyPost_ret (Zg rfl _ _ _) rfl ?_
  exact .inr ⟨HNO.out,⟨_,by decide,rfl⟩,H2.out.2.2⟩
 have hb1:¬ (65536:Int)<(N:Int):=by omega
 have hNb:N≤65536:=by omega
 by_cases hsh:n<11+N
 ·have hs2:(n:Int)<11+(N:Int):=by omega
  have HNO:=Jh (HM.out N HN.out (.inr hsh))
  go_wp2_with fail
  (try simp only[Exit.inBlock,Exit.then])
  refine bodyPost_ret (Zg rfl _ _ _) rfl ?_
  exact .inr ⟨HNO.out,⟨_,by decide,rfl⟩,H2.out.2.2⟩
 have hs2:¬ (n:Int)<11+(N:Int):=by omega
 have ck:=H2.out.1
 obtain ⟨a5,c5,hs5,hS5⟩:=YY (P:=Tryz.prog) (ea:=u8c) Tryz.underlying22 Zh (some ⟨bb,o,none⟩) n cap 11 (11+N) hcap (by omega) (by omega)
 have hr5:∀ W,(Instr.slice 22 (.slice (some ⟨bb,o,none⟩) n cap) (some (.int .i64 11)) (some (.int .i64 (11+(N:Int)))) none).run Tryz.prog W=.ok (.slice a5 N c5) W:=fun W=>by
  have:=hs5 W
  rwa [show ((11+N:Nat):Int)=11+(N:Int) by omega,show 11+N - 11=N by omega] at this
 obtain ⟨a6,hs6,hS6⟩:=Ye (P:=Tryz.prog) (ea:=u8c) Tryz.underlying22 Zh (some ⟨bb,o,none⟩) n cap (11+N) hcap (by omega)
 have hr6:∀ W,(Instr.slice 22 (.slice (some ⟨bb,o,none⟩) n cap) none (some (.int .i64 (11+(N:Int)))) none).run Tryz.prog W=.ok (.slice a6 (11+N) cap) W:=fun W=>by
  have:=hs6 W
  rwa [show ((11+N:Nat):Int)=11+(N:Int) by omega] at this
 obtain ⟨body,hbody⟩:=Je ((b.take (11+N)).drop 11)
 have hq5:=hS5 W1 b hn H2.out.2.1
 rw[hbody,show 11+N - 11=N by omega] at hq5
 have hq6:=hS6 W1 b hn H2.out.2.1
 have hbl:body.length=N:=by rw[←hbody,List.length_drop,List.length_take];omega
 have hpl:=HP.out N HN.out hNb (by omega)
 rw[hbody] at hpl
 have H5:=Jh (And.intro hq5 (And.intro hq6 (And.intro hbl hpl)))
 clear hs5 hS5 hs6 hS6 hq5 hq6 hbl hpl hbody
 have h2n:(2:Int)<(n:Int):=by omega
 have iN:IntKind.i64.wrap (11+(N:Int))=11+(N:Int):=IntWalk.i64_in _ (by omega)
 have hN0:(0:Int)≤11+(N:Int):=by omega
 go_wp2_with fail
 refine Z7 (fun W:World=>W.cell? ⟨bb,o+2,none⟩=some (.int .u8 (k.toNat:Int))) (fun _=>false) (by kernel_rfl) ?_
 have hS0:(fun W:World=>W.cell? ⟨bb,o+2,none⟩=some (.int .u8 (k.toNat:Int))) W1.drew:=ck
 have H2d:Hid (Z0 u8c 1 W1.drew (.slice a5 N c5) body∧Z0 u8c 1 W1.drew (.slice a6 (11+N) cap) (b.take (11+N))∧Below w.heap.size w W1.drew):=Lib.hid ⟨H5.out.1.below (Below.refl _ _).drew,H5.out.2.1.below (Below.refl _ _).drew,H2.out.2.2.drew⟩
 clear ck
 generalize W1.drew=W2 at hS0 H2d ⊢
 refine J0 0 94 _ hS0 ?_
 try simp only[Ja]
 refine J0 1 95 (.pointer (some ⟨bb,o+2,none⟩)) hS0 ?_
 try simp only[Ja]
 refine J0 2 96 _ hS0 ?_
 try simp only[Ja]
 refine J0 3 97 _ hS0 ?_
 try simp only[Ja]
 refine J0 4 98 _ hS0 ?_
 try simp only[Ja]
 refine J0 5 99 (.int .i64 (11+(N:Int))) hS0 ?_
 try simp only[Ja]
 refine J0 6 100 (.slice a5 N c5) hS0 ?_
 try simp only[Ja]
 refine Zm (i:=7) (d:=some 101) (f:=67) (args:=#[.int .u8 (k.toNat:Int),.slice a5 N c5]) (w':=W2) (by kernel_rfl) rfl rfl (by rfl) (by go_simp;try rfl) ?_
 refine (Z5M k _ body _ H2d.out.1).mono ?_
 rintro e w3 (⟨_,v3,rfl,own3,b3⟩|⟨h,_⟩)
 rotate_left
 ·exact absurd h (by rw[H5.out.2.2.1];omega)
 obtain ⟨⟨sa,sn,sc⟩,e3⟩:=own3.sl
 dsimp only at e3
 subst e3
 have hS3:(fun W:World=>W.cell? ⟨bb,o+2,none⟩=some (.int .u8 (k.toNat:Int))) w3:=ZH b3 hS0
 refine ⟨_,rfl,fun _=>hS3,?_⟩
 try simp only[Ja]
 refine J0 8 93 _ hS3 ?_
 try simp only[Ja]
 refine J0 9 102 (.slice sa sn sc) hS3 ?_
 try simp only[Ja]
 refine J0 10 103 (.int .i64 0) hS3 ?_
 try simp only[Ja]
 refine J0 11 7 _ hS3 ?_
 try simp only[Ja]
 refine J0 12 8 _ hS3 ?_
 try simp only[Ja]
 refine Z3 (by kernel_rfl) ?_ _
 have H3:=Jh (And.intro (own3.slice Z6) (And.intro (H2d.out.2.1.below b3) (And.intro (H2d.out.1.below b3) (And.intro hS3 (H2d.out.2.2.trans (b3.mono H2d.out.2.2.size))))))
 clear own3 b3 hS3 hS0
 go_wp2_with fail
 refine Z7 (fun W:World=>Z0 u8c 1 W (.slice sa sn sc) (Xn k body)∧Z0 u8c 1 W (.slice a6 (11+N) cap) (b.take (11+N))) (fun _=>false) (by kernel_rfl) ?_
 have hS0:(fun W:World=>Z0 u8c 1 W (.slice sa sn sc) (Xn k body)∧Z0 u8c 1 W (.slice a6 (11+N) cap) (b.take (11+N))) w3.drew:=⟨H3.out.1.below (Below.refl _ _).drew,H3.out.2.1.below (Below.refl _ _).drew⟩
 have H4:Hid (w3.drew.cell? ⟨bb,o+2,none⟩=some (.int .u8 (k.toNat:Int))∧Z0 u8c 1 w3.drew (.slice a5 N c5) body∧Below w.heap.size w w3.drew):=Lib.hid ⟨H3.out.2.2.2.1,H3.out.2.2.1.below (Below.refl _ _).drew,H3.out.2.2.2.2.drew⟩
 clear H3
 generalize w3.drew=W4 at hS0 H4 ⊢
 by_cases heq:Xn k body=b.take (11+N)
 rotate_left
 ·have HNO:=Jh (H5.out.2.2.2.2 heq)
  have HQ:=Lib.hid heq
  clear heq
  refine J2 0 104 _ hS0 ?_
  try simp only[Ja]
  refine JR 1 105 (.string ⟨(Xn k body).toArray⟩) rfl rfl hS0 (fun W hW=>by obtain ⟨q0,q1⟩:=hW;have q3:=Zt q0;go_simp;try rfl) ?_
  try simp only[Ja]
  refine J2 2 106 _ hS0 ?_
  try simp only[Ja]
  refine J2 3 107 _ hS0 ?_
  try simp only[Ja]
  refine J2 4 108 (.int .i64 (11+(N:Int))) hS0 ?_
  try simp only[Ja]
  refine J2 5 109 (.slice a6 (11+N) cap) hS0 ?_
  try simp only[Ja]
  refine JR 6 110 (.string ⟨(b.take (11+N)).toArray⟩) rfl rfl hS0 (fun W hW=>by obtain ⟨q0,q1⟩:=hW;have q3:=Zt q1;go_simp;try rfl) ?_
  try simp only[Ja]
  refine JR 7 111 (.bool true) rfl rfl hS0 (fun W hW=>by obtain ⟨q0,q1⟩:=hW;have q4:=HQ.out;go_simp;try rfl) ?_
  try simp only[Ja]
  refine Z3 (by kernel_rfl) ?_ _
  clear hS0
  go_wp2_with fail
  (try simp only[Exit.inBlock,Exit.then])
  refine bodyPost_ret (Zg rfl _ _ _) rfl ?_
  exact .inr ⟨HNO.out,⟨_,by decide,rfl⟩,H4.out.2.2⟩
 have HYES:=Jh (H5.out.2.2.2.1 heq)
 have HQ:=Lib.hid heq
 clear heq
 refine J2 0 104 _ hS0 ?_
 try simp only[Ja]
 refine JR 1 105 (.string ⟨(Xn k body).toArray⟩) rfl rfl hS0 (fun W hW=>by obtain ⟨q0,q1⟩:=hW;have q3:=Zt q0;go_simp;try rfl) ?_
 try simp only[Ja]
 refine J2 2 106 _ hS0 ?_
 try simp only[Ja]
 refine J2 3 107 _ hS0 ?_
 try simp only[Ja]
 refine J2 4 108 (.int .i64 (11+(N:Int))) hS0 ?_
 try simp only[Ja]
 refine J2 5 109 (.slice a6 (11+N) cap) hS0 ?_
 try simp only[Ja]
 refine JR 6 110 (.string ⟨(b.take (11+N)).toArray⟩) rfl rfl hS0 (fun W hW=>by obtain ⟨q0,q1⟩:=hW;have q3:=Zt q1;go_simp;try rfl) ?_
 try simp only[Ja]
 refine JR 7 111 (.bool false) rfl rfl hS0 (fun W hW=>by obtain ⟨q0,q1⟩:=hW;have q4:=HQ.out;go_simp;try rfl) ?_
 try simp only[Ja]
 refine Z3 (by kernel_rfl) ?_ _
 clear hS0
 go_wp2_with fail
 refine Z7 (fun W:World=>W.cell? ⟨bb,o+2,none⟩=some (.int .u8 (k.toNat:Int))) (fun _=>false) (by kernel_rfl) ?_
 have hS0:(fun W:World=>W.cell? ⟨bb,o+2,none⟩=some (.int .u8 (k.toNat:Int))) W4.drew:=H4.out.1
 have H6:Hid (Z0 u8c 1 W4.drew (.slice a5 N c5) body∧Below w.heap.size w W4.drew):=Lib.hid ⟨H4.out.2.1.below (Below.refl _ _).drew,H4.out.2.2.drew⟩
 clear H4
 generalize W4.drew=W5 at hS0 H6 ⊢
 refine J0 0 112 _ hS0 ?_
 try simp only[Ja]
 refine J0 1 113 (.pointer (some ⟨bb,o+2,none⟩)) hS0 ?_
 try simp only[Ja]
 refine J0 2 114 _ hS0 ?_
 try simp only[Ja]
 refine J0 4 116 _ hS0 ?_
 try simp only[Ja]
 refine J0 5 117 _ hS0 ?_
 try simp only[Ja]
 refine J0 6 118 (.int .i64 (11+(N:Int))) hS0 ?_
 try simp only[Ja]
 refine J0 7 119 (.slice a5 N c5) hS0 ?_
 try simp only[Ja]
 refine J0 9 121 _ hS0 ?_
 try simp only[Ja]
 refine J0 10 122 (.int .i64 (11+(N:Int))) hS0 ?_
 try simp only[Ja]
 have b6:Below W5.heap.size W5 (W5.alloc (.cells #[] 5)):=(Below.refl _ _).alloc (Nat.le_refl _) _
 refine Zj (i:=3) (d:=some 115) (v:=.slice (some ⟨W5.heap.size,0,none⟩) 0 0) (w':=W5.alloc (.cells #[] 5)) (by kernel_rfl) rfl rfl (by rfl) (by go_simp;try rfl) (fun _=>ZH b6 hS0) ?_
 try simp only[Ja]
 obtain ⟨⟨ua,un,uc⟩,w7,hr7,own7,b7,z7⟩:=ZL (Z0Q (base:=W5.heap.size) (Nat.le_refl _)) b6 (H6.out.1.below b6) b6.size (by simp;omega)
 rw[List.nil_append] at own7
 refine Zj (i:=8) (d:=some 120) (v:=.slice ua un uc) (w':=w7) (by kernel_rfl) rfl rfl (by rfl) (Xq rfl rfl rfl hr7) (fun _=>ZH b7 hS0) ?_
 try simp only[Ja]
 have hS7:(fun W:World=>W.cell? ⟨bb,o+2,none⟩=some (.int .u8 (k.toNat:Int))) w7:=ZH b7 hS0
 refine J0 11 2 _ hS7 ?_
 try simp only[Ja]
 refine J0 12 3 _ hS7 ?_
 try simp only[Ja]
 refine J0 13 4 _ hS7 ?_
 try simp only[Ja]
 refine J0 14 5 _ hS7 ?_
 try simp only[Ja]
 refine Z3 (by kernel_rfl) ?_ _
 have HFIN:=Jh (And.intro (own7.mono H6.out.2.size) (H6.out.2.trans (b7.mono H6.out.2.size)))
 clear own7 b7 b6 hS7 hS0 hr5 hr6 hr7 z7
 go_wp2_with fail
 (try simp only[Exit.inBlock,Exit.then])
 refine bodyPost_ret (Zg rfl _ _ _) rfl ?_
 refine .inl ⟨k,body,_,HYES.out,?_,HFIN.out.1,HFIN.out.2⟩
 have e11:((11+body.length:Nat):Int)=11+(N:Int):=by rw[H5.out.2.2.1];omega
 rw[e11]
 rfl
theorem S9 (v:Value) (b:List UInt8) (n:Nat) (w:World) (h:Z0 u8c 1 w v b) (hn0:n≤65536):Calls Tryz.prog 109 #[v,.int .i64 n] w fun e w'=>Z5x w b n e w':=by
 obtain ⟨a,cap,rfl,hcap,hmax,hca⟩:=id h
 unfold maxLen at hmax
 obtain ⟨i0,hi,hy0,hy1,hy2⟩:=info_parts UH
 have HNA:=Jh (fun (e:a=none)=>show b=[] from Classical.byContradiction fun hne=>by obtain ⟨_,_,e2,_⟩:=hca hne;rw[e] at e2;cases e2)
 have HH:=Lib.hid h
 clear h hca
 have hn1:¬ (n:Int)<0:=by omega
 have hn2:¬ (65536:Int)<(n:Int):=by omega
 go_enter Tryz.func109,Tryz.ntmps109
 go_wp2_with fail
 go_loopg [7,8,9] (2*n+1) (fun g lv pv vv wr=>∃ (s:Sl) (l:List Bool) (p:Nat) (v:Bool),g=2*(n - l.length)+(if p=0 then 1 else 0)∧lv=.slice s.a s.n s.cap∧pv=.int .i64 p∧vv=.bool v∧s.n=l.length∧l.length≤n∧p≤b.length∧Hid (TB b n l p v)∧Hid (Own btc 1 4 w.heap.size wr (.slice s.a s.n s.cap) l∧Below w.heap.size w wr))
 case atStart=>exact ⟨⟨none,0,0⟩,[],0,false,by simp,rfl,rfl,rfl,rfl,Nat.zero_le _,Nat.zero_le _,Jh (TB.zero b n),Lib.hid ⟨Own.nil,Below.refl _ _⟩⟩
 case round =>
  obtain ⟨⟨sa,sn,sc⟩,l,p,v,hg,rfl,rfl,rfl,hsn,hln,hpb,HT,HU⟩:=hrel
  dsimp only at hsn HU ⊢
  subst hsn
  have HG:=Lib.hid hg
  clear hg
  by_cases hlt:l.length<n
  ·have hl1:(l.length:Int)<(n:Int):=by omega
   have hp1:¬ (cap:Int)<(p:Int):=by omega
   have hp2:¬ (b.length:Int)<(p:Int):=by omega
   have hp3:(p:Int)≤(b.length:Int):=by omega
   cases a with
   | none =>
    have hb:b=[]:=HNA.out rfl
    have hp0:p=0:=by rw[hb] at hpb;exact Nat.le_zero.1 hpb
    have HD:=Jh (HT.out.bad hlt (.inl (by rw[hb];simp only[List.drop_nil];exact Ti)))
    have hr0:Yi ([]:List UInt8)=.tuple #[.int .u64 0,.int .i64 0,.int .i64 31]:=by unfold Yi;rw[Ti]
    have HR0:=Lib.hid hr0
    subst hb hp0
    clear hr0
    go_wp2_with fail
    all_goals
     refine (Wa _ ([]:List UInt8) _ ⟨none,_,rfl,Nat.zero_le _,by unfold maxLen;omega,fun h=>absurd rfl h⟩).mono ?_
     rintro e w5 ⟨rfl,b5⟩
     have HB5:=Jh (HU.out.2.trans (b5.mono HU.out.2.size))
     rw[HR0.out]
     clear b5 HU HR0
     go_wp2_with fail
     go_ret3
     exact .inr ⟨HD.out,rfl,HB5.out⟩
   | some ad =>
    by_cases hcp:cap=p
    ·have hdr:b.drop p=[]:=List.drop_eq_nil_of_le (by omega)
     have HD:=Jh (HT.out.bad hlt (.inl (by rw[hdr];exact Ti)))
     have hr0:Yi ([]:List UInt8)=.tuple #[.int .u64 0,.int .i64 0,.int .i64 31]:=by unfold Yi;rw[Ti]
     have HR0:=Lib.hid hr0
     have HS:Hid (Z0 u8c 1 wr (.slice (some ad) (b.length - p) 0) ([]:List UInt8)):=Lib.hid ⟨some ad,0,by rw[show b.length - p=0 by omega];rfl,Nat.le_refl _,by unfold maxLen;omega,fun h=>absurd rfl h⟩
     clear hdr hr0
     go_wp2_with fail
     refine (Wa _ _ _ HS.out).mono ?_
     rintro e w5 ⟨rfl,b5⟩
     have HB5:=Jh (HU.out.2.trans (b5.mono HU.out.2.size))
     rw[HR0.out]
     clear b5 HU HS HR0
     go_wp2_with fail
     go_ret3
     exact .inr ⟨HD.out,rfl,HB5.out⟩
    have HS:=Jh ((HH.out.below HU.out.2).drop1 hpb)
    go_wp2_with fail
    have HC:=Jh (Wa (.slice (some (ad.add p)) (b.length - p) (cap - p)) (b.drop p) wr HS.out)
    refine Calls.mono HC.out ?_
    rintro e w5 ⟨rfl,b5⟩
    have HB5:=Jh (HU.out.2.trans (b5.mono HU.out.2.size))
    have HO5:=Jh (HU.out.1.below1 b5)
    clear b5 HU HS
    cases hk:ZD (b.drop p) with
    | none =>
     have hr:Yi (b.drop p)=.tuple #[.int .u64 0,.int .i64 0,.int .i64 31]:=by unfold Yi;rw[hk]
     have HD:=Jh (HT.out.bad hlt (.inl hk))
     rw[hr]
     clear hk hr
     go_wp2_with fail
     go_ret3
     exact .inr ⟨HD.out,rfl,HB5.out⟩
    | some k =>
     have hr:Yi (b.drop p)=.tuple #[.int .u64 k,.int .i64 (Z5 k).length,.int .i64 0]:=by unfold Yi;rw[hk]
     have hk64:=(ZE.1 hk).1
     rw[hr]
     obtain ⟨q,hq⟩:=Je ((Z5 k).length)
     rw[hq]
     obtain ⟨r,hrr⟩:∃ r:Nat,r=n - l.length:=⟨_,rfl⟩
     have hsub:(n:Int) - (l.length:Int)=(r:Int):=by omega
     by_cases hkn:r<k
     ·have hk1:(r:Int)<(k:Int):=by omega
      have HD:=Jh (HT.out.bad hlt (.inr ⟨k,hk,.inr (by omega)⟩))
      clear hk hr hq hrr hkn
      go_wp2_with fail
      go_ret3
      exact .inr ⟨HD.out,rfl,HB5.out⟩
     ·have hk1:¬ (r:Int)<(k:Int):=by omega
      by_cases hz:k=0∧p≠0
      ·obtain ⟨rfl,hp0⟩:=hz
       have hpz:¬ (p:Int)=0:=by omega
       have hp4:(0:Int)<(p:Int):=by omega
       have HD:=Jh (HT.out.bad hlt (.inr ⟨0,hk,.inl ⟨rfl,hp0⟩⟩))
       clear hk hr hq hrr hkn hp0
       go_wp2_with fail
       go_ret3
       exact .inr ⟨HD.out,rfl,HB5.out⟩
      ·have HNX:=Jh (HT.out.step hlt hk hz (by omega))
       rw[hq] at HNX
       have hqp:=(ZE.1 hk).2.length_le
       rw[hq,List.length_drop] at hqp
       have hq0:0<q:=by rw[←hq];exact List.length_pos_iff.2 (Wm k)
       have HQ:Hid (0<q∧p+q≤b.length):=Lib.hid ⟨hq0,by omega⟩
       have HKN:Hid (k≤n - l.length∧(k=0→p=0)):=Lib.hid ⟨by omega,fun e=>Classical.byContradiction fun h=>hz ⟨e,h⟩⟩
       have hgo:¬ k=0∨(k=0∧p=0):=by by_cases e:k=0;exact .inr ⟨e,HKN.out.2 e⟩;exact .inl e
       clear hk hr hq hqp hq0 hkn hz
       have hdk:decide (n - l.length<k)=false:=decide_eq_false (by have:=HKN.out.1;omega)
       rcases hgo with hgo|hgo
       ·have hz1:¬ (k:Int)=0:=by omega
        have hz2:((k:Int) == 0)=false:=by simpa using hz1
        go_wp2_with fail
        go_loopg [7,13] k (fun g lv mv wx=>∃ (m:Nat) (s:Sl),g=k - m∧lv=.slice s.a s.n s.cap∧mv=.int .u64 m∧m≤k∧Hid (Own btc 1 4 w.heap.size wx (.slice s.a s.n s.cap) (l++List.replicate m v)∧Below w.heap.size w wx))
        case atStart=>exact ⟨0,⟨sa,l.length,sc⟩,rfl,rfl,rfl,Nat.zero_le _,Lib.hid ⟨by rw[List.replicate_zero,List.append_nil];exact HO5.out,HB5.out⟩⟩
        case round =>
         obtain ⟨m,⟨ta,tn,tc⟩,hg2,rfl,rfl,hmk,HX⟩:=hrel
         dsimp only at HX ⊢
         have HG2:=Lib.hid hg2
         clear hg2
         by_cases hm:m<k
         ·have hm1:(m:Int)<(k:Int):=by omega
          have hsz:=HX.out.2.size
          have hll:(l++List.replicate m v).length=l.length+m:=by simp
          have hkn2:=HKN.out.1
          have hbd:(l++List.replicate m v).length+1≤maxLen∧((l++List.replicate m v).length+1)*1≤140737488355328:=by rw[hll];unfold maxLen;omega
          have HBD:=Lib.hid hbd
          clear hll hkn2 hbd hm
          go_wp2_with (at_builtin;refine Y8 rfl _ _ _ rfl i0 _ 1 Tryz.underlying75 hi hy0 hy1 hy2 rfl (by omega) Y3 VA rfl (HX.out.1.alloc _) v wr.heap.size 1 rfl (Un _ v) HBD.out.1 HBD.out.2 (by simp;omega) ?_)
          intro v' w3 hown3 hx3
          have hB3:=Ext.new (HX.out.2.alloc HX.out.2.size (.cells #[.bool v] 4)) hx3 (fun i hi _ e=>by have:=(HX.out.1.blk i e).1;omega) (by simp;omega)
          rw[show l++(List.replicate m v++[v])=l++List.replicate (m+1) v by rw[List.replicate_succ']] at hown3
          obtain ⟨⟨ua,un,uc⟩,e3⟩:=hown3.sl
          dsimp only at e3
          subst e3
          have HN:=Jh (And.intro hown3 hB3)
          clear hown3 hx3 hB3
          go_wp2_with fail
          go_roundg (k - (m+1))
          case measure=>rw[HG2.out];omega
          case rel=>exact ⟨m+1,⟨ua,un,uc⟩,rfl,rfl,by simp,by omega,HN⟩
         ·have hm1:¬ (m:Int)<(k:Int):=by omega
          have hmk2:m=k:=by omega
          have HX2:Hid (Own btc 1 4 w.heap.size wr (.slice ta tn tc) (l++List.replicate k v)∧Below w.heap.size w wr):=Jh (by rw[←hmk2];exact HX.out)
          have hpq:((p+q:Nat):Int)=(p:Int)+(q:Int):=by omega
          have htn:=(HX2.out.1.nlen Y3).1
          have HTN:=Lib.hid htn
          have HMK:=Lib.hid hmk2
          have HPB:=Lib.hid hpb
          have hq3:=HQ.out
          clear hm hmk2 hpq htn HX
          go_wp2_with fail
          go_roundg (2*(n - (l++List.replicate k v).length)+(if p+q=0 then 1 else 0))
          case measure=>rw[HG.out,List.length_append,List.length_replicate,if_neg (by omega)];have h1:=HKN.out;split <;> omega
          case rel=>exact ⟨⟨ta,tn,tc⟩,l++List.replicate k v,p+q,!v,rfl,rfl,by simp,rfl,HTN.out,by rw[List.length_append,List.length_replicate];have h1:=HKN.out.1;omega,by omega,HNX,HX2⟩
       ·have hz2:((k:Int) == 0)=true:=by rw[hgo.1];rfl
        have hp4:¬ (0:Int)<(p:Int):=by omega
        have hdp:decide (0<p)=false:=decide_eq_false (by omega)
        clear hgo
        go_wp2_with fail
        go_loopg [7,13] k (fun g lv mv wx=>∃ (m:Nat) (s:Sl),g=k - m∧lv=.slice s.a s.n s.cap∧mv=.int .u64 m∧m≤k∧Hid (Own btc 1 4 w.heap.size wx (.slice s.a s.n s.cap) (l++List.replicate m v)∧Below w.heap.size w wx))
        case atStart=>exact ⟨0,⟨sa,l.length,sc⟩,rfl,rfl,rfl,Nat.zero_le _,Lib.hid ⟨by rw[List.replicate_zero,List.append_nil];exact HO5.out,HB5.out⟩⟩
        case round =>
         obtain ⟨m,⟨ta,tn,tc⟩,hg2,rfl,rfl,hmk,HX⟩:=hrel
         dsimp only at HX ⊢
         have HG2:=Lib.hid hg2
         clear hg2
         by_cases hm:m<k
         ·have hm1:(m:Int)<(k:Int):=by omega
          have hsz:=HX.out.2.size
          have hll:(l++List.replicate m v).length=l.length+m:=by simp
          have hkn2:=HKN.out.1
          have hbd:(l++List.replicate m v).length+1≤maxLen∧((l++List.replicate m v).length+1)*1≤140737488355328:=by rw[hll];unfold maxLen;omega
          have HBD:=Lib.hid hbd
          clear hll hkn2 hbd hm
          go_wp2_with (at_builtin;refine Y8 rfl _ _ _ rfl i0 _ 1 Tryz.underlying75 hi hy0 hy1 hy2 rfl (by omega) Y3 VA rfl (HX.out.1.alloc _) v wr.heap.size 1 rfl (Un _ v) HBD.out.1 HBD.out.2 (by simp;omega) ?_)
          intro v' w3 hown3 hx3
          have hB3:=Ext.new (HX.out.2.alloc HX.out.2.size (.cells #[.bool v] 4)) hx3 (fun i hi _ e=>by have:=(HX.out.1.blk i e).1;omega) (by simp;omega)
          rw[show l++(List.replicate m v++[v])=l++List.replicate (m+1) v by rw[List.replicate_succ']] at hown3
          obtain ⟨⟨ua,un,uc⟩,e3⟩:=hown3.sl
          dsimp only at e3
          subst e3
          have HN:=Jh (And.intro hown3 hB3)
          clear hown3 hx3 hB3
          go_wp2_with fail
          go_roundg (k - (m+1))
          case measure=>rw[HG2.out];omega
          case rel=>exact ⟨m+1,⟨ua,un,uc⟩,rfl,rfl,by simp,by omega,HN⟩
         ·have hm1:¬ (m:Int)<(k:Int):=by omega
          have hmk2:m=k:=by omega
          have HX2:Hid (Own btc 1 4 w.heap.size wr (.slice ta tn tc) (l++List.replicate k v)∧Below w.heap.size w wr):=Jh (by rw[←hmk2];exact HX.out)
          have hpq:((p+q:Nat):Int)=(p:Int)+(q:Int):=by omega
          have htn:=(HX2.out.1.nlen Y3).1
          have HTN:=Lib.hid htn
          have HMK:=Lib.hid hmk2
          have HPB:=Lib.hid hpb
          have hq3:=HQ.out
          clear hm hmk2 hpq htn HX
          go_wp2_with fail
          go_roundg (2*(n - (l++List.replicate k v).length)+(if p+q=0 then 1 else 0))
          case measure=>rw[HG.out,List.length_append,List.length_replicate,if_neg (by omega)];have h1:=HKN.out;split <;> omega
          case rel=>exact ⟨⟨ta,tn,tc⟩,l++List.replicate k v,p+q,!v,rfl,rfl,by simp,rfl,HTN.out,by rw[List.length_append,List.length_replicate];have h1:=HKN.out.1;omega,by omega,HNX,HX2⟩
  ·have hll:l.length=n:=by omega
   have hl1:¬ (l.length:Int)<(n:Int):=by omega
   have HP:=Jh (HT.out.puts hll (by omega))
   have HD:=Jh (HT.out.done hll)
   clear hll hlt
   cases a with
   | none =>
    have hb:b=[]:=HNA.out rfl
    have hp0:p=0:=by rw[hb] at hpb;exact Nat.le_zero.1 hpb
    subst hb hp0
    go_upto_region 16 with fail
    have hs2:¬ (cap:Int)<(0:Int):=by omega
    have hs3:(0:Int)≤(cap:Int):=by omega
    have b1:Below w.heap.size w wr.drew:=HU.out.2.drew
    have hS0:(fun W:World=>Z0 u8c 1 W (.slice none ([]:List UInt8).length cap) ([]:List UInt8)) wr.drew:=HH.out.below b1
    have HU1:Hid (Own btc 1 4 w.heap.size wr.drew (.slice sa l.length sc) l∧Below w.heap.size w wr.drew):=Lib.hid ⟨HU.out.1.drew,HU.out.2.drew⟩
    clear HU b1
    refine Z7 (fun W:World=>Z0 u8c 1 W (.slice none ([]:List UInt8).length cap) ([]:List UInt8)) (fun _=>false) (by kernel_rfl) ?_
    generalize wr.drew=W1 at hS0 HU1 ⊢
    refine J0 0 65 _ hS0 ?_
    try simp only[Ja]
    refine J0 3 68 _ hS0 ?_
    try simp only[Ja]
    refine J0 4 69 _ hS0 ?_
    try simp only[Ja]
    refine J0 5 70 (.slice none 0 cap) hS0 ?_
    try simp only[Ja]
    refine JR 6 71 (.string ⟨(([]:List UInt8).take 0).toArray⟩) rfl rfl hS0 (fun W hW=>by have hcv:=Zt (Z0.take1 (k:=0) hW (by omega));go_simp) ?_
    try simp only[Ja]
    refine Zm (i:=1) (d:=some 66) (f:=158) (args:=#[.slice sa l.length sc]) (w':=W1) (by kernel_rfl) rfl rfl (by rfl) (by go_simp;try rfl) ?_
    refine (UE _ l _ (HU1.out.1.slice Y3) (by omega)).mono ?_
    rintro e w5 ⟨v5,rfl,hown,b5⟩
    refine ⟨_,rfl,fun _=>Z0.below hS0 b5,?_⟩
    try simp only[Ja]
    have hS5:=Z0.below hS0 b5
    have hcv:=Zt (hown.slice Z6)
    obtain ⟨⟨ra,rn,rc⟩,e5⟩:=hown.sl
    dsimp only at e5
    subst e5
    rw[HP.out.1] at hcv
    refine Zj (i:=2) (d:=some 67) (v:=.string ⟨(([]:List UInt8).take 0).toArray⟩) (w':=w5) (by kernel_rfl) rfl rfl (by rfl) (by go_simp;try rfl) (fun _=>hS5) ?_
    try simp only[Ja]
    have he:=XK ⟨(([]:List UInt8).take 0).toArray⟩ ⟨(([]:List UInt8).take 0).toArray⟩
    rw[decide_eq_true rfl] at he
    refine Zj (i:=7) (d:=some 72) (v:=.bool false) (w':=w5) (by kernel_rfl) rfl rfl (by rfl) (by go_simp;try rfl) (fun _=>hS5) ?_
    try simp only[Ja]
    refine Z3 (by kernel_rfl) ?_ _
    have HB5:=Jh (HU1.out.2.trans (b5.mono HU1.out.2.size))
    have HO5:=Jh (HU1.out.1.below1 b5)
    clear hS0 hS5 hcv hown b5 HU1 he
    go_wp2_with fail
    go_ret3
    exact .inl ⟨l,0,_,HD.out,rfl,HO5.out,HB5.out⟩
   | some ad =>
    go_upto_region 16 with fail
    have hs2:¬ (cap:Int)<(p:Int):=by omega
    have hs3:(p:Int)≤(cap:Int):=by omega
    have b1:Below w.heap.size w wr.drew:=HU.out.2.drew
    have hS0:(fun W:World=>Z0 u8c 1 W (.slice (some ad) b.length cap) b) wr.drew:=HH.out.below b1
    have HU1:Hid (Own btc 1 4 w.heap.size wr.drew (.slice sa l.length sc) l∧Below w.heap.size w wr.drew):=Lib.hid ⟨HU.out.1.drew,HU.out.2.drew⟩
    clear HU b1
    refine Z7 (fun W:World=>Z0 u8c 1 W (.slice (some ad) b.length cap) b) (fun _=>false) (by kernel_rfl) ?_
    generalize wr.drew=W1 at hS0 HU1 ⊢
    refine J0 0 65 _ hS0 ?_
    try simp only[Ja]
    refine J0 3 68 _ hS0 ?_
    try simp only[Ja]
    refine J0 4 69 _ hS0 ?_
    try simp only[Ja]
    refine J0 5 70 (.slice (some ad) p cap) hS0 ?_
    try simp only[Ja]
    refine JR 6 71 (.string ⟨(b.take p).toArray⟩) rfl rfl hS0 (fun W hW=>by have hcv:=Zt (Z0.take1 (k:=p) hW (by omega));go_simp) ?_
    try simp only[Ja]
    refine Zm (i:=1) (d:=some 66) (f:=158) (args:=#[.slice sa l.length sc]) (w':=W1) (by kernel_rfl) rfl rfl (by rfl) (by go_simp;try rfl) ?_
    refine (UE _ l _ (HU1.out.1.slice Y3) (by omega)).mono ?_
    rintro e w5 ⟨v5,rfl,hown,b5⟩
    refine ⟨_,rfl,fun _=>Z0.below hS0 b5,?_⟩
    try simp only[Ja]
    have hS5:=Z0.below hS0 b5
    have hcv:=Zt (hown.slice Z6)
    obtain ⟨⟨ra,rn,rc⟩,e5⟩:=hown.sl
    dsimp only at e5
    subst e5
    rw[HP.out.1] at hcv
    refine Zj (i:=2) (d:=some 67) (v:=.string ⟨(b.take p).toArray⟩) (w':=w5) (by kernel_rfl) rfl rfl (by rfl) (by go_simp;try rfl) (fun _=>hS5) ?_
    try simp only[Ja]
    have he:=XK ⟨(b.take p).toArray⟩ ⟨(b.take p).toArray⟩
    rw[decide_eq_true rfl] at he
    refine Zj (i:=7) (d:=some 72) (v:=.bool false) (w':=w5) (by kernel_rfl) rfl rfl (by rfl) (by go_simp;try rfl) (fun _=>hS5) ?_
    try simp only[Ja]
    refine Z3 (by kernel_rfl) ?_ _
    have HB5:=Jh (HU1.out.2.trans (b5.mono HU1.out.2.size))
    have HO5:=Jh (HU1.out.1.below1 b5)
    clear hS0 hS5 hcv hown b5 HU1 he
    go_wp2_with fail
    go_ret3
    exact .inl ⟨l,p,_,HD.out,rfl,HO5.out,HB5.out⟩
theorem Z4L (o:OpD) (c:Nat) (hc:c<21) (w:World):Calls Tryz.prog 159 #[o.val,.int .i64 c] w fun e w'=>e=.returned (.int .i64 (fld o c))∧Below w.heap.size w w':=by
 unfold OpD.val
 obtain ⟨W1,hW1⟩:=Je (w.alloc (.cells o.cells.toArray 68))
 have hb1:Below w.heap.size w W1:=by rw[←hW1];exact (Below.refl _ _).alloc (Nat.le_refl _) _
 have ho1:OB w.heap.size o W1:=by rw[←hW1];exact OB.new w o
 rcases (by omega:c=0∨c=1∨c=2∨c=3∨c=4∨c=5∨c=6∨c=7∨c=8∨c=9∨c=10∨c=11∨c=12∨c=13∨c=14∨c=15∨c=16∨c=17∨c=18∨c=19∨c=20) with rfl|rfl|rfl|rfl|rfl|rfl|rfl|rfl|rfl|rfl|rfl|rfl|rfl|rfl|rfl|rfl|rfl|rfl|rfl|rfl|rfl
 ·have cj:=OB.cell ho1 (j:=0) rfl
  have HV:=Lib.hid hb1
  clear ho1 hb1
  simp only[show (((0:Nat):Int))=0 from rfl]
  go_enter Tryz.func159,Tryz.ntmps159
  go_wp2_with fail
  go_ret
  exact ⟨rfl,HV.out⟩
 ·have cj:=OB.cell ho1 (j:=1) rfl
  have HV:=Lib.hid hb1
  clear ho1 hb1
  simp only[show (((1:Nat):Int))=1 from rfl]
  go_enter Tryz.func159,Tryz.ntmps159
  go_wp2_with fail
  go_ret
  exact ⟨rfl,HV.out⟩
 ·have cj:=OB.cell ho1 (j:=2) rfl
  have HV:=Lib.hid hb1
  clear ho1 hb1
  simp only[show (((2:Nat):Int))=2 from rfl]
  go_enter Tryz.func159,Tryz.ntmps159
  go_wp2_with fail
  go_ret
  exact ⟨rfl,HV.out⟩
 ·have cj:=OB.cell ho1 (j:=3) rfl
  have HV:=Lib.hid hb1
  clear ho1 hb1
  simp only[show (((3:Nat):Int))=3 from rfl]
  go_enter Tryz.func159,Tryz.ntmps159
  go_wp2_with fail
  go_ret
  exact ⟨rfl,HV.out⟩
 ·have cj:=OB.cell ho1 (j:=4) rfl
  have HV:=Lib.hid hb1
  clear ho1 hb1
  simp only[show (((4:Nat):Int))=4 from rfl]
  go_enter Tryz.func159,Tryz.ntmps159
  go_wp2_with fail
  go_ret
  exact ⟨rfl,HV.out⟩
 ·have cj:=OB.cell ho1 (j:=5) rfl
  have HV:=Lib.hid hb1
  clear ho1 hb1
  simp only[show (((5:Nat):Int))=5 from rfl]
  go_enter Tryz.func159,Tryz.ntmps159
  go_wp2_with fail
  go_ret
  exact ⟨rfl,HV.out⟩
 ·have cj:=OB.cell ho1 (j:=6) rfl
  have HV:=Lib.hid hb1
  clear ho1 hb1
  simp only[show (((6:Nat):Int))=6 from rfl]
  go_enter Tryz.func159,Tryz.ntmps159
  go_wp2_with fail
  go_ret
  exact ⟨rfl,HV.out⟩
 ·have cj:=OB.cell ho1 (j:=7) rfl
  have HV:=Lib.hid hb1
  clear ho1 hb1
  simp only[show (((7:Nat):Int))=7 from rfl]
  go_enter Tryz.func159,Tryz.ntmps159
  go_wp2_with fail
  go_ret
  exact ⟨rfl,HV.out⟩
 ·have cj:=OB.cell ho1 (j:=8) rfl
  have HV:=Lib.hid hb1
  clear ho1 hb1
  simp only[show (((8:Nat):Int))=8 from rfl]
  go_enter Tryz.func159,Tryz.ntmps159
  go_wp2_with fail
  go_ret
  exact ⟨rfl,HV.out⟩
 ·have cj:=OB.cell ho1 (j:=9) rfl
  have HV:=Lib.hid hb1
  clear ho1 hb1
  simp only[show (((9:Nat):Int))=9 from rfl]
  go_enter Tryz.func159,Tryz.ntmps159
  go_wp2_with fail
  go_ret
  exact ⟨rfl,HV.out⟩
 ·have cj:=OB.cell ho1 (j:=10) rfl
  have HV:=Lib.hid hb1
  clear ho1 hb1
  simp only[show (((10:Nat):Int))=10 from rfl]
  go_enter Tryz.func159,Tryz.ntmps159
  go_wp2_with fail
  go_ret
  exact ⟨rfl,HV.out⟩
 ·have cj:=OB.cell ho1 (j:=11) rfl
  have HV:=Lib.hid hb1
  clear ho1 hb1
  simp only[show (((11:Nat):Int))=11 from rfl]
  go_enter Tryz.func159,Tryz.ntmps159
  go_wp2_with fail
  go_ret
  exact ⟨rfl,HV.out⟩
 ·have cj:=OB.cell ho1 (j:=12) rfl
  have HV:=Lib.hid hb1
  clear ho1 hb1
  simp only[show (((12:Nat):Int))=12 from rfl]
  go_enter Tryz.func159,Tryz.ntmps159
  go_wp2_with fail
  go_ret
  exact ⟨rfl,HV.out⟩
 ·have cj:=OB.cell ho1 (j:=13) rfl
  have HV:=Lib.hid hb1
  clear ho1 hb1
  simp only[show (((13:Nat):Int))=13 from rfl]
  go_enter Tryz.func159,Tryz.ntmps159
  go_wp2_with fail
  go_ret
  exact ⟨rfl,HV.out⟩
 ·have cj:=OB.cell ho1 (j:=14) rfl
  have HV:=Lib.hid hb1
  clear ho1 hb1
  simp only[show (((14:Nat):Int))=14 from rfl]
  go_enter Tryz.func159,Tryz.ntmps159
  go_wp2_with fail
  go_ret
  exact ⟨rfl,HV.out⟩
 ·have cj:=OB.cell ho1 (j:=15) rfl
  have HV:=Lib.hid hb1
  clear ho1 hb1
  simp only[show (((15:Nat):Int))=15 from rfl]
  go_enter Tryz.func159,Tryz.ntmps159
  go_wp2_with fail
  go_ret
  exact ⟨rfl,HV.out⟩
 ·have cj:=OB.cell ho1 (j:=16) rfl
  have HV:=Lib.hid hb1
  clear ho1 hb1
  simp only[show (((16:Nat):Int))=16 from rfl]
  go_enter Tryz.func159,Tryz.ntmps159
  go_wp2_with fail
  go_ret
  exact ⟨rfl,HV.out⟩
 ·have cj:=OB.cell ho1 (j:=20) rfl
  have HV:=Lib.hid hb1
  clear ho1 hb1
  simp only[show (((17:Nat):Int))=17 from rfl]
  go_enter Tryz.func159,Tryz.ntmps159
  go_wp2_with fail
  go_ret
  exact ⟨rfl,HV.out⟩
 ·have cj:=OB.cell ho1 (j:=21) rfl
  have HV:=Lib.hid hb1
  clear ho1 hb1
  simp only[show (((18:Nat):Int))=18 from rfl]
  go_enter Tryz.func159,Tryz.ntmps159
  go_wp2_with fail
  go_ret
  exact ⟨rfl,HV.out⟩
 ·have cj:=OB.cell ho1 (j:=23) rfl
  have HV:=Lib.hid hb1
  clear ho1 hb1
  simp only[show (((19:Nat):Int))=19 from rfl]
  go_enter Tryz.func159,Tryz.ntmps159
  go_wp2_with fail
  go_ret
  exact ⟨rfl,HV.out⟩
 ·have cj:=OB.cell ho1 (j:=24) rfl
  have HV:=Lib.hid hb1
  clear ho1 hb1
  simp only[show (((20:Nat):Int))=20 from rfl]
  go_enter Tryz.func159,Tryz.ntmps159
  go_wp2_with fail
  go_ret
  exact ⟨rfl,HV.out⟩
theorem Z1b (o:OpD) (c:Nat) (hc:c<3) (w:World):Calls Tryz.prog 161 #[o.val,.int .i64 c] w fun e w'=>e=.returned (.string (txt o c))∧Below w.heap.size w w':=by
 unfold OpD.val
 obtain ⟨W1,hW1⟩:=Je (w.alloc (.cells o.cells.toArray 68))
 have hb1:Below w.heap.size w W1:=by rw[←hW1];exact (Below.refl _ _).alloc (Nat.le_refl _) _
 have ho1:OB w.heap.size o W1:=by rw[←hW1];exact OB.new w o
 rcases (by omega:c=0∨c=1∨c=2) with rfl|rfl|rfl
 ·have cj:=OB.cell ho1 (j:=17) rfl
  have HV:=Lib.hid hb1
  clear ho1 hb1
  simp only[show (((0:Nat):Int))=0 from rfl]
  go_enter Tryz.func161,Tryz.ntmps161
  go_wp2_with fail
  go_ret
  exact ⟨rfl,HV.out⟩
 ·have cj:=OB.cell ho1 (j:=18) rfl
  have HV:=Lib.hid hb1
  clear ho1 hb1
  simp only[show (((1:Nat):Int))=1 from rfl]
  go_enter Tryz.func161,Tryz.ntmps161
  go_wp2_with fail
  go_ret
  exact ⟨rfl,HV.out⟩
 ·have cj:=OB.cell ho1 (j:=19) rfl
  have HV:=Lib.hid hb1
  clear ho1 hb1
  simp only[show (((2:Nat):Int))=2 from rfl]
  go_enter Tryz.func161,Tryz.ntmps161
  go_wp2_with fail
  go_ret
  exact ⟨rfl,HV.out⟩
theorem UP (c:Nat) (hc:c<21) (w:World):Calls Tryz.prog 56 #[.int .i64 c] w fun e w'=>e=.returned (.bool (dlt c))∧w'=w:=by
 rcases (by omega:c=0∨c=1∨c=2∨c=3∨c=4∨c=5∨c=6∨c=7∨c=8∨c=9∨c=10∨c=11∨c=12∨c=13∨c=14∨c=15∨c=16∨c=17∨c=18∨c=19∨c=20) with rfl|rfl|rfl|rfl|rfl|rfl|rfl|rfl|rfl|rfl|rfl|rfl|rfl|rfl|rfl|rfl|rfl|rfl|rfl|rfl|rfl
 ·simp only[show (((0:Nat):Int))=0 from rfl]
  go_enter Tryz.func56,Tryz.ntmps56
  go_wp2_with fail
  go_ret
  exact ⟨rfl,rfl⟩
 ·simp only[show (((1:Nat):Int))=1 from rfl]
  go_enter Tryz.func56,Tryz.ntmps56
  go_wp2_with fail
  go_ret
  exact ⟨rfl,rfl⟩
 ·simp only[show (((2:Nat):Int))=2 from rfl]
  go_enter Tryz.func56,Tryz.ntmps56
  go_wp2_with fail
  go_ret
  exact ⟨rfl,rfl⟩
 ·simp only[show (((3:Nat):Int))=3 from rfl]
  go_enter Tryz.func56,Tryz.ntmps56
  go_wp2_with fail
  go_ret
  exact ⟨rfl,rfl⟩
 ·simp only[show (((4:Nat):Int))=4 from rfl]
  go_enter Tryz.func56,Tryz.ntmps56
  go_wp2_with fail
  go_ret
  exact ⟨rfl,rfl⟩
 ·simp only[show (((5:Nat):Int))=5 from rfl]
  go_enter Tryz.func56,Tryz.ntmps56
  go_wp2_with fail
  go_ret
  exact ⟨rfl,rfl⟩
 ·simp only[show (((6:Nat):Int))=6 from rfl]
  go_enter Tryz.func56,Tryz.ntmps56
  go_wp2_with fail
  go_ret
  exact ⟨rfl,rfl⟩
 ·simp only[show (((7:Nat):Int))=7 from rfl]
  go_enter Tryz.func56,Tryz.ntmps56
  go_wp2_with fail
  go_ret
  exact ⟨rfl,rfl⟩
 ·simp only[show (((8:Nat):Int))=8 from rfl]
  go_enter Tryz.func56,Tryz.ntmps56
  go_wp2_with fail
  go_ret
  exact ⟨rfl,rfl⟩
 ·simp only[show (((9:Nat):Int))=9 from rfl]
  go_enter Tryz.func56,Tryz.ntmps56
  go_wp2_with fail
  go_ret
  exact ⟨rfl,rfl⟩
 ·simp only[show (((10:Nat):Int))=10 from rfl]
  go_enter Tryz.func56,Tryz.ntmps56
  go_wp2_with fail
  go_ret
  exact ⟨rfl,rfl⟩
 ·simp only[show (((11:Nat):Int))=11 from rfl]
  go_enter Tryz.func56,Tryz.ntmps56
  go_wp2_with fail
  go_ret
  exact ⟨rfl,rfl⟩
 ·simp only[show (((12:Nat):Int))=12 from rfl]
  go_enter Tryz.func56,Tryz.ntmps56
  go_wp2_with fail
  go_ret
  exact ⟨rfl,rfl⟩
 ·simp only[show (((13:Nat):Int))=13 from rfl]
  go_enter Tryz.func56,Tryz.ntmps56
  go_wp2_with fail
  go_ret
  exact ⟨rfl,rfl⟩
 ·simp only[show (((14:Nat):Int))=14 from rfl]
  go_enter Tryz.func56,Tryz.ntmps56
  go_wp2_with fail
  go_ret
  exact ⟨rfl,rfl⟩
 ·simp only[show (((15:Nat):Int))=15 from rfl]
  go_enter Tryz.func56,Tryz.ntmps56
  go_wp2_with fail
  go_ret
  exact ⟨rfl,rfl⟩
 ·simp only[show (((16:Nat):Int))=16 from rfl]
  go_enter Tryz.func56,Tryz.ntmps56
  go_wp2_with fail
  go_ret
  exact ⟨rfl,rfl⟩
 ·simp only[show (((17:Nat):Int))=17 from rfl]
  go_enter Tryz.func56,Tryz.ntmps56
  go_wp2_with fail
  go_ret
  exact ⟨rfl,rfl⟩
 ·simp only[show (((18:Nat):Int))=18 from rfl]
  go_enter Tryz.func56,Tryz.ntmps56
  go_wp2_with fail
  go_ret
  exact ⟨rfl,rfl⟩
 ·simp only[show (((19:Nat):Int))=19 from rfl]
  go_enter Tryz.func56,Tryz.ntmps56
  go_wp2_with fail
  go_ret
  exact ⟨rfl,rfl⟩
 ·simp only[show (((20:Nat):Int))=20 from rfl]
  go_enter Tryz.func56,Tryz.ntmps56
  go_wp2_with fail
  go_ret
  exact ⟨rfl,rfl⟩
def R1 (w0:World) (v:Value) (r:List UInt8) (res:Option (List OpD × List UInt8)) (e:Ending) (w':World):Prop :=
 (∃ l2 p,p≤r.length∧res=some (l2,r.drop p)∧e=.returned (.int .i64 (p:Nat))∧Own OpD.cells 26 68 w0.heap.size w' v l2∧Below w0.heap.size w0 w') ∨
 (res=none∧e=.returned (.int .i64 (-1))∧Below w0.heap.size w0 w')
theorem Z69 (f g:Nat→OpD→OpD) (n:Nat) (ls:List OpD):X8 g n (X8 f n ls)=X8 (fun j o=>g j (f j o)) n ls:=by
 apply List.ext_getElem?
 intro j
 simp only[X8,List.getElem?_mapIdx,Option.map_map]
 congr 1
 funext o
 show (if j<n then g j (if j<n then f j o else o) else (if j<n then f j o else o))=_
 by_cases h:j<n
 ·simp[h]
 ·simp[h]
theorem Wq {B g:Nat} {w0 w:World} (h:Below B w0 w) (hg:B≤g) (o:Nat) (u:Value):Below B w0 (w.setCell ⟨g,o,none⟩ u):=h.setCell hg _
def VM (V0 V1:List Bool) (j:Nat) (o:OpD):OpD:=(o.setT 0 (V0.getD j false)).setT 1 (V1.getD j false)
theorem Z3y (w0 w:World) (v tb:Value) (r:List UInt8) (ls:List OpD) (ho:Own OpD.cells 26 68 w0.heap.size w v ls) (hb:Below w0.heap.size w0 w) (hs:Z0 u8c 1 w0 tb r) (hn:ls.length≤200):Calls Tryz.prog 59 #[v,tb] w fun e w'=>R1 w0 v r (tkT ls.length 2 (ls,r)) e w':=by
 obtain ⟨⟨la,ln,lc⟩,el⟩:=ho.sl
 dsimp only at el
 subst el
 obtain rfl:ln=ls.length:=(ho.nlen OpD.len).1
 obtain ⟨a,cap,rfl,hcap,hmax,-⟩:=id hs
 unfold maxLen at hmax
 obtain ⟨n,hn'⟩:∃ n,n=ls.length:=⟨_,rfl⟩
 have HH:=Lib.hid hs
 have HB:=Lib.hid hb
 have HLN:=Lib.hid hn'
 rw[←hn'] at hn ho ⊢
 have HO:=Lib.hid ho
 clear ho hb hs hn'
 go_enter Tryz.func59,Tryz.ntmps59
 go_wp2_with fail
 refine (S9 _ r n w (HH.out.below HB.out) (by omega)).mono ?_
 rintro e w5 (⟨V0,u,v5,hd,rfl,hown,hb5⟩|⟨hd,rfl,hb5⟩)
 ·have HB5:=Jh (HB.out.trans (hb5.mono HB.out.size))
  have HO5:=Jh (HO.out.below1 (hb5.mono (Nat.le_refl _)))
  have hcf:=SA (by omega) hd
  have hul:=hcf.2
  obtain ⟨⟨pa,pn,pc⟩,ep⟩:=hown.sl
  dsimp only at ep
  subst ep
  obtain rfl:pn=n:=by have h:=(hown.nlen Y3).1;rw[hcf.1] at h;exact h
  have HV0:Hid (V0.length=pn∧Own btc 1 4 w0.heap.size w5 (.slice pa pn pc) V0):=Lib.hid ⟨hcf.1,hown.mono HB.out.size⟩
  have HD:=Jh (Ql (n:=pn) (c:=0) (p:=(ls,r)) (q:=(ls,r)) rfl hd)
  obtain ⟨a1,c1,hsl,hS1,-⟩:=ZJ (P:=Tryz.prog) (ea:=u8c) Tryz.underlying22 Zh a r.length cap u hcap hul
  have HS:=Jh (hS1 w0 r rfl HH.out)
  clear hd hcf hown hb5 hS1 HO HB
  go_wp2_with fail
  refine (S9 _ (r.drop u) pn w5 ?_ (by omega)).mono ?_
  ·have h:=HS.out.below HB5.out;first|exact h|(rw[List.length_drop] at h;exact h)
  rintro e w6 (⟨V1,u1,v6,hd,rfl,hown,hb6⟩|⟨hd,rfl,hb6⟩)
  ·have HB6:=Jh (HB5.out.trans (hb6.mono HB5.out.size))
   have HO6:=Jh (HO5.out.below1 hb6)
   have hcf:=SA (by omega) hd
   have hul1:=hcf.2
   rw[List.length_drop] at hul1
   obtain ⟨⟨qa,qn,qc⟩,ep⟩:=hown.sl
   dsimp only at ep
   subst ep
   obtain rfl:qn=pn:=by have h:=(hown.nlen Y3).1;rw[hcf.1] at h;exact h
   have HV6:=Jh (HV0.out.2.below1 hb6)
   have HV1:Hid (V1.length=qn∧Own btc 1 4 w0.heap.size w6 (.slice qa qn qc) V1):=Lib.hid ⟨hcf.1,hown.mono HB5.out.size⟩
   have HVL:=Lib.hid HV0.out.1
   have HD2:=Jh (Ql HD.out hd)
   clear hd hcf hown hb6 HD HO5 HB5 HV0 HS hsl
   go_wp2_with fail
   go_loopg [11] qn (fun g iv wr=>∃ i:Nat,g=qn - i∧iv=.int .i64 i∧i≤qn∧Hid (Own OpD.cells 26 68 w0.heap.size wr (.slice la qn lc) (X8 (VM V0 V1) i ls)∧Own btc 1 4 w0.heap.size wr (.slice pa qn pc) V0∧Own btc 1 4 w0.heap.size wr (.slice qa qn qc) V1∧Below w0.heap.size w0 wr))
   case atStart=>exact ⟨0,rfl,rfl,Nat.zero_le _,Lib.hid ⟨by rw[VD];exact HO6.out,HV6.out,HV1.out.2,HB6.out⟩⟩
   case round =>
    clear HB6 HO6 HV6
    obtain ⟨i,hg,rfl,hi,HI⟩:=hrel
    have HG:=Lib.hid hg
    clear hg
    by_cases hlt:i<qn
    ·have hi1:(i:Int)<(qn:Int):=by omega
     have hi0:(0:Int)≤(i:Int):=by omega
     obtain ⟨x,hx⟩:∃ x,ls[i]?=some x:=⟨_,List.getElem?_eq_getElem (by rw[←HLN.out];exact hlt)⟩
     obtain ⟨y0,hy0⟩:∃ y,V0[i]?=some y:=⟨_,List.getElem?_eq_getElem (by rw[HVL.out];exact hlt)⟩
     obtain ⟨y1,hy1⟩:∃ y,V1[i]?=some y:=⟨_,List.getElem?_eq_getElem (by rw[HV1.out.1];exact hlt)⟩
     have hmx:=Vy (VM V0 V1) i hx
     have HMX:=Lib.hid hmx
     obtain ⟨g,gcap,e,hg1,hg3⟩:=HI.out.1.eq_slice.resolve_left (fun e=>by rw[e.2] at hmx;simp at hmx)
     injection e with e1 e2 e3
     subst e1 e3
     clear e2
     have hln:(X8 (VM V0 V1) i ls).length=qn:=by rw[YJ];exact HLN.out.symm
     have ho1:=HI.out.1
     rw[←hln] at ho1
     have c22:=ho1.cellAt OpD.len hmx (j:=22) rfl
     have f22:=ho1.free (i*26+22)
     have h1:=ho1.setAt OpD.len hmx (j:=22) (y:=x.setT 0 y0) (u:=.bool y0) (by omega) (SI x 0 y0)
     have hln1:((X8 (VM V0 V1) i ls).set i (x.setT 0 y0)).length=qn:=by rw[List.length_set];exact hln
     rw[hln] at h1
     have HI1:Hid (Own OpD.cells 26 68 w0.heap.size (wr.setCell ⟨g,i*26+22,none⟩ (.bool y0)) (.slice (some ⟨g,0,none⟩) qn lc) ((X8 (VM V0 V1) i ls).set i (x.setT 0 y0))∧Own btc 1 4 w0.heap.size (wr.setCell ⟨g,i*26+22,none⟩ (.bool y0)) (.slice pa qn pc) V0∧Own btc 1 4 w0.heap.size (wr.setCell ⟨g,i*26+22,none⟩ (.bool y0)) (.slice qa qn qc) V1∧Below w0.heap.size w0 (wr.setCell ⟨g,i*26+22,none⟩ (.bool y0))):=Lib.hid ⟨h1,HI.out.2.1.notg ho1 (by decide) rfl _ _,HI.out.2.2.1.notg ho1 (by decide) rfl _ _,Wq HI.out.2.2.2 (ho1.blk g rfl).1 _ _⟩
     obtain ⟨vb,vo,ev,cv⟩:=(HI.out.2.1.slice Y3).at1 hy0 rfl
     cases ev
     have HX:=Lib.hid hx
     have HY0:=Lib.hid hy0
     have HY1:=Lib.hid hy1
     have HLL:=Lib.hid hln1
     clear h1 ho1 hx hy0 hy1 hmx hln hln1 HI hg1 hg3
     go_upto_region 11 with fail
     generalize wr.setCell ⟨g,i*26+22,none⟩ (.bool y0)=W2 at HI1 ⊢
     clear c22 f22 cv
     have ho1:=HI1.out.1
     rw[←HLL.out] at ho1
     have hmx:((X8 (VM V0 V1) i ls).set i (x.setT 0 y0))[i]?=some (x.setT 0 y0):=List.getElem?_set_self (by rw[YJ,←HLN.out];exact hlt)
     have c25:=ho1.cellAt OpD.len hmx (j:=25) rfl
     have f25:=ho1.free (i*26+25)
     have h1:=ho1.setAt OpD.len hmx (j:=25) (y:=(x.setT 0 y0).setT 1 y1) (u:=.bool y1) (by omega) (SI (x.setT 0 y0) 1 y1)
     have e9:((X8 (VM V0 V1) i ls).set i (x.setT 0 y0)).set i ((x.setT 0 y0).setT 1 y1)=X8 (VM V0 V1) (i+1) ls:=by
      rw[List.set_set,R2 (VM V0 V1) (VM V0 V1) i HX.out (fun _ _=>rfl)]
      unfold VM
      rw[List.getD_eq_getElem?_getD,List.getD_eq_getElem?_getD,HY0.out,HY1.out]
      rfl
     rw[e9,HLL.out] at h1
     have HI2:Hid (Own OpD.cells 26 68 w0.heap.size (W2.setCell ⟨g,i*26+25,none⟩ (.bool y1)) (.slice (some ⟨g,0,none⟩) qn lc) (X8 (VM V0 V1) (i+1) ls)∧Own btc 1 4 w0.heap.size (W2.setCell ⟨g,i*26+25,none⟩ (.bool y1)) (.slice (some ⟨vb,vo,none⟩) qn pc) V0∧Own btc 1 4 w0.heap.size (W2.setCell ⟨g,i*26+25,none⟩ (.bool y1)) (.slice qa qn qc) V1∧Below w0.heap.size w0 (W2.setCell ⟨g,i*26+25,none⟩ (.bool y1))):=Lib.hid ⟨h1,HI1.out.2.1.notg ho1 (by decide) rfl _ _,HI1.out.2.2.1.notg ho1 (by decide) rfl _ _,Wq HI1.out.2.2.2 (ho1.blk g rfl).1 _ _⟩
     obtain ⟨zb,zo,ev,cv⟩:=(HI1.out.2.2.1.slice Y3).at1 HY1.out rfl
     cases ev
     clear h1 e9 ho1 hmx HI1
     go_upto_region 9 with fail
     generalize W2.setCell ⟨g,i*26+25,none⟩ (.bool y1)=W3 at HI2 ⊢
     clear c25 f25 cv
     go_wp2_with fail
     go_roundg (qn - (i+1))
     case measure=>rw[HG.out];omega
     case rel=>exact ⟨i+1,rfl,by simp,by omega,HI2⟩
    ·obtain rfl:i=qn:=by omega
     have hi1:¬ (i:Int)<(i:Int):=by omega
     have HE:Hid (Yl 1 V1 i (Yl 0 V0 i ls)=X8 (VM V0 V1) i ls):=Jh (by unfold Yl;rw[Z69];rfl)
     have HI3:=Jh (And.intro HI.out.1 HI.out.2.2.2)
     clear HI
     go_wp2_with fail
     go_ret
     refine .inl ⟨X8 (VM V0 V1) i ls,u+u1,by omega,?_,by simp,HI3.out.1,HI3.out.2⟩
     have h:=HD2.out
     rw[HE.out,List.drop_drop] at h
     exact h
  ·have HBAD:Hid (tkT pn 2 (ls,r)=none):=Jh (Z0W HD.out hd (by omega))
   have HB6:=Jh (HB5.out.trans (hb6.mono HB5.out.size))
   clear hd hb6
   go_wp2_with fail
   go_ret
   exact .inr ⟨HBAD.out,rfl,HB6.out⟩
 ·have HBAD:Hid (tkT n 2 (ls,r)=none):=Jh (Z0W (c:=0) (q:=(ls,r)) rfl hd (by omega))
  have HB6:=Jh (HB.out.trans (hb5.mono HB.out.size))
  clear hd hb5
  go_wp2_with fail
  go_ret
  exact .inr ⟨HBAD.out,rfl,HB6.out⟩
end Go.Proofs.YtgmdimbiipemhaaGreatDoor
