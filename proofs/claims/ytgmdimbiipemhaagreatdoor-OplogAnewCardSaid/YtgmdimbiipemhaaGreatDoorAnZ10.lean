/- OplogAnew, part 10 of what the proof leans on (made short by a program). -/
import Derived.Test.YtgmdimbiipemhaaGreatDoorAnZ9
import Derived.Shelf.Bytes.WriteAny
import Derived.Shelf.Bytes.Bytes
import Derived.Lib.BufferOld
set_option linter.unusedSimpArgs false
set_option linter.unusedVariables false
set_option linter.unusedSectionVars false
set_option maxRecDepth 20000
set_option maxHeartbeats 30000000
namespace Go.Proofs.YtgmdimbiipemhaaGreatDoor
open Go.RowKit Go.Deep
noncomputable def YM (b:List UInt8):Option (List OpD × Nat) :=
 match Yp b with
 | some (k,body)=>if k=66 then (match Xf body with|some l=>if l=[] then none else some (l,11+body.length)|none=>none) else none
 | none=>none
theorem Uk {b:List UInt8} (h:Yp b=none):YM b=none:=by unfold YM;rw[h]
theorem Rl {b body:List UInt8} {k:UInt8} (h:Yp b=some (k,body)) (hk:k≠66):YM b=none:=by
 unfold YM
 rw[h]
 dsimp only
 rw[if_neg hk]
theorem Z1d {b body:List UInt8} (h:Yp b=some (66,body)) (hd:Xf body=none):YM b=none:=by
 unfold YM
 rw[h]
 dsimp only
 rw[if_pos rfl,hd]
theorem Qh {b body:List UInt8} (h:Yp b=some (66,body)) (hd:Xf body=some []):YM b=none:=by
 unfold YM
 rw[h]
 dsimp only
 rw[if_pos rfl,hd]
 simp
theorem TF {b body:List UInt8} {l:List OpD} (h:Yp b=some (66,body)) (hd:Xf body=some l) (hl:l≠[]):YM b=some (l,11+body.length):=by
 unfold YM
 rw[h]
 dsimp only
 rw[if_pos rfl,hd]
 simp only[if_neg hl]
def Z5U (w:World) (b:List UInt8) (e:Ending) (w':World):Prop :=
 (∃ l n x,YM b=some (l,n)∧e=.returned (.tuple #[x,.int .i64 (n:Int)])∧Own OpD.cells 26 68 w.heap.size w' x l∧Below w.heap.size w w') ∨
 (YM b=none∧e=.returned (.tuple #[.slice none 0 0,.int .i64 0])∧Below w.heap.size w w')
theorem Z5w (v:Value) (b:List UInt8) (w:World) (h:Z0 u8c 1 w v b) (hg:Xe w):Calls Tryz.prog 122 #[v] w fun e w'=>Z5U w b e w':=by
 obtain ⟨a,cap,rfl,hcap,hmax,-⟩:=id h
 unfold maxLen at hmax
 have HH:=Jh (And.intro h hg)
 clear h hg
 go_enter Tryz.func122,Tryz.ntmps122
 go_wp2_with fail
 refine (Z6h _ b _ HH.out.1).mono ?_
 rintro e w1 hp
 unfold Ul at hp
 rcases hp with ⟨k,body,v1,ht,rfl,hown,hb⟩|⟨ht,⟨c,hc,rfl⟩,hb⟩
 ·have HT:=Jh (And.intro ht (And.intro hown hb))
  clear ht hown hb
  by_cases hk:k=66
  ·subst hk
   obtain ⟨xa,xc,hv1,hxc,hxm,-⟩:=HT.out.2.1.slice Z7
   unfold maxLen at hxm
   have HS:Hid (Z0 u8c 1 w1 v1 body):=Jh (HT.out.2.1.slice Z7)
   subst hv1
   go_wp2_with fail
   refine (Z4K _ body _ HS.out (HH.out.2.below HT.out.2.2)).mono ?_
   rintro e w2 hd
   unfold RC at hd
   rcases hd with ⟨l,x,hdl,rfl,hown2,hb2⟩|⟨hdn,rfl,hb2⟩
   ·obtain ⟨ya,yc,rfl,hyc,hym,-⟩:=hown2.slice OpD.len
    unfold maxLen at hym
    have HD:=Jh (And.intro hdl (And.intro (hown2.mono HT.out.2.2.size) (HT.out.2.2.trans (hb2.mono HT.out.2.2.size))))
    clear hdl hown2 hb2
    cases l with
    | nil =>
     go_wp2_with fail
     go_ret2
     exact .inr ⟨Qh HT.out.1 HD.out.1,rfl,HD.out.2.2⟩
    | cons x0 l0 =>
     have hl0:¬ (((x0 :: l0).length:Nat):Int)=0:=by simp;omega
     obtain ⟨q,hq⟩:=Je ((x0 :: l0).length)
     have HQ:=Lib.hid hq
     rw[hq] at hl0 hyc ⊢
     clear hq
     go_wp2_with fail
     go_ret2
     exact .inl ⟨x0 :: l0,11+body.length,_,TF HT.out.1 HD.out.1 (by simp),rfl,by rw[←HQ.out];exact HD.out.2.1,HD.out.2.2⟩
   ·have HD:=Jh (And.intro hdn (HT.out.2.2.trans (hb2.mono HT.out.2.2.size)))
    clear hdn hb2
    go_wp2_with fail
    go_ret2
    exact .inr ⟨Z1d HT.out.1 HD.out.1,rfl,HD.out.2⟩
  ·have hk2:¬ (k.toNat:Int)=66:=fun e=>hk (by
    have:k.toNat=(66:UInt8).toNat:=by show k.toNat=66;omega
    exact UInt8.toNat_inj.1 this)
   go_wp2_with fail
   go_ret2
   exact .inr ⟨Rl HT.out.1 hk,rfl,HT.out.2.2⟩
 ·have HT:=Jh (And.intro ht hb)
  clear ht hb
  go_wp2_with fail
  go_ret2
  exact .inr ⟨Uk HT.out.1,rfl,HT.out.2⟩
def ZT (l:List OpD):List UInt8:=Xq 66 (Xm l)
def Z2J (w:World) (l:List OpD) (e:Ending) (w':World):Prop :=
 (l≠[]∧l.length≤200∧(∀ x∈l,x.right=true)∧(Xm l).length≤65536∧∃ v,e=.returned (.tuple #[v,.nilIface])∧Own u8c 1 5 w.heap.size w' v (ZT l)∧Below w.heap.size w w') ∨
 (∃ s n,(n=1∧(l=[]∨200<l.length)∨n=71∧l≠[]∧l.length≤200∧(∃ x∈l,x.right=false)∨n=1∧65536<(Xm l).length)∧e=.returned (.tuple #[.slice none 0 0,Yk s n])∧Below w.heap.size w w')
theorem Q1 (v:Value) (l:List OpD) (w:World) (h:Z0 OpD.cells 26 w v l) (hwf:∀ x∈l,x.wf) (hn:l.length≤1000000):Calls Tryz.prog 81 #[v] w fun e w'=>Z2J w l e w':=by
 obtain ⟨a,cap,rfl,hcap,hmax,-⟩:=id h
 unfold maxLen at hmax
 have HH:=Jh (And.intro h hwf)
 clear h hwf
 by_cases h0:l=[]
 ·subst h0
  go_enter Tryz.func81,Tryz.ntmps81
  go_wp2_with fail
  refine (ZS _ 1 _).mono ?_
  rintro e w1 ⟨rfl,rfl⟩
  rw[Vc _ (by decide)]
  unfold Yk
  go_wp2_with fail
  go_ret2
  exact .inr ⟨_,1,.inl ⟨rfl,.inl rfl⟩,rfl,Below.refl _ _⟩
 ·have hl0:¬ ((l.length:Nat):Int)=0:=by
   have:=List.length_pos_iff.2 h0
   omega
  obtain ⟨q,hq⟩:=Je (l.length)
  have HQ:=Lib.hid hq
  have HS:Hid (Z0 OpD.cells 26 w (.slice a q cap) l):=Jh (by rw[←hq];exact HH.out.1)
  rw[hq] at hl0 hcap ⊢
  clear hq
  go_enter Tryz.func81,Tryz.ntmps81
  go_wp2_with fail
  refine (Z4L _ l _ HS.out HH.out.2 (by omega)).mono ?_
  rintro e w1 hp
  unfold Z12 at hp
  rcases hp with ⟨h1,h2,v1,rfl,hown,hb⟩|⟨h1,rfl,hb⟩|⟨h1,h2,rfl,hb⟩
  ·obtain ⟨xa,xc,hv1,hxc,hxm,-⟩:=hown.slice Z7
   have HE:=Jh (And.intro h1 (And.intro h2 (And.intro (hown.slice Z7) hb)))
   subst hv1
   clear h1 h2 hown hb
   go_wp2_with fail
   refine (ZS _ 0 _).mono ?_
   rintro e w2 ⟨rfl,rfl⟩
   rw[Yy]
   go_wp2_with fail
   refine (Z6L 66 _ (Xm l) _ HE.out.2.2.1).mono ?_
   rintro e w3 hp
   unfold QH at hp
   rcases hp with ⟨h3,v3,rfl,hown3,hb3⟩|⟨h3,rfl,hb3⟩
   ·have HW:=Jh (And.intro h3 (And.intro (hown3.mono HE.out.2.2.2.size) (HE.out.2.2.2.trans (hb3.mono HE.out.2.2.2.size))))
    clear h3 hown3 hb3
    go_wp2_with fail
    refine (ZS _ 0 _).mono ?_
    rintro e w4 ⟨rfl,rfl⟩
    rw[Yy]
    go_wp2_with fail
    go_ret2
    exact .inl ⟨h0,HE.out.1,HE.out.2.1,HW.out.1,v3,rfl,HW.out.2.1,HW.out.2.2⟩
   ·have HW:=Jh (And.intro h3 (HE.out.2.2.2.trans (hb3.mono HE.out.2.2.2.size)))
    clear h3 hb3
    go_wp2_with fail
    refine (ZS _ 1 _).mono ?_
    rintro e w4 ⟨rfl,rfl⟩
    rw[Vc _ (by decide)]
    unfold Yk
    go_wp2_with fail
    go_ret2
    exact .inr ⟨_,1,.inr (.inr ⟨rfl,HW.out.1⟩),rfl,HW.out.2⟩
  ·have HE:=Jh (And.intro h1 hb)
   clear h1 hb
   go_wp2_with fail
   refine (ZS _ 1 _).mono ?_
   rintro e w2 ⟨rfl,rfl⟩
   rw[Vc _ (by decide)]
   unfold Yk
   go_wp2_with fail
   go_ret2
   exact .inr ⟨_,1,.inl ⟨rfl,.inr HE.out.1⟩,rfl,HE.out.2⟩
  ·have HE:=Jh (And.intro h1 (And.intro h2 hb))
   clear h1 h2 hb
   go_wp2_with fail
   refine (ZS _ 71 _).mono ?_
   rintro e w2 ⟨rfl,rfl⟩
   rw[Vc _ (by decide)]
   unfold Yk
   go_wp2_with fail
   go_ret2
   exact .inr ⟨_,71,.inr (.inl ⟨rfl,h0,HE.out.1,HE.out.2.1⟩),rfl,HE.out.2.2⟩
def ZL:ByteArray:={ data:=#[108,111,103] }
def Zv:ByteArray:={ data:=#[110,101,119] }
def rmA (A:Z4):Z4:=if Zb A.files Zv=none then A else ZH ⟨0,⟨#[]⟩,Zv,none⟩ A
theorem Uw (A:Z4) (n:ByteArray):Qn (Wn A) n=true↔Zb A.files n≠none:=by
 rw[QL,(Z3Z A).mem_iff,ne_eq,Ur]
 exact Classical.not_not.symm
def Xk (w:World) (lb pb:Nat) (vo:Value) (sy:Int):Prop:=w.heap[lb]?=some (.cells #[.pointer (some ⟨pb,0,none⟩),vo,.int .i64 sy] 133 (0,0))
theorem Xk.c0 {w:World} {lb pb:Nat} {vo:Value} {sy:Int} (h:Xk w lb pb vo sy):w.cell? ⟨lb,0,none⟩=some (.pointer (some ⟨pb,0,none⟩)):=Joins.cell_of_block h 0
theorem Xk.c1 {w:World} {lb pb:Nat} {vo:Value} {sy:Int} (h:Xk w lb pb vo sy):w.cell? ⟨lb,1,none⟩=some vo:=Joins.cell_of_block h 1
theorem Xk.c2 {w:World} {lb pb:Nat} {vo:Value} {sy:Int} (h:Xk w lb pb vo sy):w.cell? ⟨lb,2,none⟩=some (.int .i64 sy):=Joins.cell_of_block h 2
theorem Xk.tag {w:World} {lb pb:Nat} {vo:Value} {sy:Int} (h:Xk w lb pb vo sy):YD w lb=some 133:=YU h
theorem Xk.lt {w:World} {lb pb:Nat} {vo:Value} {sy:Int} (h:Xk w lb pb vo sy):lb<w.heap.size:=Vn h.tag
theorem Xk.below {w w':World} {lb pb:Nat} {vo:Value} {sy:Int} (h:Xk w lb pb vo sy) (hb:Below w.heap.size w w'):Xk w' lb pb vo sy:=((Ext.of_below (S:=fun _=>False) hb).block lb h.lt id).trans h
theorem Xk.turn {base:Nat} {w w':World} {lb:Nat} {vo:Value} {sy:Int} {D D':DSh} {A A':Z4} (h:Xk w lb D.pb vo sy) (hd:Zd base w D A) (ht:Zl base w D A w' D' A'):Xk w' lb D'.pb vo sy:=by
 unfold Xk
 rw[ht.pb]
 refine (ht.ext.block lb h.lt (fun hf=>?_)).trans h
 have:=hd.dtag hf
 rw[h.tag] at this
 rcases this with h1|h1|h1|h1|h1|h1 <;> revert h1 <;> decide
theorem Z0n {base:Nat} {w:World} {D:DSh} {A:Z4} (h:Zd base w D A) (hbw:base≤w.heap.size) {N:Nat} (hsm:A.Small N) (hN:N≤1000000) (lb:Nat) (vo:Value) (sy:Int) (hl:Xk w lb D.pb vo sy) :
  Calls Tryz.prog 120 #[.pointer (some ⟨lb,0,none⟩)] w fun e w'=>e=.returned .nilIface∧∃ D',Zl base w D A w' D' (rmA A):=by
 have c0:=hl.c0
 have HH:=Jh (And.intro h (And.intro hsm (And.intro hbw hl)))
 clear h hsm hbw hl
 go_enter Tryz.func120,Tryz.ntmps120
 go_wp2_with fail
 refine (Z1t HH.out.1 (by have:=HH.out.2.1.fil;omega)).mono ?_
 rintro e w1 ⟨v1,rfl,hown,hb⟩
 obtain ⟨xa,xc,hv1,hxc,hxm,-⟩:=hown.slice SJ
 have HO:=Jh (And.intro (hown.slice SJ) hb)
 subst hv1
 have c1:=(HH.out.2.2.2.below hb).c0
 clear hown hb
 go_wp2_with fail
 refine (R6 _ (Wn A) Zv _ HO.out.1).mono ?_
 rintro e w2 ⟨rfl,rfl⟩
 cases hn:Qn (Wn A) Zv with
 | false =>
  have hno:Zb A.files Zv=none:=by
   cases hg:Zb A.files Zv with
   | none=>rfl
   | some f=>have:=(Uw A Zv).2 (by rw[hg];simp);rw[hn] at this;cases this
  have HR:Hid (rmA A=A):=Jh (by unfold rmA;rw[if_pos hno])
  go_wp2_with fail
  go_ret
  exact ⟨rfl,D,by rw[HR.out];exact Zl.below HH.out.1 HO.out.2⟩
 | true =>
  have hne:=(Uw A Zv).1 hn
  have HR:Hid (rmA A=ZH ⟨0,⟨#[]⟩,Zv,none⟩ A):=Jh (by unfold rmA;rw[if_neg hne])
  have HNE:=Lib.hid hne
  clear hne
  go_wp2_with fail
  refine (QT (HH.out.1.below HO.out.2) (Nat.le_trans HH.out.2.2.1 HO.out.2.size) Zv HH.out.2.1.now0 (by have:=HH.out.2.1.now;omega) (by have:=HH.out.2.1.chg;omega)).mono ?_
  rintro e w3 hp
  rcases hp with ⟨hno,rfl,ht⟩|⟨f,D',hf,rfl,ht⟩
  ·exact absurd hno HNE.out
  ·have HT:=Jh ((Zl.below HH.out.1 HO.out.2).trans ht)
   clear hf ht
   go_wp2_with fail
   refine (ZS _ 0 _).mono ?_
   rintro e w4 ⟨rfl,rfl⟩
   rw[Yy]
   go_wp2_with fail
   go_ret
   exact ⟨rfl,D',by rw[HR.out];exact HT.out⟩
def Z5a (k:Int) (n s:ByteArray) (bs:List UInt8):OpA:=⟨k,n,s,⟨none,0,0⟩,0,0,⟨none,0,0⟩,0,bs,[]⟩
theorem Z4.Small.make {A:Z4} {n:Nat} (h:A.Small n) {x:ByteArray} {fb:Nat} (hc:Yo A x=0) (hf:fb∉A.ids):(ZH ⟨0,x,⟨#[]⟩,some fb⟩ (Xa fb A)).Small (n+1) :=
 UP.small (x:=Z5a 1 x ⟨#[]⟩ []) (A:=A) (c:=0) (by unfold UP;refine Eq.mpr (if_pos (show (1:Int)=1 from rfl)) ?_;exact ⟨hc.symm,.inr ⟨rfl,fb,hf,rfl⟩⟩) h
theorem Z4.Small.app {A:Z4} {n:Nat} (h:A.Small n) {x:ByteArray} {f:Nat} {bs:List UInt8} (hg:Zb A.files x=some f) (hs:ZQ (A.fs f)+bs.length≤1048576):(Yh f bs A).Small (n+1) :=
 UP.small (x:=Z5a 2 x ⟨#[]⟩ bs) (A:=A) (c:=0) (by unfold UP;refine Eq.mpr (if_neg (show ¬ (2:Int)=1 by decide)) ?_;refine Eq.mpr (if_pos (show (2:Int)=2 from rfl)) ?_;exact .inr (.inr ⟨f,hg,hs,rfl,rfl⟩)) h
theorem Z4.Small.sync {A:Z4} {n:Nat} (h:A.Small n) {x:ByteArray} {f:Nat} (hg:Zb A.files x=some f):(ZV f A).Small (n+1) :=
 UP.small (x:=Z5a 3 x ⟨#[]⟩ []) (A:=A) (c:=0) (by unfold UP;refine Eq.mpr (if_neg (show ¬ (3:Int)=1 by decide)) ?_;refine Eq.mpr (if_neg (show ¬ (3:Int)=2 by decide)) ?_;refine Eq.mpr (if_pos (show (3:Int)=3 from rfl)) ?_;exact .inr ⟨f,hg,rfl,rfl⟩) h
theorem Z4.Small.syn_ {A:Z4} {n:Nat} (h:A.Small n):(Xg A).Small (n+1) :=
 UP.small (x:=Z5a 6 ⟨#[]⟩ ⟨#[]⟩ []) (A:=A) (c:=0) (by unfold UP;refine Eq.mpr (if_neg (show ¬ (6:Int)=1 by decide)) ?_;refine Eq.mpr (if_neg (show ¬ (6:Int)=2 by decide)) ?_;refine Eq.mpr (if_neg (show ¬ (6:Int)=3 by decide)) ?_;refine Eq.mpr (if_neg (show ¬ (6:Int)=4 by decide)) ?_;refine Eq.mpr (if_neg (show ¬ (6:Int)=5 by decide)) ?_;refine Eq.mpr (if_pos (show (6:Int)=6 from rfl)) ?_;exact ⟨rfl,rfl⟩) h
theorem Z4.Small.rm {A:Z4} {n:Nat} (h:A.Small n):(rmA A).Small (n+1):=by
 unfold rmA
 split
 ·exact h.mono (Nat.le_succ n)
 ·exact h.step _
def an1 (fb:Nat) (A:Z4):Z4:=ZH ⟨0,Zv,⟨#[]⟩,some fb⟩ (Xa fb (rmA A))
def an2 (fb:Nat) (bs:List UInt8) (A:Z4):Z4:=Xg (ZV fb (Yh fb bs (an1 fb A)))
def Wy (fb:Nat) (bs:List UInt8) (A:Z4):Z4:=Xg (ZH ⟨0,ZL,Zv,some fb⟩ (an2 fb bs A))
theorem Z3g {A:Z4} (hn:(A.files.map (·.1)).Nodup):Zb (rmA A).files Zv=none:=by
 unfold rmA
 split
 ·assumption
 ·exact TS _ _ hn
theorem Z0P (A:Z4):(rmA A).files.length≤A.files.length:=by
 unfold rmA
 split
 ·exact Nat.le_refl _
 ·exact (Sn A.files Zv).length_le
theorem Vf (A:Z4):(rmA A).ids=A.ids:=by unfold rmA;split <;> rfl
theorem Z0z:Yn Zv=true:=by decide
theorem Vd:Yn ZL=true:=by decide
theorem RL {A:Z4} (hn:(A.files.map (·.1)).Nodup) (hl:A.files.length≤7):Yo (rmA A) Zv=0:=by
 have h1:=Z3g hn
 have h2:=Z0P A
 unfold Yo
 rw[Z0z,h1]
 simp
 omega
theorem XS (fb:Nat) (A:Z4):Zb (an1 fb A).files Zv=some fb:=by
 unfold an1 ZH ZZ
 exact TT _ _ _
theorem Z3f (fb:Nat) (A:Z4):(an1 fb A).fs fb=[]:=by
 unfold an1 ZH Xa
 simp
def Sy (base:Nat) (w:World) (D:DSh) (A:Z4) (bs:List UInt8) (e:Ending) (w':World):Prop :=
 (bs.length≤1048576∧e=.returned .nilIface∧∃ fb D',fb∉A.ids∧Zl base w D A w' D' (Wy fb bs A)) ∨
 (1048576<bs.length∧(∃ s,e=.returned (Yk s 62))∧∃ fb D',fb∉A.ids∧Zl base w D A w' D' (ZH ⟨0,⟨#[]⟩,Zv,none⟩ (an1 fb A)))
theorem Zl.keep {base:Nat} {w w':World} {D D':DSh} {A A':Z4} (ht:Zl base w D A w' D' A') (hd:Zd base w D A) {b:Nat} {o:Obj} (h:w.heap[b]?=some o) (hg:¬ Wq (YD w b)):w'.heap[b]?=some o :=
 (ht.ext.block b (Array.getElem?_eq_some_iff.1 h).1 (fun hf=>hg (hd.dtag hf))).trans h
theorem Qk {base:Nat} {w:World} {D:DSh} {A:Z4} (h:Zd base w D A) (hbw:base≤w.heap.size) {N:Nat} (hsm:A.Small N) (hN:N≤900000) (hfl:A.files.length≤7) (lb:Nat) (vo:Value) (sy:Int) (hl:Xk w lb D.pb vo sy)
  (va:Option Addr) (vn vc:Nat) (bs:List UInt8) (hv:Z0 u8c 1 w (.slice va vn vc) bs) (hvd:∀ a,va=some a→¬ Wq (YD w a.block)) (hbs:bs.length≤70368744177664) :
  Calls Tryz.prog 86 #[.pointer (some ⟨lb,0,none⟩),.slice va vn vc] w fun e w'=>Sy base w D A bs e w':=by
 have HH:=Jh (And.intro h (And.intro hsm (And.intro hbw (And.intro hl hv))))
 clear h hsm hbw hl hv
 go_enter Tryz.func86,Tryz.ntmps86
 go_wp2_with fail
 refine (Z0n HH.out.1 HH.out.2.2.1 HH.out.2.1 (by omega) lb vo sy HH.out.2.2.2.1).mono ?_
 rintro e w1 ⟨rfl,D1,ht1⟩
 have hl1:=HH.out.2.2.2.1.turn HH.out.1 ht1
 have c1:=hl1.c0
 have H1:=Jh (And.intro ht1 (And.intro hl1 (Nat.le_trans HH.out.2.2.1 ht1.ext.size)))
 have S1:=Lib.hid HH.out.2.1.rm
 clear ht1 hl1
 go_wp2_with fail
 refine (Z2S H1.out.1.is_ H1.out.2.2 Zv S1.out.now0 (by have:=S1.out.now;omega) (by have:=S1.out.chg;omega)).mono ?_
 rintro e w2 ⟨rfl,hp⟩
 rw[RL HH.out.1.mfiles.1 hfl]
 rw[RL HH.out.1.mfiles.1 hfl] at hp
 rcases hp with ⟨hno,_⟩|⟨_,fb,D2,hfb,ht2⟩
 ·exact absurd rfl hno
 have hl2:=H1.out.2.1.turn H1.out.1.is_ ht2
 have c2:=hl2.c0
 have H2:=Jh (And.intro ht2 (And.intro hl2 (And.intro (Nat.le_trans H1.out.2.2 ht2.ext.size) hfb)))
 have S2:=Jh (S1.out.make (RL HH.out.1.mfiles.1 hfl) hfb)
 clear ht2 hl2 hfb
 go_wp2_with fail
 refine (ZS _ 0 _).mono ?_
 rintro e w3 ⟨rfl,rfl⟩
 rw[Yy]
 go_wp2_with fail
 have T2:=Jh (H1.out.1.trans H2.out.1)
 have hv2:Z0 u8c 1 w3 (.slice va vn vc) bs:=HH.out.2.2.2.2.ext T2.out.ext (fun b o n cap e hf=>by
  simp only[Value.slice.injEq] at e
  exact hvd _ e.1 (HH.out.1.dtag hf))
 have hsz:ZQ ((an1 fb A).fs fb)=0:=by rw[Z3f];rfl
 refine (Z0s T2.out.is_ H2.out.2.2.1 Zv _ bs hv2 hbs S2.out (by omega)).mono ?_
 rintro e w4 hp
 unfold Z1c at hp
 rcases hp with ⟨hno,_⟩|⟨f,hg,hbig,rfl,ht4⟩|⟨f,D4,hg,hsm4,rfl,ht4⟩
 ·rw[show Zb (ZH ⟨0,Zv,⟨#[]⟩,some fb⟩ (Xa fb (rmA A))).files Zv=some fb from XS fb A] at hno
  cases hno
 ·have hfe:f=fb:=by
   have h9:=XS fb A
   unfold an1 at h9
   rw[h9] at hg
   exact (Option.some.inj hg).symm
  subst hfe
  have hb2:1048576<bs.length:=by
   have h9:=hsz
   unfold an1 at h9
   omega
  have H4:=Jh (And.intro (T2.out.trans ht4) (And.intro (H2.out.2.1.turn T2.out.is_ ht4) (And.intro hb2 (Nat.le_trans H2.out.2.2.1 ht4.ext.size))))
  clear hg hbig ht4 hv2 hsz hb2
  have c4:=H4.out.2.1.c0
  go_wp2_with fail
  refine (ZS _ 62 _).mono ?_
  rintro e w5 ⟨rfl,rfl⟩
  rw[Vc _ (by decide)]
  unfold Yk
  go_wp2_with fail
  refine (QT H4.out.1.is_ H4.out.2.2.2 Zv S2.out.now0 (by have:=S2.out.now;omega) (by have:=S2.out.chg;omega)).mono ?_
  rintro e w6 hp
  rcases hp with ⟨hno,_⟩|⟨g,D6,_,rfl,ht6⟩
  ·rw[show Zb (ZH ⟨0,Zv,⟨#[]⟩,some f⟩ (Xa f (rmA A))).files Zv=some f from XS f A] at hno
   cases hno
  ·have H6:=Jh (H4.out.1.trans ht6)
   clear ht6
   go_wp2_with fail
   go_ret
   exact .inr ⟨H4.out.2.2.1,⟨_,rfl⟩,f,D6,by have:=H2.out.2.2.2;rwa [Vf] at this,H6.out⟩
 ·have hfe:f=fb:=by
   have h9:=XS fb A
   unfold an1 at h9
   rw[h9] at hg
   exact (Option.some.inj hg).symm
  subst hfe
  have hb2:bs.length≤1048576:=by
   have h9:=hsz
   unfold an1 at h9
   omega
  have S4:=Jh (S2.out.app hg hsm4)
  have H4:=Jh (And.intro (T2.out.trans ht4) (And.intro (H2.out.2.1.turn T2.out.is_ ht4) (And.intro hb2 (Nat.le_trans H2.out.2.2.1 ht4.ext.size))))
  clear hg hsm4 ht4 hv2 hsz hb2
  have c4:=H4.out.2.1.c0
  go_wp2_with fail
  refine (ZS _ 0 _).mono ?_
  rintro e w5 ⟨rfl,rfl⟩
  rw[Yy]
  go_wp2_with fail
  have hx0:Below w5.heap.size w5 (w5.alloc (.cells #[.string ⟨#[115,121,110,99]⟩,.string ⟨#[110,97,109,101,115]⟩,.string ⟨#[114,101,110,97,109,101]⟩,.string ⟨#[110,97,109,101,115]⟩] 9)):=(Below.refl _ _).alloc (Nat.le_refl _) _
  have hn0:=ZB w5 (.cells #[.string ⟨#[115,121,110,99]⟩,.string ⟨#[110,97,109,101,115]⟩,.string ⟨#[114,101,110,97,109,101]⟩,.string ⟨#[110,97,109,101,115]⟩] 9)
  obtain ⟨w6,hw6⟩:=Je (w5.alloc (.cells #[.string ⟨#[115,121,110,99]⟩,.string ⟨#[110,97,109,101,115]⟩,.string ⟨#[114,101,110,97,109,101]⟩,.string ⟨#[110,97,109,101,115]⟩] 9))
  rw[hw6] at hx0 hn0 ⊢
  have HB0:=Jh (And.intro (H4.out.1.trans (Zl.below H4.out.1.is_ hx0)) (And.intro (H4.out.2.1.below hx0) (And.intro hn0 (Nat.le_trans H4.out.2.2.2 hx0.size))))
  have HW6:=Lib.hid hw6
  clear hx0 hn0 c1 c2 c4 hw6
  refine wp_loop_rounds 5 ?_
  have cS0:w6.cell? ⟨w5.heap.size,0,none⟩=some (.string ⟨#[115,121,110,99]⟩):=Joins.cell_of_block HB0.out.2.2.1 0
  have cL0:=HB0.out.2.1.c0
  rw[rounds_succ]
  go_wp2_with fail
  refine (Qr HB0.out.1.is_ Zv S4.out (by omega)).mono ?_
  rintro e w7 hp
  unfold Sk at hp
  rcases hp with ⟨hno,_⟩|⟨g,hg,rfl,ht⟩
  ·rw[show Zb (Yh f bs (ZH ⟨0,Zv,⟨#[]⟩,some f⟩ (Xa f (rmA A)))).files Zv=some f from XS f A] at hno
   cases hno
  have hge:g=f:=by
   rw[show Zb (Yh f bs (ZH ⟨0,Zv,⟨#[]⟩,some f⟩ (Xa f (rmA A)))).files Zv=some f from XS f A] at hg
   exact (Option.some.inj hg).symm
  subst hge
  have S5:=Jh (S4.out.sync hg)
  clear hg
  have HB1:=Jh (And.intro (HB0.out.1.trans ht) (And.intro (HB0.out.2.1.turn HB0.out.1.is_ ht) (And.intro (ht.keep HB0.out.1.is_ HB0.out.2.2.1 (by rw[YU HB0.out.2.2.1];unfold Wq;decide)) (Nat.le_trans HB0.out.2.2.2 ht.ext.size))))
  clear ht cS0 cL0
  go_wp2_with fail
  refine (ZS _ 0 _).mono ?_
  rintro e wq0 ⟨rfl,rfl⟩
  rw[Yy]
  go_wp2_with fail
  have cS1:wq0.cell? ⟨w5.heap.size,1,none⟩=some (.string ⟨#[110,97,109,101,115]⟩):=Joins.cell_of_block HB1.out.2.2.1 1
  have cL1:=HB1.out.2.1.c0
  rw[rounds_succ]
  go_wp2_with fail
  refine (VQ HB1.out.1.is_ HB1.out.2.2.2 S5.out.now0 (by have:=S5.out.now;omega) (by have:=S5.out.syn;omega)).mono ?_
  rintro e w8 ⟨rfl,D8,ht⟩
  have S6:=Lib.hid S5.out.syn_
  have HB2:=Jh (And.intro (HB1.out.1.trans ht) (And.intro (HB1.out.2.1.turn HB1.out.1.is_ ht) (And.intro (ht.keep HB1.out.1.is_ HB1.out.2.2.1 (by rw[YU HB1.out.2.2.1];unfold Wq;decide)) (Nat.le_trans HB1.out.2.2.2 ht.ext.size))))
  clear ht cS1 cL1
  go_wp2_with fail
  refine (ZS _ 0 _).mono ?_
  rintro e wq1 ⟨rfl,rfl⟩
  rw[Yy]
  go_wp2_with fail
  have cS2:wq1.cell? ⟨w5.heap.size,2,none⟩=some (.string ⟨#[114,101,110,97,109,101]⟩):=Joins.cell_of_block HB2.out.2.2.1 2
  have cL2:=HB2.out.2.1.c0
  rw[rounds_succ]
  go_wp2_with fail
  refine (Z4O HB2.out.1.is_ HB2.out.2.2.2 Zv ZL S6.out.now0 (by have:=S6.out.now;omega) (by have:=S6.out.chg;omega)).mono ?_
  rintro e w9 hp
  rcases hp with ⟨hno,_⟩|⟨_,hno,_⟩|⟨h,D9,_,hg,rfl,ht⟩
  ·rw[Vd] at hno;cases hno
  ·rw[show Zb (Xg (ZV g (Yh g bs (ZH ⟨0,Zv,⟨#[]⟩,some g⟩ (Xa g (rmA A)))))).files Zv=some g from XS g A] at hno
   cases hno
  rw[show Zb (Xg (ZV g (Yh g bs (ZH ⟨0,Zv,⟨#[]⟩,some g⟩ (Xa g (rmA A)))))).files Zv=some g from XS g A] at hg
  have hhe:=Option.some.inj hg
  subst hhe
  have S7:=Jh (S6.out.step ⟨0,ZL,Zv,some g⟩)
  clear hg
  have HB3:=Jh (And.intro (HB2.out.1.trans ht) (And.intro (HB2.out.2.1.turn HB2.out.1.is_ ht) (And.intro (ht.keep HB2.out.1.is_ HB2.out.2.2.1 (by rw[YU HB2.out.2.2.1];unfold Wq;decide)) (Nat.le_trans HB2.out.2.2.2 ht.ext.size))))
  clear ht cS2 cL2
  go_wp2_with fail
  refine (ZS _ 0 _).mono ?_
  rintro e wq2 ⟨rfl,rfl⟩
  rw[Yy]
  go_wp2_with fail
  have cS3:wq2.cell? ⟨w5.heap.size,3,none⟩=some (.string ⟨#[110,97,109,101,115]⟩):=Joins.cell_of_block HB3.out.2.2.1 3
  have cL3:=HB3.out.2.1.c0
  rw[rounds_succ]
  go_wp2_with fail
  refine (VQ HB3.out.1.is_ HB3.out.2.2.2 S7.out.now0 (by have:=S7.out.now;omega) (by have:=S7.out.syn;omega)).mono ?_
  rintro e w10 ⟨rfl,D10,ht⟩
  have HB4:=Jh (And.intro (HB3.out.1.trans ht) (And.intro (HB3.out.2.1.turn HB3.out.1.is_ ht) (And.intro (ht.keep HB3.out.1.is_ HB3.out.2.2.1 (by rw[YU HB3.out.2.2.1];unfold Wq;decide)) (Nat.le_trans HB3.out.2.2.2 ht.ext.size))))
  clear ht cS3 cL3
  go_wp2_with fail
  refine (ZS _ 0 _).mono ?_
  rintro e wq3 ⟨rfl,rfl⟩
  rw[Yy]
  go_wp2_with fail
  rw[rounds_succ]
  go_wp2_with fail
  go_ret
  exact .inl ⟨H4.out.2.2.1,rfl,g,_,by have:=H2.out.2.2.2;rwa [Vf] at this,HB4.out.1⟩
def Y5 (l:List OpD):Prop:=l≠[]∧l.length≤200∧(∀ x∈l,x.right=true∧x.wf)∧(Xm l).length≤65536
theorem XE (l:List OpD):(ZT l).length=11+(Xm l).length:=Rr _ _
theorem We {b:List UInt8} {l:List OpD} {n:Nat}:YM b=some (l,n)↔Y5 l∧n=(ZT l).length∧ZT l <+: b:=by
 constructor
 ·intro h
  cases ht:Yp b with
  | none=>rw[Uk ht] at h;cases h
  | some p =>
   obtain ⟨k,body⟩:=p
   by_cases hk:k=66
   ·subst hk
    cases hd:Xf body with
    | none=>rw[Z1d ht hd] at h;cases h
    | some m =>
     by_cases hm:m=[]
     ·subst hm;rw[Qh ht hd] at h;cases h
     ·rw[TF ht hd hm] at h
      cases h
      have h1:=Qp ht
      have h2:=Z34.1 hd
      have h3:=h1.1
      have h4:=h1.2
      rw[←h2.2.2] at h3 h4 ⊢
      exact ⟨⟨hm,h2.1,h2.2.1,h3⟩,(XE l).symm,h4⟩
   ·rw[Rl ht hk] at h;cases h
 ·rintro ⟨hg,rfl,hp⟩
  have ht:Yp b=some (66,Xm l):=Z3s ⟨hg.2.2.2,hp⟩
  rw[TF ht (Z34.2 ⟨hg.2.1,hg.2.2.1,rfl⟩) hg.1,XE]
theorem Z2P {l m:List OpD} (hl:Y5 l) (hm:Y5 m) {r s:List UInt8} (h:ZT l++r=ZT m++s):l=m∧r=s:=by
 have h1:YM (ZT l++r)=some (l,(ZT l).length):=We.2 ⟨hl,rfl,List.prefix_append _ _⟩
 have h2:YM (ZT m++s)=some (m,(ZT m).length):=We.2 ⟨hm,rfl,List.prefix_append _ _⟩
 rw[h,h2] at h1
 cases h1
 exact ⟨rfl,List.append_cancel_left h⟩
noncomputable def Z0C:Nat→List UInt8→List (List OpD)
 | 0,_=>[]
 | k+1,b=>match YM b with|none=>[]|some (l,n)=>l :: Z0C k (b.drop n)
noncomputable def V4 (b:List UInt8):List (List OpD):=Z0C b.length b
def Ze (ls:List (List OpD)):List UInt8:=ls.flatMap ZT
theorem WG (l:List OpD) (ls:List (List OpD)):Ze (l :: ls)=ZT l++Ze ls:=rfl
theorem Xw (ls ms:List (List OpD)):Ze (ls++ms)=Ze ls++Ze ms:=by unfold Ze;rw[List.flatMap_append]
theorem Va (l:List OpD):Ze [l]=ZT l:=by unfold Ze;simp
noncomputable def Vu (b:List UInt8):Nat:=(Ze (V4 b)).length
theorem Qf {b:List UInt8} {l:List OpD} {n:Nat} (h:YM b=some (l,n)):b=ZT l++b.drop n∧0<n∧n≤b.length:=by
 obtain ⟨hg,rfl,r,rfl⟩:=We.1 h
 refine ⟨by rw[List.drop_left],by rw[XE];omega,by simp⟩
theorem Z5I:∀ (k:Nat) (b:List UInt8),b.length≤k→(∀ l∈Z0C k b,Y5 l)∧∃ r,b=Ze (Z0C k b)++r∧YM r=none:=by
 intro k
 induction k with
 | zero =>
  intro b hb
  obtain rfl:b=[]:=List.length_eq_zero_iff.1 (by omega)
  exact ⟨fun l hl=>(by cases hl),[],rfl,Uk (Xs (by simp))⟩
 | succ k ih =>
  intro b hb
  cases ht:YM b with
  | none =>
   rw[Z0C,ht]
   exact ⟨fun l hl=>(by cases hl),b,rfl,ht⟩
  | some p =>
   obtain ⟨l,n⟩:=p
   rw[Z0C,ht]
   dsimp only
   obtain ⟨h1,h2,h3⟩:=Qf ht
   obtain ⟨g,r,e,hr⟩:=ih (b.drop n) (by rw[List.length_drop];omega)
   refine ⟨fun m hm=>?_,r,?_,hr⟩
   ·rcases List.mem_cons.1 hm with rfl|hm
    ·exact (We.1 ht).1
    ·exact g m hm
   ·rw[WG,List.append_assoc,←e]
    exact h1
theorem Z02:∀ {ls ms:List (List OpD)} {r s:List UInt8},(∀ l∈ls,Y5 l)→(∀ l∈ms,Y5 l)→Ze ls++r=Ze ms++s→YM r=none→YM s=none→ls=ms∧r=s
 | [],[],r,s,_,_,h,_,_=>⟨rfl,h⟩
 | [],m :: ms,r,s,_,hm,h,hr,_=>by
  rw[WG,List.append_assoc] at h
  have:YM r=some (m,(ZT m).length):=We.2 ⟨hm m (by simp),rfl,⟨_,h.symm⟩⟩
  rw[hr] at this
  cases this
 | l :: ls,[],r,s,hl,_,h,_,hs=>by
  rw[WG,List.append_assoc] at h
  have:YM s=some (l,(ZT l).length):=We.2 ⟨hl l (by simp),rfl,⟨_,h⟩⟩
  rw[hs] at this
  cases this
 | l :: ls,m :: ms,r,s,hl,hm,h,hr,hs=>by
  rw[WG,WG,List.append_assoc,List.append_assoc] at h
  obtain ⟨rfl,h2⟩:=Z2P (hl l (by simp)) (hm m (by simp)) h
  obtain ⟨rfl,h3⟩:=Z02 (fun x hx=>hl x (by simp[hx])) (fun x hx=>hm x (by simp[hx])) h2 hr hs
  exact ⟨rfl,h3⟩
theorem Z6x {b x r:List UInt8} (h:b=x++r):b.drop x.length=r:=by subst h;exact List.drop_left
theorem Z6u {b x r:List UInt8} (h:b=x++r):b.take x.length=x:=by subst h;exact List.take_left
theorem Tk (b:List UInt8):(∀ l∈V4 b,Y5 l)∧b=Ze (V4 b)++b.drop (Vu b)∧YM (b.drop (Vu b))=none:=by
 obtain ⟨g,r,e,hr⟩:=Z5I b.length b (Nat.le_refl _)
 have e2:b.drop (Vu b)=r:=Z6x e
 exact ⟨g,by rw[e2];exact e,by rw[e2];exact hr⟩
theorem Sa {b r:List UInt8} {ls:List (List OpD)} (hg:∀ l∈ls,Y5 l) (hb:b=Ze ls++r) (hr:YM r=none):V4 b=ls∧b.drop (Vu b)=r:=by
 obtain ⟨g,e,h⟩:=Tk b
 obtain ⟨h1,h2⟩:=Z02 g hg (e.symm.trans hb) h hr
 exact ⟨h1,h2⟩
theorem Z0W {b r:List UInt8} {ls:List (List OpD)} (hg:∀ l∈ls,Y5 l) (hb:b=Ze ls++r) (hr:YM r=none):Vu b=(Ze ls).length:=by
 unfold Vu
 rw[(Sa hg hb hr).1]
theorem TA:YM []=none:=Uk (Xs (by simp))
theorem Tu {ls:List (List OpD)} (hg:∀ l∈ls,Y5 l):V4 (Ze ls)=ls∧Vu (Ze ls)=(Ze ls).length :=
 ⟨(Sa hg (List.append_nil _).symm TA).1,Z0W hg (List.append_nil _).symm TA⟩
theorem Z6b (b:List UInt8):b.take (Vu b)=Ze (V4 b):=by
 exact Z6u (Tk b).2.1
structure YN (base:Nat) (w:World) (pb lb:Nat) (vo:Value) (L:List OpD) (sy:Int):Prop where
 b:Xk w lb pb vo sy
 o:Own OpD.cells 26 68 base w vo L
 lo:base≤lb
 wf:∀ x∈L,x.wf
theorem Z05:¬ Wq (some 68):=by unfold Wq;decide
theorem Z7A:¬ Wq (some 133):=by unfold Wq;decide
theorem Z0k:¬ Wq (some 5):=by unfold Wq;decide
section
variable {base B:Nat} {w w' w'':World} {D D' D'':DSh} {A A' A'':Z4} {pb lb:Nat} {vo vo' vo'':Value} {L L' L'':List OpD} {sy sy' sy'':Int}
theorem YN.below (h:YN base w pb lb vo L sy) (hb:Below w.heap.size w w'):YN base w' pb lb vo L sy:=⟨h.b.below hb,h.o.below1 hb,h.lo,h.wf⟩
theorem YN.turn (h:YN base w D.pb lb vo L sy) (hd:Zd B w D A) (ht:Zl B w D A w' D' A'):YN base w' D'.pb lb vo L sy :=
 ⟨h.b.turn hd ht,h.o.ext ht.ext (fun b hb hf=>Z05 (by rw[←Zj h.o hb];exact hd.dtag hf)),h.lo,h.wf⟩
theorem YN.mono (h:YN base w pb lb vo L sy) (hb:B≤base):YN B w pb lb vo L sy:=⟨h.b,h.o.mono hb,Nat.le_trans hb h.lo,h.wf⟩
structure LT (base:Nat) (w:World) (D:DSh) (A:Z4) (lb:Nat) (vo:Value) (w':World) (D':DSh) (A':Z4) (vo':Value) (L':List OpD) (sy':Int):Prop where
 disk:Zd base w' D' A'
 pb:D'.pb=D.pb
 log:YN base w' D'.pb lb vo' L' sy'
 ext:Ext (fun b=>Wo D A b∨b=lb∨vo.ownBlock=some b) w w'
 foot:∀ b,Wo D' A' b→Wo D A b∨w.heap.size≤b
 own:∀ b,vo'.ownBlock=some b→vo.ownBlock=some b∨w.heap.size≤b
theorem LT.refl (hd:Zd base w D A) (hl:YN base w D.pb lb vo L sy):LT base w D A lb vo w D A vo L sy:=⟨hd,rfl,hl,Ext.refl _ _,fun _ h=>.inl h,fun _ h=>.inl h⟩
theorem LT.of_turned (hd:Zd base w D A) (hl:YN base w D.pb lb vo L sy) (ht:Zl base w D A w' D' A'):LT base w D A lb vo w' D' A' vo L sy :=
 ⟨ht.is_,ht.pb,hl.turn hd ht,ht.ext.mono (fun _ _ h=>.inl h),ht.foot,fun _ h=>.inl h⟩
theorem LT.trans (h:LT base w D A lb vo w' D' A' vo' L' sy') (k:LT base w' D' A' lb vo' w'' D'' A'' vo'' L'' sy''):LT base w D A lb vo w'' D'' A'' vo'' L'' sy'' where
 disk:=k.disk
 pb:=k.pb.trans h.pb
 log:=k.log
 ext:=h.ext.andThen k.ext (fun i hi hs=>by
  rcases hs with hs|hs|hs
  ·exact .inl ((h.foot i hs).resolve_right (by omega))
  ·exact .inr (.inl hs)
  ·exact .inr (.inr ((h.own i hs).resolve_right (by omega))))
 foot b hb:=by
  rcases k.foot b hb with e|e
  ·exact h.foot b e
  ·exact .inr (Nat.le_trans h.ext.size e)
 own b hb:=by
  rcases k.own b hb with e|e
  ·exact h.own b e
  ·exact .inr (Nat.le_trans h.ext.size e)
theorem LT.turn (h:LT base w D A lb vo w' D' A' vo' L' sy') (k:Zl base w' D' A' w'' D'' A''):LT base w D A lb vo w'' D'' A'' vo' L' sy':=h.trans (LT.of_turned h.disk h.log k)
theorem LT.below (h:LT base w D A lb vo w' D' A' vo' L' sy') (k:Below w'.heap.size w' w''):LT base w D A lb vo w'' D' A' vo' L' sy':=h.turn (Zl.below h.disk k)
theorem LT.frame {w0:World} (h:LT base w D A lb vo w' D' A' vo' L' sy') (hd:Zd base w D A) (hl:YN base w D.pb lb vo L sy) (hb:Below B w0 w) (hB:B≤base) (hs:B≤w.heap.size):Below B w0 w' :=
 Ext.new hb h.ext (fun i hi _ hp=>by
  rcases hp with hp|hp|hp
  ·have:=(hd.foot hp).1;omega
  ·have:=hl.lo;omega
  ·have:=(hl.o.blk i hp).1;omega) hs
theorem Xk.set1 (h:Xk w lb pb vo sy) (v:Value):Xk (w.setCell ⟨lb,1,none⟩ v) lb pb v sy:=by
 have:=Joins.block_setCell (i:=1) h v
 exact this
theorem Xk.set2 (h:Xk w lb pb vo sy) (n:Int):Xk (w.setCell ⟨lb,2,none⟩ (.int .i64 n)) lb pb vo n:=by
 have:=Joins.block_setCell (i:=2) h (.int .i64 n)
 exact this
theorem YN.set2 (h:YN base w pb lb vo L sy) (n:Int):YN base (w.setCell ⟨lb,2,none⟩ (.int .i64 n)) pb lb vo L n :=
 ⟨h.b.set2 n,h.o.ext (Xd w lb 2 _) (fun b hb e=>ZK (Zj h.o hb) h.b.tag (by decide) e),h.lo,h.wf⟩
theorem Zd.setLog (hd:Zd base w D A) (hl:Xk w lb pb vo sy) (i:Nat) (v:Value):Zd base (w.setCell ⟨lb,i,none⟩ v) D A :=
 hd.ext (Xd w lb i v) (fun b hb e=>Z7A (by rw[←hl.tag];subst e;exact hd.dtag hb)) (fun b _ ht e=>ZK ht hl.tag (by decide) e)
theorem LT.set2 (h:LT base w D A lb vo w' D' A' vo' L' sy') (n:Int):LT base w D A lb vo (w'.setCell ⟨lb,2,none⟩ (.int .i64 n)) D' A' vo' L' n :=
 ⟨h.disk.setLog h.log.b 2 _,h.pb,h.log.set2 n,h.ext.setCell (p:=⟨lb,2,none⟩) (.inr (.inr (.inl rfl))) _,h.foot,h.own⟩
theorem LT.more (h:LT base w D A lb vo w' D' A' vo' L' sy') {v:Value} {xs:List OpD} (hx:Ext (fun b=>vo'.ownBlock=some b) w' w'') (ho:Own OpD.cells 26 68 base w'' v (L'++xs)) (hn:∀ b,v.ownBlock=some b→vo'.ownBlock=some b∨w'.heap.size≤b) (hwf:∀ x∈xs,x.wf) :
  LT base w D A lb vo (w''.setCell ⟨lb,1,none⟩ v) D' A' v (L'++xs) sy':=by
 have hl2:Xk w'' lb D'.pb vo' sy':=(hx.block lb h.log.b.lt (fun e=>ZK (Zj h.log.o e) h.log.b.tag (by decide) rfl)).trans h.log.b
 have hd2:Zd base w'' D' A':=h.disk.ext hx (fun b hb e=>Z05 (by rw[←Zj h.log.o e];exact h.disk.dtag hb)) (fun b _ ht e=>ZK ht (Zj h.log.o e) (by decide) rfl)
 refine ⟨hd2.setLog hl2 1 v,h.pb,⟨hl2.set1 v,ho.ext (Xd w'' lb 1 v) (fun b hb e=>ZK (Zj ho hb) hl2.tag (by decide) e),h.log.lo,fun x hx=>?_⟩,?_,h.foot,fun b hb=>?_⟩
 ·rcases List.mem_append.1 hx with hx|hx
  ·exact h.log.wf x hx
  ·exact hwf x hx
 ·refine Ext.setCell (p:=⟨lb,1,none⟩) ?_ (.inr (.inr (.inl rfl))) _
  exact h.ext.andThen hx (fun i hi hs=>.inr (.inr ((h.own i hs).resolve_right (by omega))))
 ·rcases hn b hb with e|e
  ·exact h.own b e
  ·exact .inr (Nat.le_trans h.ext.size e)
end
def RP (A A':Z4) (L:List OpD):Prop :=
 (Zb A.files ZL=none∧L=[]∧∃ fb,fb∉A.ids∧A'=Xg (ZH ⟨0,ZL,⟨#[]⟩,some fb⟩ (Xa fb (rmA A)))) ∨
 (∃ f,Zb A.files ZL=some f∧L=(V4 (Zu (A.fs f))).flatten ∧
  (
   ((Vu (Zu (A.fs f))<(Zu (A.fs f)).length∨Zb A.files Zv≠none)∧∃ fb,fb∉A.ids∧A'=Wy fb ((Zu (A.fs f)).take (Vu (Zu (A.fs f)))) A) ∨
   (Vu (Zu (A.fs f))=(Zu (A.fs f)).length∧Zb A.files Zv=none∧A'=Xg (ZV f A))))
theorem Z5A {b:List UInt8} (h:b[0]?=some 0):YM b=none:=by
 cases ht:YM b with
 | none=>rfl
 | some p =>
  obtain ⟨l,n⟩:=p
  obtain ⟨_,_,r,hr⟩:=We.1 ht
  rw[←hr] at h
  unfold ZT Xq at h
  simp at h
theorem Z5L {l:List OpD} (hl:Y5 l) {n:Nat} (hn:n<(ZT l).length):YM ((ZT l).take n)=none:=by
 cases ht:YM ((ZT l).take n) with
 | none=>rfl
 | some p =>
  obtain ⟨m,k⟩:=p
  obtain ⟨hm,_,r,hr⟩:=We.1 ht
  have e:ZT l++[]=ZT m++(r++(ZT l).drop n):=by
   rw[List.append_nil,←List.append_assoc,hr,List.take_append_drop]
  obtain ⟨rfl,_⟩:=Z2P hl hm e
  have:=congrArg List.length hr
  rw[List.length_append,List.length_take] at this
  omega
structure XQ (ps:List PcA) (ld lu:List (List OpD)):Prop where
 split:∃ ds us,ps=ds++us∧(∀ p∈ds,p.safe≠0)∧Zu ds=Ze ld∧us.map (·.bs)=lu.map ZT∧∀ p∈us,p.safe=0
 gd:∀ l∈ld,Y5 l
 gu:∀ l∈lu,Y5 l
theorem XQ.bytes {ps:List PcA} {ld lu:List (List OpD)} (h:XQ ps ld lu):Zu ps=Ze (ld++lu):=by
 obtain ⟨ds,us,rfl,_,h2,h3,_⟩:=h.split
 have e:∀ us:List PcA,Zu us=(us.map (·.bs)).flatten:=fun us=>by unfold Zu;rw[List.flatMap_def]
 have e2:Zu (ds++us)=Zu ds++Zu us:=by unfold Zu;rw[List.flatMap_append]
 rw[e2,h2,e us,h3,Xw]
 congr 1
theorem XQ.good {ps:List PcA} {ld lu:List (List OpD)} (h:XQ ps ld lu):∀ l∈ld++lu,Y5 l:=fun l hl=>by
 rcases List.mem_append.1 hl with hl|hl
 ·exact h.gd l hl
 ·exact h.gu l hl
theorem XQ.app {ps:List PcA} {ld lu:List (List OpD)} (h:XQ ps ld lu) {l:List OpD} (hl:Y5 l) (n:Int):XQ (ps++[⟨ZT l,n,0⟩]) ld (lu++[l]):=by
 obtain ⟨ds,us,rfl,h1,h2,h3,h4⟩:=h.split
 refine ⟨⟨ds,us++[⟨ZT l,n,0⟩],by rw[List.append_assoc],h1,h2,by simp[h3],fun p hp=>?_⟩,h.gd,fun m hm=>?_⟩
 ·rcases List.mem_append.1 hp with hp|hp
  ·exact h4 p hp
  ·rw[List.mem_singleton.1 hp]
 ·rcases List.mem_append.1 hm with hm|hm
  ·exact h.gu m hm
  ·rw[List.mem_singleton.1 hm];exact hl
theorem Z1u {n:Int} (hn:n≠0) (p:PcA):(Vl n p).safe≠0:=by
 unfold Vl
 split
 ·exact hn
 ·rename_i e;exact e
theorem XQ.sync {ps:List PcA} {ld lu:List (List OpD)} (h:XQ ps ld lu) {n:Int} (hn:n≠0):XQ (ps.map (Vl n)) (ld++lu) [] :=
 ⟨⟨ps.map (Vl n),[],by simp,fun p hp=>by obtain ⟨q,_,rfl⟩:=List.mem_map.1 hp;exact Z1u hn q,by rw[Z0a,h.bytes],rfl,fun p hp=>(by cases hp)⟩,h.good,fun l hl=>(by cases hl)⟩
theorem XQ.made {ls:List (List OpD)} (hg:∀ l∈ls,Y5 l) {a n:Int} (hn:n≠0):XQ [⟨Ze ls,a,n⟩] ls [] :=
 ⟨⟨[⟨Ze ls,a,n⟩],[],rfl,fun p hp=>by rw[List.mem_singleton.1 hp];exact hn,by simp[Zu],rfl,fun p hp=>(by cases hp)⟩,hg,fun l hl=>(by cases hl)⟩
def Z0o (ld done:List (List OpD)) (s:UA):Prop:=s.fin≤s.out.length∧∃ m r,m <+: done∧ld.length≤m.length∧s.out.take s.fin=Ze m++r∧YM r=none
theorem Ql {z y:List UInt8} (h:z[0]?=some 0):(z++y)[0]?=some 0:=by
 cases z with
 | nil=>cases h
 | cons a z=>simpa using h
theorem Qq {t torn:Int} {ks:List Bool} {ld done:List (List OpD)} (hld:ld.length≤done.length):∀ (us:List PcA) (s:UA) (z:List UInt8),(∀ p∈us,p.safe=0∧p.came≤t)→s.out=Ze done++z→z[0]?=some 0→Z0o ld done s→Z0o ld done (us.foldl (Ya t ks torn) s)
 | [],s,z,_,_,_,h=>h
 | p :: us,s,z,hu,ho,hz,h=>by
  have hp:=hu p (by simp)
  have hu2:∀ q∈us,q.safe=0∧q.came≤t:=fun q hq=>hu q (by simp[hq])
  rw[List.foldl_cons]
  by_cases hk:ks[s.n]?=some true
  ·have e:Ya t ks torn s p=⟨s.out++p.bs,s.out.length+WR torn (p.bs.length+1),s.n+1⟩:=by
    unfold Ya
    rw[if_neg (by omega),if_neg (fun e=>e.1 hp.1),if_pos hk]
   have hlt:=Z2F torn (show 0<p.bs.length+1 by omega)
   rw[e]
   refine Qq hld us _ (z++p.bs) hu2 (by show s.out++p.bs=_;rw[ho,List.append_assoc]) (Ql hz) ⟨by show _≤(s.out++p.bs).length;rw[List.length_append];show s.out.length+_≤_;omega,done,z++p.bs.take (WR torn (p.bs.length+1)),List.prefix_refl _,hld,?_,Z5A (Ql hz)⟩
   show (s.out++p.bs).take (s.out.length+WR torn (p.bs.length+1))=_
   rw[List.take_append,List.take_of_length_le (by omega),Nat.add_sub_cancel_left,ho,List.append_assoc]
  ·have e:Ya t ks torn s p=⟨s.out++List.replicate p.bs.length 0,s.fin,s.n+1⟩:=by
    unfold Ya
    rw[if_neg (by omega),if_neg (fun e=>e.1 hp.1),if_neg hk]
   rw[e]
   obtain ⟨h1,m,r,h2,h3,h4,h5⟩:=h
   refine Qq hld us _ (z++List.replicate p.bs.length 0) hu2 (by show s.out++_=_;rw[ho,List.append_assoc]) (Ql hz) ⟨by show s.fin≤(s.out++_).length;rw[List.length_append];omega,m,r,h2,h3,?_,h5⟩
   show (s.out++List.replicate p.bs.length 0).take s.fin=_
   rw[List.take_append_of_le_length h1]
   exact h4
theorem Z1Q {t torn:Int} {ks:List Bool} {ld:List (List OpD)}:∀ (us:List PcA) (lu done:List (List OpD)) (s:UA),us.map (·.bs)=lu.map ZT→(∀ p∈us,p.safe=0∧p.came≤t)→(∀ l∈lu,Y5 l)→ld.length≤done.length→s.out=Ze done→Z0o ld done s →
  Z0o ld (done++lu) (us.foldl (Ya t ks torn) s)
 | [],lu,done,s,hm,_,_,_,_,h=>by
  have:lu=[]:=by
   cases lu with
   | nil=>rfl
   | cons l lu=>simp at hm
  subst this
  rw[List.append_nil]
  exact h
 | p :: us,lu,done,s,hm,hu,hg,hld,ho,h=>by
  cases lu with
  | nil=>simp at hm
  | cons l lu =>
   simp only[List.map_cons,List.cons.injEq] at hm
   obtain ⟨hb,hm⟩:=hm
   have hp:=hu p (by simp)
   have hu2:∀ q∈us,q.safe=0∧q.came≤t:=fun q hq=>hu q (by simp[hq])
   have hg2:∀ x∈lu,Y5 x:=fun x hx=>hg x (by simp[hx])
   have hgl:=hg l (by simp)
   have hlen:=XE l
   rw[List.foldl_cons]
   by_cases hk:ks[s.n]?=some true
   ·have e:Ya t ks torn s p=⟨s.out++p.bs,s.out.length+WR torn (p.bs.length+1),s.n+1⟩:=by
     unfold Ya
     rw[if_neg (by omega),if_neg (fun e=>e.1 hp.1),if_pos hk]
    have hlt:=Z2F torn (show 0<p.bs.length+1 by omega)
    rw[e,show done++l :: lu=(done++[l])++lu by simp]
    refine Z1Q us lu (done++[l]) _ hm hu2 hg2 (by simp;omega) (by show s.out++p.bs=_;rw[ho,hb,Xw,Va]) ⟨by show _≤(s.out++p.bs).length;rw[List.length_append];show s.out.length+_≤_;omega,?_⟩
    show ∃ m r,m <+: done++[l]∧ld.length≤m.length∧(s.out++p.bs).take (s.out.length+WR torn (p.bs.length+1))=Ze m++r∧YM r=none
    rw[List.take_append,List.take_of_length_le (by omega),Nat.add_sub_cancel_left,ho,hb]
    rw[hb] at hlt
    by_cases ht:WR torn ((ZT l).length+1)=(ZT l).length
    ·refine ⟨done++[l],[],List.prefix_refl _,by simp;omega,?_,TA⟩
     rw[ht,List.take_length,Xw,Va,List.append_nil]
    ·exact ⟨done,_,List.prefix_append _ _,hld,rfl,Z5L hgl (by omega)⟩
   ·have e:Ya t ks torn s p=⟨s.out++List.replicate p.bs.length 0,s.fin,s.n+1⟩:=by
     unfold Ya
     rw[if_neg (by omega),if_neg (fun e=>e.1 hp.1),if_neg hk]
    rw[e]
    obtain ⟨h1,m,r,h2,h3,h4,h5⟩:=h
    have hz:(List.replicate p.bs.length (0:UInt8))[0]?=some 0:=by
     rw[List.getElem?_replicate,if_pos (by rw[hb];omega)]
    have:=Qq (t:=t) (torn:=torn) (ks:=ks) hld us ⟨s.out++List.replicate p.bs.length 0,s.fin,s.n+1⟩ (List.replicate p.bs.length 0) hu2 (by show s.out++_=_;rw[ho]) hz ⟨by show s.fin≤(s.out++_).length;rw[List.length_append];omega,m,r,h2,h3,by
     show (s.out++List.replicate p.bs.length 0).take s.fin=_
     rw[List.take_append_of_le_length h1]
     exact h4,h5⟩
    obtain ⟨g1,m',r',g2,g3,g4,g5⟩:=this
    exact ⟨g1,m',r',g2.trans (List.prefix_append _ _),g3,g4,g5⟩
theorem XQ.left {ps:List PcA} {ld lu:List (List OpD)} (h:XQ ps ld lu) {t:Int} (hc:∀ p∈ps,p.came≤t∧p.safe≤t) (ks:List Bool) (torn:Int):∃ k,k≤lu.length∧V4 (Sr t ks torn ps)=ld++lu.take k:=by
 obtain ⟨ds,us,rfl,h1,h2,h3,h4⟩:=h.split
 have key1:∀ (ps:List PcA) (o:List UInt8) (n:Nat),(∀ p∈ps,p.came≤t∧p.safe≤t∧p.safe≠0)→ps.foldl (Ya t ks torn) ⟨o,o.length,n⟩=⟨o++Zu ps,(o++Zu ps).length,n⟩:=by
  intro ps
  induction ps with
  | nil=>intro o n _;simp[Zu]
  | cons p ps ih =>
   intro o n h
   obtain ⟨h1,h2,h3⟩:=h p List.mem_cons_self
   have e:Ya t ks torn ⟨o,o.length,n⟩ p=⟨o++p.bs,(o++p.bs).length,n⟩:=by
    unfold Ya
    rw[if_neg (by omega),if_pos ⟨h3,h2⟩]
   rw[List.foldl_cons,e,ih _ _ (fun q hq=>h q (List.mem_cons_of_mem _ hq))]
   simp[Zu,List.flatMap_cons]
 have e1:Rx t ks torn (ds++us)=us.foldl (Ya t ks torn) ⟨Ze ld,(Ze ld).length,0⟩:=by
  unfold Rx
  rw[List.foldl_append,show (⟨[],0,0⟩:UA)=⟨[],([]:List UInt8).length,0⟩ from rfl,key1 ds [] 0 (fun p hp=>by have:=hc p (by simp[hp]);exact ⟨this.1,this.2,h1 p hp⟩),List.nil_append,h2]
 obtain ⟨_,m,r,g2,g3,g4,g5⟩:=Z1Q (t:=t) (torn:=torn) (ks:=ks) (ld:=ld) us lu ld ⟨Ze ld,(Ze ld).length,0⟩ h3 (fun p hp=>⟨h4 p hp,(hc p (by simp[hp])).1⟩) h.gu (Nat.le_refl _) rfl
  ⟨Nat.le_refl _,ld,[],List.prefix_refl _,Nat.le_refl _,by simp,TA⟩
 rw[←e1] at g4
 have hm:m=ld++lu.take (m.length - ld.length):=by
  have e:=List.prefix_iff_eq_take.1 g2
  have e2:(ld++lu).take m.length=ld.take m.length++lu.take (m.length - ld.length):=List.take_append
  rw[List.take_of_length_le g3] at e2
  exact e.trans e2
 refine ⟨m.length - ld.length,by have:=g2.length_le;rw[List.length_append] at this;omega,?_⟩
 rw[←hm]
 exact (Sa (fun l hl=>h.good l (g2.subset hl)) g4 g5).1
def YK (A:Z4) (f:Nat) (L:List OpD) (S:Nat→Prop):Prop:=∀ ks torn,∃ k,k≤L.length∧S k∧(V4 (Sr A.now ks torn (A.fs f))).flatten=L.take k
theorem YK.mono {A:Z4} {f:Nat} {L:List OpD} {S T:Nat→Prop} (h:YK A f L S) (hs:∀ k,k≤L.length→S k→T k):YK A f L T:=fun ks torn=>by
 obtain ⟨k,h1,h2,h3⟩:=h ks torn
 exact ⟨k,h1,hs k h1 h2,h3⟩
theorem YK.more {A:Z4} {f:Nat} {L:List OpD} {S:Nat→Prop} (h:YK A f L S) (M:List OpD):YK A f (L++M) S:=fun ks torn=>by
 obtain ⟨k,h1,h2,h3⟩:=h ks torn
 exact ⟨k,by rw[List.length_append];omega,h2,by rw[h3,List.take_append_of_le_length h1]⟩
theorem Z3D {α:Type} {ls ms:List (List α)}:ls.flatten=(ls++ms).flatten.take ls.flatten.length:=by
 rw[List.flatten_append,List.take_left]
theorem XQ.out {A:Z4} {f:Nat} {ld lu:List (List OpD)} (h:XQ (A.fs f) ld lu) (hh:A.Hist) (hf:f∈A.ids) {S:Nat→Prop} (hS:∀ k,k≤lu.length→S (ld++lu.take k).flatten.length):YK A f (ld++lu).flatten S:=fun ks torn=>by
 obtain ⟨k,h1,h2⟩:=h.left (fun p hp=>hh.pcs f hf p hp) ks torn
 have e:ld++lu=(ld++lu.take k)++lu.drop k:=by rw[List.append_assoc,List.take_append_drop]
 refine ⟨(ld++lu.take k).flatten.length,?_,hS k h1,?_⟩
 ·have h9:=congrArg (fun x=>x.flatten.length) e
  simp only[List.flatten_append,List.length_append] at h9 ⊢
  omega
 ·rw[h2]
  conv=>rhs;rw[e]
  exact Z3D
theorem Z45 {A:Z4} {f:Nat} (hh:A.Hist) (hf:f∈A.ids) (hs:∀ p∈A.fs f,p.safe≠0) {L:List OpD} (hL:(V4 (Zu (A.fs f))).flatten=L):YK A f L (·=L.length):=fun ks torn =>
 ⟨L.length,Nat.le_refl _,rfl,by rw[Z6p (fun p hp=>⟨(hh.pcs f hf p hp).1,(hh.pcs f hf p hp).2,hs p hp⟩),hL,List.take_length]⟩
theorem YK.same {A A':Z4} {f:Nat} {L:List OpD} {S:Nat→Prop} (h:YK A f L S) (hh:A.Hist) (hf:f∈A.ids) (he:A'.fs f=A.fs f) (hn:A.now≤A'.now):YK A' f L S:=fun ks torn=>by
 obtain ⟨k,h1,h2,h3⟩:=h ks torn
 refine ⟨k,h1,h2,?_⟩
 rw[he,Z7p (b:=A.now) (fun p hp=>by have:=hh.pcs f hf p hp;exact ⟨⟨by omega,by omega⟩,this⟩)]
 exact h3
def WT (m:List (ByteArray × Nat)):Prop:=(m.map (·.1)).Nodup∧∀ n f,Zb m n=some f→n=ZL∨n=Zv
theorem RH:ZL≠Zv:=by decide
theorem Z81 {a b:ByteArray}:∀ l:List ByteArray,l.Nodup→(∀ n∈l,n=a∨n=b)→l.length≤2
 | [],_,_=>by simp
 | [_],_,_=>by simp
 | [_,_],_,_=>by simp
 | x :: y :: z :: r,hn,h=>by
  simp only[List.nodup_cons,List.mem_cons,not_or] at hn
  rcases h x (by simp) with h1|h1 <;> rcases h y (by simp) with h2|h2 <;> rcases h z (by simp) with h3|h3 <;> subst h1 <;> subst_vars <;> simp_all
theorem WT.len {m:List (ByteArray × Nat)} (h:WT m):m.length≤2:=by
 have hs:∀ n∈m.map (·.1),n=ZL∨n=Zv:=fun n hn=>by
  have h1:Zb m n≠none:=fun e=>(Ur m n).1 e hn
  cases h2:Zb m n with
  | none=>exact absurd h2 h1
  | some f=>exact h.2 n f h2
 have:=Z81 _ h.1 hs
 simpa using this
theorem WT.step {m:List (ByteArray × Nat)} (h:WT m) (c:Chg) (hc:c.f≠none→c.name=ZL∨c.name=Zv):WT (ZZ c m):=by
 refine ⟨Rk c m h.1,fun n f hn=>?_⟩
 rw[YZ c m h.1] at hn
 cases hf:c.f with
 | none =>
  rw[hf] at hn
  dsimp only at hn
  split at hn
  ·cases hn
  ·exact h.2 n f hn
 | some g =>
  rw[hf] at hn
  dsimp only at hn
  split at hn
  ·rename_i e;rw[e];exact hc (by rw[hf];simp)
  ·split at hn
   ·cases hn
   ·exact h.2 n f hn
structure Xu (A:Z4) (F:List Nat) (L:List OpD) (S:Nat→Prop):Prop where
 hist:A.Hist
 now:0≤A.now
 inj:A.Inj
 sub:∀ f∈F,f∈A.ids
 ex:∃ P,XR A P∧∀ m∈P,WT m∧∃ f,Zb m ZL=some f∧f∈F∧YK A f L S
theorem Xu.mono {A:Z4} {F:List Nat} {L:List OpD} {S T:Nat→Prop} (h:Xu A F L S) (hs:∀ k,k≤L.length→S k→T k):Xu A F L T:=by
 obtain ⟨P,h1,h2⟩:=h.ex
 refine ⟨h.hist,h.now,h.inj,h.sub,P,h1,fun m hm=>?_⟩
 obtain ⟨h3,f,h4,h5,h6⟩:=h2 m hm
 exact ⟨h3,f,h4,h5,h6.mono hs⟩
theorem Xu.files {A:Z4} {F G:List Nat} {L:List OpD} {S:Nat→Prop} (h:Xu A F L S) (hs:∀ f∈F,f∈G) (hg:∀ f∈G,f∈A.ids):Xu A G L S:=by
 obtain ⟨P,h1,h2⟩:=h.ex
 refine ⟨h.hist,h.now,h.inj,hg,P,h1,fun m hm=>?_⟩
 obtain ⟨h3,f,h4,h5,h6⟩:=h2 m hm
 exact ⟨h3,f,h4,hs f h5,h6⟩
theorem Xu.more {A:Z4} {F:List Nat} {L:List OpD} {S:Nat→Prop} (h:Xu A F L S) (M:List OpD):Xu A F (L++M) S:=by
 obtain ⟨P,h1,h2⟩:=h.ex
 refine ⟨h.hist,h.now,h.inj,h.sub,P,h1,fun m hm=>?_⟩
 obtain ⟨h3,f,h4,h5,h6⟩:=h2 m hm
 exact ⟨h3,f,h4,h5,h6.more M⟩
theorem Xu.step {A:Z4} {F:List Nat} {L:List OpD} {S:Nat→Prop} (h:Xu A F L S) (c:Chg) (hi:(ZH c A).Inj) (hc:c.f≠none→c.name=ZL∨c.name=Zv) (h2:WT A.files)
  (hg:∃ f,Zb (ZZ c A.files) ZL=some f∧f∈F∧YK A f L S):Xu (ZH c A) F L S:=by
 obtain ⟨P,h1,h3⟩:=h.ex
 have hn:=h.now
 have keep:∀ f,f∈F→YK A f L S→YK (ZH c A) f L S:=fun f hf ho=>ho.same h.hist (h.sub f hf) rfl (by simp only[ZH];omega)
 refine ⟨h.hist.step c,by simp only[ZH];omega,hi,h.sub,P++[ZZ c A.files],h1.step h.hist h.now c,fun m hm=>?_⟩
 rcases List.mem_append.1 hm with hm|hm
 ·obtain ⟨h4,f,h5,h6,h7⟩:=h3 m hm
  exact ⟨h4,f,h5,h6,keep f h6 h7⟩
 ·rw[List.mem_singleton.1 hm]
  obtain ⟨f,h5,h6,h7⟩:=hg
  exact ⟨h2.step c hc,f,h5,h6,keep f h6 h7⟩
theorem Xu.born {A:Z4} {F:List Nat} {L:List OpD} {S:Nat→Prop} (h:Xu A F L S) {fb:Nat} (hf:fb∉A.ids):Xu (Xa fb A) F L S:=by
 obtain ⟨P,h1,h3⟩:=h.ex
 refine ⟨h.hist.born fb,h.now,h.inj.born fb,fun f hf=>List.mem_cons_of_mem _ (h.sub f hf),P,h1,fun m hm=>?_⟩
 obtain ⟨h4,f,h5,h6,h7⟩:=h3 m hm
 refine ⟨h4,f,h5,h6,h7.same h.hist (h.sub f h6) ?_ (Int.le_refl _)⟩
 simp only[Xa]
 rw[if_neg (fun e=>hf (by rw[←e];exact h.sub f h6))]
theorem Xu.syn_ {A:Z4} {F:List Nat} {L:List OpD} {S:Nat→Prop} (h:Xu A F L S) (h2:WT A.files) {f:Nat} (h5:Zb A.files ZL=some f) (h6:f∈F) (h7:YK A f L S):Xu (Xg A) F L S:=by
 have hn:=h.now
 refine ⟨h.hist.syns,by simp only[Xg];omega,⟨h.inj.nd,h.inj.ids,h.inj.one,h.inj.rt⟩,h.sub,[A.files],XR.syn_ h.hist,fun m hm=>?_⟩
 rw[List.mem_singleton.1 hm]
 exact ⟨h2,f,h5,h6,h7.same h.hist (h.sub f h6) rfl (by simp only[Xg];omega)⟩
theorem Xu.app {A:Z4} {F:List Nat} {L:List OpD} {S:Nat→Prop} (h:Xu A F L S) {g:Nat} (bs:List UInt8) (hg:g∉F):Xu (Yh g bs A) F L S:=by
 obtain ⟨P,h1,h3⟩:=h.ex
 have hn:=h.now
 refine ⟨h.hist.app h.now g bs,by simp only[Yh];omega,⟨h.inj.nd,h.inj.ids,h.inj.one,h.inj.rt⟩,h.sub,P,h1.now h.hist rfl rfl rfl (by simp only[Yh];omega),fun m hm=>?_⟩
 obtain ⟨h4,f,h5,h6,h7⟩:=h3 m hm
 refine ⟨h4,f,h5,h6,h7.same h.hist (h.sub f h6) ?_ (by simp only[Yh];omega)⟩
 simp only[Yh]
 rw[if_neg (fun e=>hg (by rw[←e];exact h6))]
theorem Xu.sync {A:Z4} {F:List Nat} {L:List OpD} {S:Nat→Prop} (h:Xu A F L S) {g:Nat} (hg:g∉F):Xu (ZV g A) F L S:=by
 obtain ⟨P,h1,h3⟩:=h.ex
 have hn:=h.now
 refine ⟨h.hist.sync g,by simp only[ZV];omega,⟨h.inj.nd,h.inj.ids,h.inj.one,h.inj.rt⟩,h.sub,P,h1.now h.hist rfl rfl rfl (by simp only[ZV];omega),fun m hm=>?_⟩
 obtain ⟨h4,f,h5,h6,h7⟩:=h3 m hm
 refine ⟨h4,f,h5,h6,h7.same h.hist (h.sub f h6) ?_ (by simp only[ZV];omega)⟩
 simp only[ZV]
 rw[if_neg (fun e=>hg (by rw[←e];exact h6))]
def Z85 (A B:Z4):Prop:=(∃ c,B=ZH c A)∨(∃ fb c,fb∉A.ids∧B=ZH c (Xa fb A))∨(∃ f bs,B=Yh f bs A)∨(∃ f,B=ZV f A)∨B=Xg A
inductive Ch (R:Z4→Prop):Z4→Z4→Prop
 | refl {A:Z4}:R A→Ch R A A
 | snoc {A B C:Z4}:Ch R A B→Z85 B C→R C→Ch R A C
def QA (L:List OpD) (S:Nat→Prop) (A:Z4):Prop:=∃ F,Xu A F L S
structure St9 (A:Z4) (F:List Nat) (f:Nat) (L:List OpD) (S:Nat→Prop):Prop where
 d:Xu A F L S
 two:WT A.files
 lg:Zb A.files ZL=some f
 mem:f∈F
 out:YK A f L S
section
variable {A:Z4} {F:List Nat} {f fb:Nat} {L:List OpD} {S:Nat→Prop}
theorem St9.e (h:St9 A F f L S):QA L S A:=⟨F,h.d⟩
theorem St9.fin (h:St9 A F f L S):f∈A.ids:=h.d.sub f h.mem
theorem St9.step (h:St9 A F f L S) (c:Chg) (hi:(ZH c A).Inj) (hc:c.f≠none→c.name=Zv) (ho:c.old≠ZL):St9 (ZH c A) F f L S:=by
 have hg:Zb (ZZ c A.files) ZL=some f:=by
  rw[YZ c A.files h.two.1]
  cases hf:c.f with
  | none =>
   dsimp only
   rw[if_neg (fun e=>ho e.symm)]
   exact h.lg
  | some g =>
   dsimp only
   have hn:=hc (by rw[hf];simp)
   rw[hn,if_neg RH,if_neg (fun e=>ho e.symm)]
   exact h.lg
 exact ⟨h.d.step c hi (fun e=>.inr (hc e)) h.two ⟨f,hg,h.mem,h.out⟩,h.two.step c (fun e=>.inr (hc e)),hg,h.mem,h.out.same h.d.hist h.fin rfl (by simp only[ZH];omega)⟩
theorem St9.born (h:St9 A F f L S) (hf:fb∉A.ids):St9 (Xa fb A) F f L S :=
 ⟨h.d.born hf,h.two,h.lg,h.mem,h.out.same h.d.hist h.fin (by simp only[Xa];rw[if_neg (fun e=>hf (by rw[←e];exact h.fin))]) (Int.le_refl _)⟩
theorem St9.app (h:St9 A F f L S) (bs:List UInt8) (hg:fb∉F):St9 (Yh fb bs A) F f L S :=
 ⟨h.d.app bs hg,h.two,h.lg,h.mem,h.out.same h.d.hist h.fin (by simp only[Yh];rw[if_neg (fun e=>hg (by rw[←e];exact h.mem))]) (by simp only[Yh];omega)⟩
theorem St9.sync (h:St9 A F f L S) (hg:fb∉F):St9 (ZV fb A) F f L S :=
 ⟨h.d.sync hg,h.two,h.lg,h.mem,h.out.same h.d.hist h.fin (by simp only[ZV];rw[if_neg (fun e=>hg (by rw[←e];exact h.mem))]) (by simp only[ZV];omega)⟩
theorem St9.syn_ (h:St9 A F f L S):St9 (Xg A) F f L S :=
 ⟨h.d.syn_ h.two h.lg h.mem h.out,h.two,h.lg,h.mem,h.out.same h.d.hist h.fin rfl (by simp only[Xg];omega)⟩
theorem St9.rename (h:St9 A F f L S) (hi:A.Inj) (hg:Zb A.files Zv=some fb) (hout:YK A fb L S):St9 (ZH ⟨0,ZL,Zv,some fb⟩ A) (fb :: F) fb L S:=by
 have hid:=hi.ids _ _ hg
 have e:Zb (ZZ ⟨0,ZL,Zv,some fb⟩ A.files) ZL=some fb:=by
  rw[YZ _ _ h.two.1]
  dsimp only
  rw[if_pos rfl]
 have hinj:(ZH ⟨0,ZL,Zv,some fb⟩ A).Inj:=hi.step _ (fun g hg'=>by
  cases hg'
  exact ⟨⟨hid,Vd⟩,fun n hn=>hi.one n _ _ hn hg⟩)
 have hd:=h.d.files (G:=fb :: F) (fun x hx=>List.mem_cons_of_mem _ hx) (fun x hx=>by
  rcases List.mem_cons.1 hx with rfl|hx
  ·exact hid
  ·exact h.d.sub x hx)
 exact ⟨hd.step _ hinj (fun _=>.inl rfl) h.two ⟨fb,e,by simp,hout⟩,h.two.step ⟨0,ZL,Zv,some fb⟩ (fun _=>.inl rfl),e,by simp,hout.same h.d.hist hid rfl (by simp only[ZH];omega)⟩
theorem Ch.one {R:Z4→Prop} {A B:Z4} (h:R A) (ho:Z85 A B) (h2:R B):Ch R A B:=.snoc (.refl h) ho h2
theorem Z0K (hi:A.Inj):(rmA A).Inj:=by
 unfold rmA
 split
 ·exact hi
 ·exact hi.step _ (fun g hg=>(by cases hg))
theorem Z4d (A:Z4):A.now≤(rmA A).now:=by
 unfold rmA
 split
 ·exact Int.le_refl _
 ·simp only[ZH];omega
theorem Z4o (h:WT A.files):WT (rmA A).files:=by
 unfold rmA
 split
 ·exact h
 ·exact h.step ⟨0,⟨#[]⟩,Zv,none⟩ (fun e=>absurd rfl e)
theorem Z2p (h:A.Hist):(rmA A).Hist:=by
 unfold rmA
 split
 ·exact h
 ·exact h.step _
theorem St9.rm (h:St9 A F f L S):St9 (rmA A) F f L S∧Ch (QA L S) A (rmA A):=by
 have hi:=Z0K h.d.inj
 unfold rmA at hi ⊢
 split
 ·exact ⟨h,.refl h.e⟩
 ·rename_i hn
  rw[if_neg hn] at hi
  have h2:=h.step ⟨0,⟨#[]⟩,Zv,none⟩ hi (fun e=>absurd rfl e) (fun e=>RH e.symm)
  exact ⟨h2,.one h.e (.inl ⟨_,rfl⟩) h2.e⟩
theorem Z4e (hi:A.Inj) (hf:fb∉A.ids):(an1 fb A).Inj:=by
 have h1:=Z0K hi
 have h2:fb∉(rmA A).ids:=by rw[Vf];exact hf
 exact (h1.born fb).step _ (fun g hg=>by
  cases hg
  exact ⟨⟨List.mem_cons_self,Z0z⟩,fun n hn=>absurd (h1.ids n _ hn) h2⟩)
theorem Z4k (fb:Nat) (bs:List UInt8) (A:Z4):∃ a n:Int,(Wy fb bs A).fs fb=[Vl n ⟨bs,a,0⟩]∧n=(Yh fb bs (an1 fb A)).now+1∧a=(an1 fb A).now+1:=by
 refine ⟨_,_,?_,rfl,rfl⟩
 show (ZV fb (Yh fb bs (an1 fb A))).fs fb=_
 simp only[ZV,Yh,if_true,Z3f,List.nil_append,List.map_cons,List.map_nil]
theorem Z14 (fb:Nat) (A:Z4):A.now+1≤(an1 fb A).now:=by
 have:=Z4d A
 show A.now+1≤(rmA A).now+1
 omega
structure Yj (A:Z4) (f:Nat) (ld lu:List (List OpD)):Prop where
 hist:A.Hist
 now:0≤A.now
 inj:A.Inj
 names:XR A [A.files]
 two:WT A.files
 lg:Zb A.files ZL=some f
 nn:Zb A.files Zv=none
 pcs:XQ (A.fs f) ld lu
theorem Yj.fin {ld lu:List (List OpD)} (h:Yj A f ld lu):f∈A.ids:=h.inj.ids _ _ h.lg
theorem Yj.st {ld lu:List (List OpD)} (h:Yj A f ld lu) (hS:∀ k,k≤lu.length→S (ld++lu.take k).flatten.length):St9 A [f] f (ld++lu).flatten S:=by
 have ho:=h.pcs.out h.hist h.fin hS
 exact ⟨⟨h.hist,h.now,h.inj,fun g hg=>by rw[List.mem_singleton.1 hg];exact h.fin,[A.files],h.names,fun m hm=>by rw[List.mem_singleton.1 hm];exact ⟨h.two,f,h.lg,by simp,ho⟩⟩,h.two,h.lg,by simp,ho⟩
theorem Yj.app {ld lu:List (List OpD)} (h:Yj A f ld lu) {l:List OpD} (hl:Y5 l):Yj (Yh f (ZT l) A) f ld (lu++[l]):=by
 have hn:=h.now
 refine ⟨h.hist.app h.now f _,by simp only[Yh];omega,⟨h.inj.nd,h.inj.ids,h.inj.one,h.inj.rt⟩,h.names.now h.hist rfl rfl rfl (by simp only[Yh];omega),h.two,h.lg,h.nn,?_⟩
 simp only[Yh,if_true]
 exact h.pcs.app hl _
theorem Yj.sync {ld lu:List (List OpD)} (h:Yj A f ld lu):Yj (ZV f A) f (ld++lu) []:=by
 have hn:=h.now
 refine ⟨h.hist.sync f,by simp only[ZV];omega,⟨h.inj.nd,h.inj.ids,h.inj.one,h.inj.rt⟩,h.names.now h.hist rfl rfl rfl (by simp only[ZV];omega),h.two,h.lg,h.nn,?_⟩
 simp only[ZV,if_true]
 exact h.pcs.sync (by omega)
theorem Yj.of_syn {ld lu:List (List OpD)} (h1:A.Hist) (h2:0≤A.now) (h3:A.Inj) (h4:WT A.files) (h5:Zb A.files ZL=some f) (h6:Zb A.files Zv=none) (h7:XQ (A.fs f) ld lu):Yj (Xg A) f ld lu :=
 ⟨h1.syns,by simp only[Xg];omega,⟨h3.nd,h3.ids,h3.one,h3.rt⟩,XR.syn_ h1,h4,h5,h6,h7⟩
theorem Z5Q (bs:List UInt8) (a n:Int):Vl n ⟨bs,a,0⟩=⟨bs,a,n⟩:=rfl
theorem Uf {ms:List (List OpD)} (h1:A.Hist) (h2:0≤A.now) (h3:A.Inj) (h4:WT A.files) (hf:fb∉A.ids) (hg:∀ m∈ms,Y5 m):Yj (Wy fb (Ze ms) A) fb ms []:=by
 have hi:=Z4e h3 hf
 have hr:=Vf A
 have hn1:=Z14 fb A
 obtain ⟨a,n,e1,e2,e3⟩:=Z4k fb (Ze ms) A
 have hh1:(an1 fb A).Hist:=((Z2p h1).born fb).step _
 have hh2:(an2 fb (Ze ms) A).Hist:=((hh1.app (by omega) fb _).sync fb).syns
 have ht1:WT (an1 fb A).files:=(Z4o h4).step ⟨0,Zv,⟨#[]⟩,some fb⟩ (fun _=>.inr rfl)
 have hnow2:0≤(an2 fb (Ze ms) A).now:=by show 0≤(an1 fb A).now+1+1+1;omega
 have hi2:(an2 fb (Ze ms) A).Inj:=⟨hi.nd,hi.ids,hi.one,hi.rt⟩
 have hgn:Zb (an2 fb (Ze ms) A).files Zv=some fb:=XS fb A
 refine Yj.of_syn (hh2.step _) (by simp only[ZH];omega) (hi2.step _ (fun g hg'=>by cases hg';exact ⟨⟨hi2.ids _ _ hgn,Vd⟩,fun n hn=>hi2.one n _ _ hn hgn⟩)) (ht1.step ⟨0,ZL,Zv,some fb⟩ (fun _=>.inl rfl)) ?_ ?_ ?_
 ·show Zb (ZZ ⟨0,ZL,Zv,some fb⟩ (an1 fb A).files) ZL=some fb
  rw[YZ _ _ hi.nd]
  dsimp only
  rw[if_pos rfl]
 ·show Zb (ZZ ⟨0,ZL,Zv,some fb⟩ (an1 fb A).files) Zv=none
  rw[YZ _ _ hi.nd]
  dsimp only
  rw[if_neg (fun e=>RH e.symm),if_pos rfl]
 ·show XQ ((Wy fb (Ze ms) A).fs fb) ms []
  rw[e1,Z5Q]
  exact XQ.made hg (by rw[e2];show (an1 fb A).now+1+1≠0;omega)
theorem St9.anew {ms:List (List OpD)} (h:St9 A F f L S) (hf:fb∉A.ids) (hg:∀ m∈ms,Y5 m) (hL:ms.flatten=L) (hS:S L.length):Ch (QA L S) A (Wy fb (Ze ms) A):=by
 obtain ⟨r1,c1⟩:=h.rm
 have hfr:fb∉(rmA A).ids:=by rw[Vf];exact hf
 have hfF:fb∉F:=fun e=>hf (h.d.sub fb e)
 have hi:=Z4e h.d.inj hf
 have s1:St9 (an1 fb A) F f L S:=(r1.born hfr).step ⟨0,Zv,⟨#[]⟩,some fb⟩ hi (fun _=>rfl) (show (⟨#[]⟩:ByteArray)≠ZL by decide)
 have s2:=s1.app (Ze ms) hfF
 have s3:=s2.sync hfF
 have s4:St9 (an2 fb (Ze ms) A) F f L S:=s3.syn_
 have hi2:(an2 fb (Ze ms) A).Inj:=⟨hi.nd,hi.ids,hi.one,hi.rt⟩
 have hgn:Zb (an2 fb (Ze ms) A).files Zv=some fb:=XS fb A
 obtain ⟨a,n,e1,e2,e3⟩:=Z4k fb (Ze ms) A
 have e4:(an2 fb (Ze ms) A).fs fb=[⟨Ze ms,a,n⟩]:=e1
 have hn1:=Z14 fb A
 have hn0:=h.d.now
 have hne:n≠0:=by rw[e2];show (an1 fb A).now+1+1≠0;omega
 have hout:YK (an2 fb (Ze ms) A) fb L S:=by
  have:=Z45 s4.d.hist (hi2.ids _ _ hgn) (fun p hp=>by rw[e4] at hp;rw[List.mem_singleton.1 hp];exact hne) (L:=L) (by rw[e4,show Zu [⟨Ze ms,a,n⟩]=Ze ms by simp[Zu],(Tu hg).1,hL])
  exact this.mono (fun k _ hk=>by rw[hk];exact hS)
 have s5:=s4.rename hi2 hgn hout
 have s6:=s5.syn_
 refine (((((c1.snoc (.inr (.inl ⟨fb,⟨0,Zv,⟨#[]⟩,some fb⟩,hfr,rfl⟩)) s1.e).snoc (.inr (.inr (.inl ⟨fb,Ze ms,rfl⟩))) s2.e).snoc (.inr (.inr (.inr (.inl ⟨fb,rfl⟩)))) s3.e).snoc (.inr (.inr (.inr (.inr rfl)))) s4.e).snoc (.inl ⟨_,rfl⟩) s5.e).snoc (.inr (.inr (.inr (.inr rfl)))) s6.e
theorem RP.steady {A':Z4} (h:RP A A' L) (h1:A.Hist) (h2:0≤A.now) (h3:A.Inj) (h4:WT A.files):∃ f ld,Yj A' f ld []∧ld.flatten=L∧(Zb A.files ZL=none→ld=[])∧∀ g,Zb A.files ZL=some g→ld=V4 (Zu (A.fs g)):=by
 rcases h with ⟨hno,rfl,fb,hf,rfl⟩|⟨f,hg,rfl,⟨hc,fb,hf,rfl⟩|⟨hc,hn,rfl⟩⟩
 ·have hi:=Z0K h3
  have hfr:fb∉(rmA A).ids:=by rw[Vf];exact hf
  have hnl:Zb (rmA A).files ZL=none:=by
   unfold rmA
   split
   ·exact hno
   ·show Zb (ZZ ⟨0,⟨#[]⟩,Zv,none⟩ A.files) ZL=none
    rw[YZ _ _ h3.nd]
    dsimp only
    split
    ·rfl
    ·exact hno
  have hnow:=Z4d A
  refine ⟨fb,[],Yj.of_syn (((Z2p h1).born fb).step _) (by show 0≤(rmA A).now+1;omega) ((hi.born fb).step _ (fun g hg=>by cases hg;exact ⟨⟨List.mem_cons_self,Vd⟩,fun n hn=>absurd (hi.ids n _ hn) hfr⟩)) ((Z4o h4).step ⟨0,ZL,⟨#[]⟩,some fb⟩ (fun _=>.inl rfl)) ?_ ?_ ?_,rfl,fun _=>rfl,fun g hg=>(by rw[hno] at hg;cases hg)⟩
  ·show Zb (ZZ ⟨0,ZL,⟨#[]⟩,some fb⟩ (rmA A).files) ZL=some fb
   rw[YZ _ _ hi.nd]
   dsimp only
   rw[if_pos rfl]
  ·show Zb (ZZ ⟨0,ZL,⟨#[]⟩,some fb⟩ (rmA A).files) Zv=none
   rw[YZ _ _ hi.nd]
   dsimp only
   rw[if_neg (fun e=>RH e.symm)]
   split
   ·rfl
   ·exact Z3g h3.nd
  ·show XQ ((Xa fb (rmA A)).fs fb) [] []
   simp only[Xa,if_true]
   exact ⟨⟨[],[],rfl,fun p hp=>(by cases hp),rfl,rfl,fun p hp=>(by cases hp)⟩,fun l hl=>(by cases hl),fun l hl=>(by cases hl)⟩
 ·have hsp:=Tk (Zu (A.fs f))
  rw[Z6b]
  refine ⟨fb,V4 (Zu (A.fs f)),Uf h1 h2 h3 h4 hf hsp.1,rfl,fun e=>(by rw[hg] at e;cases e),fun g hg'=>(by rw[hg] at hg';cases hg';rfl)⟩
 ·have hsp:=Tk (Zu (A.fs f))
  have hall:Zu (A.fs f)=Ze (V4 (Zu (A.fs f))):=by
   have:=hsp.2.1
   rw[hc,List.drop_length,List.append_nil] at this
   exact this
  refine ⟨f,V4 (Zu (A.fs f)),Yj.of_syn (h1.sync f) (by show 0≤A.now+1;omega) ⟨h3.nd,h3.ids,h3.one,h3.rt⟩ h4 hg hn ?_,rfl,fun e=>(by rw[hg] at e;cases e),fun g hg'=>(by rw[hg] at hg';cases hg';rfl)⟩
  show XQ ((ZV f A).fs f) (V4 (Zu (A.fs f))) []
  simp only[ZV,if_true]
  exact ⟨⟨_,[],(List.append_nil _).symm,fun p hp=>(by obtain ⟨q,_,rfl⟩:=List.mem_map.1 hp;exact Z1u (by omega) q),(by rw[Z0a];exact hall),rfl,fun p hp=>(by cases hp)⟩,hsp.1,fun l hl=>(by cases hl)⟩
end
theorem Z0x {P:Program} {α:Type} {ea:α→List Value} {q:Nat} {t e:TypeId} (ht:P.underlying t=some (.slice e)) (hsz:(P.info? e).map (·.size)=some q) (a:Option Addr) (n cap p:Nat) (hn:n≤cap) (hp:p≤n) :
  ∃ a',(∀ W,(Instr.slice t (.slice a n cap) none (some (.int .i64 (p:Int))) none).run P W=.ok (.slice a' p cap) W)∧(∀ W (l:List α),l.length=n→Z0 ea q W (.slice a n cap) l→Z0 ea q W (.slice a' p cap) (l.take p))∧(∀ ad,a'=some ad→∃ ad0,a=some ad0∧ad.block=ad0.block):=by
 obtain ⟨a',h1,h2⟩:=Yt (ea:=ea) ht hsz a n cap p hn hp
 refine ⟨a',h1,h2,fun ad had=>?_⟩
 obtain ⟨i,hi,hq⟩:∃ i,P.info? e=some i∧i.size=q:=by
  cases h:P.info? e with
  | none=>rw[h] at hsz;cases hsz
  | some i=>rw[h] at hsz;exact ⟨i,rfl,Option.some.inj hsz⟩
 have hpc:p≤cap:=by omega
 have h3:=h1 default
 simp[Instr.slice,Instr.sliceBounds,Instr.sliceBound,asIntOf,run_underlying ht,sizeOf,typeInfo,hi,hq,hpc,hn,eq_comm] at h3
 subst h3
 split at had
 ·exact ⟨ad,had,rfl⟩
 ·cases a with
  | none=>cases had
  | some a0 =>
   simp at had
   subst had
   refine ⟨a0,rfl,?_⟩
   unfold Addr.add
   split <;> rfl
theorem Tm {P:Program} {w:World} {α:Type} {ea:α→List Value} {k:Nat} {e:TypeId} {base:Nat} {v vx:Value} {l ys:List α} (t ty:TypeId) (i:TypeInfo) (z:Value) (bytes:Nat) (ht:P.underlying t=some (.slice e)) (hi:P.info? e=some i) (hz:i.zero=some z)
  (hsize:i.size=k) (hby:i.bytes=bytes) (hzs:z.cells.size=k) (hk0:0<k) (hk:∀ x,(ea x).length=k) (h1:∀ x,∀ u∈ea x,u.oneCell'=true)
  (hown:Own ea k e base w v l) (hx:Z0 ea k w vx ys) (hne:ys≠[]) (h63:l.length+ys.length≤maxLen) (hbytes:(l.length+ys.length)*bytes≤140737488355328) (hbase:base≤w.heap.size) :
  ∃ v' w',(Builtin.append_ #[t,t] ty #[v,vx]).run P w=.ok v' w'∧Own ea k e base w' v' (l++ys)∧Ext (fun b=>v.ownBlock=some b) w w'∧∀ b,v'.ownBlock=some b→v.ownBlock=some b∨w.heap.size≤b:=by
 obtain ⟨v',w',hr,ho,hxt⟩:=Yl t ty i z bytes ht hi hz hsize hby hzs hk0 hk h1 hown hx h63 hbytes hbase
 refine ⟨v',w',hr,ho,hxt,?_⟩
 obtain ⟨a,cap,rfl,hcap,hmax,hcs⟩:=hx
 obtain ⟨b,o,rfl,hc⟩:=hcs hne
 refine Z0B t ty i z k bytes ht hi hz hsize hby v l.length (l.flatMap ea) hown ⟨b,o,none⟩ ys.length cap (ys.flatMap ea) (by rw[Zx hk]) (fun j u hj=>?_) (fun u hu=>?_) h63 hbytes (List.length_pos_iff.2 hne) hr
 ·have hjl:=(List.getElem?_eq_some_iff.1 hj).1
  rw[Zx hk] at hjl
  have hdm:j / k*k+j % k=j:=by rw[Nat.mul_comm];exact Nat.div_add_mod j k
  have hq:j / k<ys.length:=Nat.div_lt_of_lt_mul (by rw[Nat.mul_comm];exact hjl)
  obtain ⟨x,hx⟩:∃ x,ys[j / k]?=some x:=⟨_,List.getElem?_eq_getElem hq⟩
  obtain ⟨u',hu'⟩:∃ u',(ea x)[j % k]?=some u':=⟨_,List.getElem?_eq_getElem (by rw[hk];exact Nat.mod_lt _ hk0)⟩
  have h3:=getElem?_flatMap_k hk ys (j / k) x hx (j % k) u' hu'
  rw[hdm,hj] at h3
  cases h3
  have h4:=hc (j / k) x hx (j % k) u hu'
  rw[Nat.add_assoc,hdm] at h4
  rw[show (Addr.add ⟨b,o,none⟩ j)=⟨b,o+j,none⟩ from by unfold Addr.add;split <;> simp_all]
  exact h4
 ·obtain ⟨x,_,hx⟩:=List.mem_flatMap.1 hu
  exact h1 x u hx
theorem Xe.extB {S:Nat→Prop} {w w':World} (h:Xe w) (hx:Ext S w w') (hS:∀ i,S i→0<i):Xe w':=hx.keep h (fun e=>by have:=hS 0 e;omega)
theorem LT.errTy {base:Nat} {w w':World} {D D':DSh} {A A':Z4} {lb:Nat} {vo vo':Value} {L L':List OpD} {sy sy':Int} (h:LT base w D A lb vo w' D' A' vo' L' sy') (hd:Zd base w D A) (hl:YN base w D.pb lb vo L sy) (h0:0<base) (hg:Xe w):Xe w' :=
 hg.extB h.ext (fun i hi=>by
  rcases hi with hi|hi|hi
  ·have:=(hd.foot hi).1;omega
  ·have:=hl.lo;omega
  ·have:=(hl.o.blk i hi).1;omega)
theorem Zl.errTy {base:Nat} {w w':World} {D D':DSh} {A A':Z4} (h:Zl base w D A w' D' A') (hd:Zd base w D A) (h0:0<base) (hg:Xe w):Xe w' :=
 hg.extB h.ext (fun i hi=>by have:=(hd.foot hi).1;omega)
theorem Sz:∀ (ls:List (List OpD)),(∀ l∈ls,Y5 l)→ls.flatten.length≤200*ls.length∧11*ls.length≤(Ze ls).length
 | [],_=>⟨by simp,by simp⟩
 | l :: ls,h=>by
  obtain ⟨h1,h2⟩:=Sz ls (fun m hm=>h m (by simp[hm]))
  have h3:=(h l (by simp)).2.1
  have h4:=XE l
  rw[WG,List.length_append,List.flatten_cons,List.length_append,List.length_cons]
  constructor <;> omega
def Z2q (base:Nat) (w:World) (D:DSh) (A:Z4) (lb:Nat) (e:Ending) (w':World):Prop :=
 e=.returned .nilIface∧∃ D' A' vo L,RP A A' L∧LT base w D A lb (.slice none 0 0) w' D' A' vo L 0
theorem Z6w {base:Nat} {w:World} {D:DSh} {A:Z4} (h:Zd base w D A) (hbw:base≤w.heap.size) {N:Nat} (hsm:A.Small N) (hN:N≤800000) (hfl:A.files.length≤7) (lb:Nat) (hl:YN base w D.pb lb (.slice none 0 0) [] 0) (hg:Xe w) (h0:0<base) :
  Calls Tryz.prog 72 #[.pointer (some ⟨lb,0,none⟩)] w fun e w'=>Z2q base w D A lb e w':=by
 have HH:=Jh (And.intro h (And.intro hsm (And.intro hbw (And.intro hl hg))))
 have c0:=hl.b.c0
 clear h hsm hbw hl hg
 go_enter Tryz.func72,Tryz.ntmps72
 go_wp2_with fail
 refine (Qv HH.out.1 ZL HH.out.2.1 (by omega)).mono ?_
 rintro e w1 hp
 unfold SG at hp
 rcases hp with ⟨hno,rfl,rfl⟩|⟨f,va,hf,rfl,hown,hb⟩
 ·go_wp2_with fail
  refine (ZS _ 61 _).mono ?_
  rintro e w2 ⟨rfl,rfl⟩
  rw[Vc _ (by decide)]
  go_wp2_with fail
  refine (Z8h _ 61 61 _).mono ?_
  rintro e w3 ⟨rfl,hb3⟩
  have H3:=Jh (Zl.below HH.out.1 hb3)
  have L3:=HH.out.2.2.2.1.below hb3
  have z3:=Nat.le_trans HH.out.2.2.1 hb3.size
  clear hb3
  go_wp2_with fail
  refine (Z0n H3.out.is_ z3 HH.out.2.1 (by omega) lb _ _ L3.b).mono ?_
  rintro e w4 ⟨rfl,D4,ht4⟩
  have H4:=Jh (H3.out.trans ht4)
  have L4:=L3.turn H3.out.is_ ht4
  have z4:=Nat.le_trans z3 ht4.ext.size
  have c4:=L4.b.c0
  have S4:=Lib.hid HH.out.2.1.rm
  have hmk:Yo (rmA A) ZL=0:=by
   have h1:Zb (rmA A).files ZL=none:=by
    unfold rmA
    split
    ·exact hno
    ·show Zb (ZZ ⟨0,⟨#[]⟩,Zv,none⟩ A.files) ZL=none
     rw[YZ _ _ HH.out.1.mfiles.1]
     dsimp only
     split
     ·rfl
     ·exact hno
   have h2:=Z0P A
   unfold Yo
   rw[Vd,h1]
   simp
   omega
  clear ht4 L3 z3 c0
  go_wp2_with fail
  refine (Z2S H4.out.is_ z4 ZL S4.out.now0 (by have:=S4.out.now;omega) (by have:=S4.out.chg;omega)).mono ?_
  rintro e w5 ⟨rfl,hp⟩
  rw[hmk] at hp ⊢
  rcases hp with ⟨hc,_⟩|⟨_,fb,D5,hfb,ht5⟩
  ·exact absurd rfl hc
  have H5:=Jh (H4.out.trans ht5)
  have L5:=L4.turn H4.out.is_ ht5
  have z5:=Nat.le_trans z4 ht5.ext.size
  have c5:=L5.b.c0
  have S5:=Jh (S4.out.make hmk hfb)
  rw[Vf] at hfb
  have F5:=Lib.hid hfb
  clear ht5 L4 z4 c4 hmk hfb
  go_wp2_with fail
  refine (ZS _ 0 _).mono ?_
  rintro e w6 ⟨rfl,rfl⟩
  rw[Yy]
  go_wp2_with fail
  refine (VQ H5.out.is_ z5 S5.out.now0 (by have:=S5.out.now;omega) (by have:=S5.out.syn;omega)).mono ?_
  rintro e w7 ⟨rfl,D7,ht7⟩
  have H7:=Jh (H5.out.trans ht7)
  clear ht7 L5 z5 c5
  go_wp2_with fail
  refine (ZS _ 0 _).mono ?_
  rintro e w8 ⟨rfl,rfl⟩
  rw[Yy]
  go_wp2_with fail
  go_ret
  exact ⟨rfl,D7,_,_,[],.inl ⟨hno,rfl,fb,F5.out,rfl⟩,LT.of_turned HH.out.1 HH.out.2.2.2.1 H7.out⟩
 ·obtain ⟨xa,xc,hv1,hxc,hxm,-⟩:=hown.slice Z7
  unfold maxLen at hxm
  obtain ⟨b,hbe⟩:=Je (Zu (A.fs f))
  have hbl:b.length≤1048576:=by rw[←hbe,VT];exact HH.out.1.ok.sz f (HH.out.1.ok.inf _ _ (UT hf)).1
  rw[hbe] at hown hv1 hxc
  have HS:Hid (Z0 u8c 1 w1 va b∧Own u8c 1 5 w.heap.size w1 va b):=Lib.hid ⟨hown.slice Z7,hown⟩
  have HF:=Jh (And.intro hf hbe)
  subst hv1
  have T1:=Jh (LT.of_turned HH.out.1 HH.out.2.2.2.1 (Zl.below HH.out.1 hb))
  have G1:=Jh (HH.out.2.2.2.2.below hb)
  have z1:=Nat.le_trans HH.out.2.2.1 hb.size
  clear hown hf hb hbe c0
  obtain ⟨q,hq⟩:=Je (b.length)
  have HQ:=Lib.hid hq
  rw[hq] at hxc hbl ⊢
  clear hq
  go_wp2_with fail
  refine (ZS _ 0 _).mono ?_
  rintro e w2 ⟨rfl,rfl⟩
  rw[Yy]
  go_wp2_with fail
  refine (Z83 61 _).mono ?_
  rintro e w3 ⟨rfl,rfl⟩
  go_wp2_with fail
  go_loopg [8] q (fun g kv wx=>∃ (ls:List (List OpD)) (k:Nat) (vo:Value),g=q - k∧kv=.int .i64 k∧k≤q∧Hid (k=(Ze ls).length∧b=Ze ls++b.drop k∧(∀ l∈ls,Y5 l)) ∧
   Hid (LT base w D A lb (.slice none 0 0) wx D A vo ls.flatten 0∧Own u8c 1 5 w.heap.size wx (.slice xa q xc) b∧Xe wx∧base≤wx.heap.size))
  case atStart=>exact ⟨[],0,_,rfl,rfl,Nat.zero_le _,Lib.hid ⟨rfl,by simp[Ze],fun l hl=>(by cases hl)⟩,Lib.hid ⟨T1.out,by rw[←HQ.out];exact HS.out.2,G1.out,z1⟩⟩
  case round =>
   obtain ⟨ls,k,vo,hg,rfl,hkq,HP,HM⟩:=hrel
   have HG:=Lib.hid hg
   clear hg
   obtain ⟨a1,c1,hsl,hS1,-⟩:=ZE (P:=Tryz.prog) (ea:=u8c) Tryz.underlying22 Zi xa q xc k hxc hkq
   have HS1:=Jh (hS1 wr b HQ.out (HM.out.2.1.slice Z7))
   have cL0:=HM.out.1.log.b.c0
   have cL1:=HM.out.1.log.b.c1
   clear hS1
   go_wp2_with fail
   refine (Z5w _ (b.drop k) _ HS1.out HM.out.2.2.1).mono ?_
   rintro e w4 hp
   unfold Z5U at hp
   rcases hp with ⟨l,n,x,hl,rfl,ho,hb4⟩|⟨hl,rfl,hb4⟩
   ·obtain ⟨hbd,hn0,hnl⟩:=Qf hl
    obtain ⟨hgl,hne,-⟩:=We.1 hl
    have hkn:k+n≤q:=by rw[List.length_drop,HQ.out] at hnl;omega
    have HP2:Hid (k+n=(Ze (ls++[l])).length∧b=Ze (ls++[l])++b.drop (k+n)∧(∀ m∈ls++[l],Y5 m)):=Jh (by
     refine ⟨?_,?_,fun m hm=>?_⟩
     ·rw[Xw,Va,List.length_append,←hne,←HP.out.1]
     ·rw[Xw,Va,List.append_assoc,←List.drop_drop,←hbd]
      exact HP.out.2.1
     ·rcases List.mem_append.1 hm with hm|hm
      ·exact HP.out.2.2 m hm
      ·rw[List.mem_singleton.1 hm];exact hgl)
    have HGL:=Lib.hid hgl
    have hcnt:=Sz ls HP.out.2.2
    have hcl:ls.flatten.length≤20000000:=by have:=HP.out.1;omega
    have hll:=hgl.2.1
    have T4:=Jh (HM.out.1.below hb4)
    have O4:=Jh (HM.out.2.1.below1 hb4)
    have z4:base≤w4.heap.size:=Nat.le_trans HM.out.2.2.2 hb4.size
    have G4:=Jh (HM.out.2.2.1.below hb4)
    obtain ⟨ya,yc,hx,hyc,hym,-⟩:=ho.slice OpD.len
    unfold maxLen at hym
    have hl0:¬ ((l.length:Nat):Int)=0:=by have:=List.length_pos_iff.2 hgl.1;omega
    subst hx
    have hox:=ho.slice OpD.len
    obtain ⟨i0,hi,hz0,hz1,hz2⟩:=info_parts TY
    obtain ⟨v',w',hr,ho5,hx5,hn5⟩:=Tm (P:=Tryz.prog) 24 24 i0 _ _ Tryz.underlying24 hi hz0 hz1 hz2 rfl (by omega) OpD.len OpD.one T4.out.log.o hox hgl.1 (by unfold maxLen;omega) (by omega) z4
    obtain ⟨sv,hsv⟩:=ho5.slv
    subst hsv
    have hl2:=(hx5.block lb T4.out.log.b.lt (fun e=>ZK (Zj T4.out.log.o e) T4.out.log.b.tag (by decide) rfl)).trans T4.out.log.b
    have T5:=Jh (T4.out.more hx5 ho5 hn5 (fun y hy=>(HGL.out.2.2.1 y hy).2))
    have O5:Hid (Own u8c 1 5 w.heap.size w' (.slice xa q xc) b):=Jh (O4.out.ext hx5 (fun b hb e=>ZK (Zj O4.out hb) (Zj T4.out.log.o e) (by decide) rfl))
    have G5:Hid (Xe w'):=Jh (G4.out.extB hx5 (fun i hi=>by have:=(T4.out.log.o.blk i hi).1;omega))
    have z5:base≤w'.heap.size:=Nat.le_trans z4 hx5.size
    have cM0:=T4.out.log.b.c0
    have cM1:=T4.out.log.b.c1
    have fM1:w'.frozen? ⟨lb,1,none⟩=false:=Joins.unfrozen_of_block hl2 1
    have cN1:w'.cell? ⟨lb,1,none⟩=some vo:=Joins.cell_of_block hl2 1
    have HR:=Lib.hid hr
    have HL2:=Lib.hid hl2
    obtain ⟨ql,hql⟩:=Je (l.length)
    rw[hql] at hl0 hyc hll ⊢
    have HRL:Hid ((Builtin.append_ #[24,24] 24 #[vo,.slice ya ql yc]).run Tryz.prog w4=.ok (.slice sv.a sv.n sv.cap) w'):=Jh (by rw[←hql];exact HR.out)
    clear hl ho hb4 hbd hnl hgl hne hcnt hcl hox hi hz0 hz1 hz2 hr ho5 hx5 hn5 hl2 HR hql
    go_wp2_with (at_builtin;refine YR rfl _ _ _ rfl rfl rfl HRL.out ?_)
    go_roundg (q - (k+n))
    case measure=>rw[HG.out];omega
    case rel =>
     refine ⟨ls++[l],k+n,sv.val,rfl,by simp,hkn,HP2,Lib.hid ⟨?_,?_,?_,?_⟩⟩
     ·rw[List.flatten_append,List.flatten_singleton];exact T5.out
     ·exact O5.out.ext (Xd w' lb 1 _) (fun b hb e=>ZK (Zj O5.out hb) (YU HL2.out) (by decide) e)
     ·exact G5.out.extB (Xd w' lb 1 _) (fun i hi=>by subst hi;have:=T4.out.log.lo;omega)
     ·simpa using z5
   ·have HL:Hid (V4 b=ls∧Vu b=k):=Lib.hid ⟨(Sa HP.out.2.2 HP.out.2.1 hl).1,by rw[Z0W HP.out.2.2 HP.out.2.1 hl,←HP.out.1]⟩
    have T4:=Jh (HM.out.1.below hb4)
    have O4:=Jh (HM.out.2.1.below1 hb4)
    have z4:base≤w4.heap.size:=Nat.le_trans HM.out.2.2.2 hb4.size
    have cM0:=T4.out.log.b.c0
    clear hl hb4
    by_cases hkq2:k<q
    ·have hki:(k:Int)<(q:Int):=by omega
     obtain ⟨a2,hsl2,hS2,hB2⟩:=Z0x (P:=Tryz.prog) (ea:=u8c) Tryz.underlying22 Zi xa q xc k hxc hkq
     have HS2:=Jh (hS2 w4 b HQ.out (O4.out.slice Z7))
     have HA:Hid (b.take (Vu b)=b.take k):=Jh (by rw[HL.out.2])
     clear hS2
     have hvd:∀ ad,a2=some ad→¬ Wq (YD w4 ad.block):=fun ad he=>by
      obtain ⟨ad0,e0,e1⟩:=hB2 ad he
      have hown:=O4.out
      subst e0
      rcases hown.eq_slice with ⟨e2,_⟩|⟨g,c,e2,_⟩
      ·simp at e2
      ·simp only[Value.slice.injEq,Option.some.injEq] at e2
       have:=Zj hown (b:=ad0.block) (by rw[e2.1];rfl)
       rw[e1,this]
       exact Z0k
     have HVD:=Lib.hid hvd
     clear hB2 hvd
     go_wp2_with fail
     refine (Qk T4.out.disk z4 HH.out.2.1 (by omega) hfl lb _ _ T4.out.log.b _ _ _ (b.take k) HS2.out HVD.out (by rw[List.length_take];omega)).mono ?_
     rintro e w8 hp
     unfold Sy at hp
     rcases hp with ⟨hle,rfl,fb,D8,hfb,ht⟩|⟨hbig,_⟩
     ·have T8:=Jh (T4.out.turn ht)
      clear ht
      go_wp2_with fail
      go_ret
      refine ⟨rfl,D8,_,vo,ls.flatten,.inr ⟨f,HF.out.1,by rw[HF.out.2,HL.out.1],.inl ⟨.inl (by rw[HF.out.2,HL.out.2,HQ.out];exact hkq2),fb,hfb,by rw[HF.out.2,HA.out]⟩⟩,T8.out⟩
     ·rw[List.length_take] at hbig
      omega
    ·have hki:¬ (k:Int)<(q:Int):=by omega
     go_wp2_with fail
     refine (Z1t T4.out.disk (by omega)).mono ?_
     rintro e w5 ⟨v5,rfl,hown5,hb5⟩
     obtain ⟨xa5,xc5,hv5,hxc5,hxm5,-⟩:=hown5.slice SJ
     have HN5:=Jh (hown5.slice SJ)
     have T5:=Jh (T4.out.below hb5)
     have O5:=Jh (O4.out.below1 hb5)
     have z5:base≤w5.heap.size:=Nat.le_trans z4 hb5.size
     have cP0:=T5.out.log.b.c0
     subst hv5
     clear hown5 hb5
     go_wp2_with fail
     refine (R6 _ (Wn A) Zv _ HN5.out).mono ?_
     rintro e w6 ⟨rfl,rfl⟩
     cases hn:Qn (Wn A) Zv with
     | true =>
      have HNE:Hid (Zb A.files Zv≠none):=Jh ((Uw A Zv).1 hn)
      clear hn
      obtain ⟨a2,hsl2,hS2,hB2⟩:=Z0x (P:=Tryz.prog) (ea:=u8c) Tryz.underlying22 Zi xa q xc k hxc hkq
      have HS2:=Jh (hS2 w6 b HQ.out (O5.out.slice Z7))
      have HA:Hid (b.take (Vu b)=b.take k):=Jh (by rw[HL.out.2])
      clear hS2
      have hvd:∀ ad,a2=some ad→¬ Wq (YD w6 ad.block):=fun ad he=>by
       obtain ⟨ad0,e0,e1⟩:=hB2 ad he
       have hown:=O5.out
       subst e0
       rcases hown.eq_slice with ⟨e2,_⟩|⟨g,c,e2,_⟩
       ·simp at e2
       ·simp only[Value.slice.injEq,Option.some.injEq] at e2
        have:=Zj hown (b:=ad0.block) (by rw[e2.1];rfl)
        rw[e1,this]
        exact Z0k
      have HVD:=Lib.hid hvd
      clear hB2 hvd
      go_wp2_with fail
      refine (Qk T5.out.disk z5 HH.out.2.1 (by omega) hfl lb _ _ T5.out.log.b _ _ _ (b.take k) HS2.out HVD.out (by rw[List.length_take];omega)).mono ?_
      rintro e w8 hp
      unfold Sy at hp
      rcases hp with ⟨hle,rfl,fb,D8,hfb,ht⟩|⟨hbig,_⟩
      ·have T8:=Jh (T5.out.turn ht)
       clear ht
       go_wp2_with fail
       go_ret
       refine ⟨rfl,D8,_,vo,ls.flatten,.inr ⟨f,HF.out.1,by rw[HF.out.2,HL.out.1],.inl ⟨.inr HNE.out,fb,hfb,by rw[HF.out.2,HA.out]⟩⟩,T8.out⟩
      ·rw[List.length_take] at hbig
       omega
     | false =>
      have HNE:Hid (Zb A.files Zv=none):=Jh (by
       cases hg:Zb A.files Zv with
       | none=>rfl
       | some f=>have:=(Uw A Zv).2 (by rw[hg];simp);rw[hn] at this;cases this)
      clear hn
      go_wp2_with fail
      refine (Qr T5.out.disk ZL HH.out.2.1 (by omega)).mono ?_
      rintro e w7 hp
      unfold Sk at hp
      rcases hp with ⟨hno,_⟩|⟨g,hg,rfl,ht⟩
      ·rw[HF.out.1] at hno;cases hno
      have hgf:g=f:=by rw[HF.out.1] at hg;exact (Option.some.inj hg).symm
      subst hgf
      have T7:=Jh (T5.out.turn ht)
      have S7:=Jh (HH.out.2.1.sync hg)
      have z7:=Nat.le_trans z5 ht.ext.size
      have cQ0:=T7.out.log.b.c0
      clear hg ht
      go_wp2_with fail
      refine (ZS _ 0 _).mono ?_
      rintro e w8 ⟨rfl,rfl⟩
      rw[Yy]
      go_wp2_with fail
      refine (VQ T7.out.disk z7 S7.out.now0 (by have:=S7.out.now;omega) (by have:=S7.out.syn;omega)).mono ?_
      rintro e w9 ⟨rfl,D9,ht⟩
      have T9:=Jh (T7.out.turn ht)
      clear ht
      go_wp2_with fail
      refine (ZS _ 0 _).mono ?_
      rintro e w10 ⟨rfl,rfl⟩
      rw[Yy]
      go_wp2_with fail
      go_ret
      exact ⟨rfl,D9,_,vo,ls.flatten,.inr ⟨g,HF.out.1,by rw[HF.out.2,HL.out.1],.inr ⟨by rw[HF.out.2,HL.out.2,HQ.out];omega,HNE.out,rfl⟩⟩,T9.out⟩
theorem Z4X {l:List OpD} {vx:Value} {w:World} (h:Z0 OpD.cells 26 w vx l) (hl:l.length≤100000000) :
  Calls Tryz.prog 74 #[vx] w fun e w'=>∃ v',e=.returned v'∧Own OpD.cells 26 68 w.heap.size w' v' l∧Below w.heap.size w w':=by
 obtain ⟨i0,hi,hz0,hz1,hz2⟩:=info_parts TY
 have h0:=h
 obtain ⟨a,cap,rfl,hcap,hmax,hcs⟩:=h
 cases a with
 | none =>
  have hys:l=[]:=Classical.byContradiction fun hn=>by obtain ⟨b,o,e,_⟩:=hcs hn;cases e
  subst hys
  clear h0 hcs
  have hnil:=fun (w:World) a n c=>Lib.run_eql_slice_nil (P:=Tryz.prog) w 24 _ a n c 0 0 Tryz.underlying24
  go_enter Tryz.func74,Tryz.ntmps74
  go_wp2
  go_ret
  exact ⟨_,rfl,Own.nil,Below.refl _ _⟩
 | some ad =>
  have ho:=Own.empty (base:=w.heap.size) OpD.cells 26 68 (w:=w) (Nat.le_refl _)
  have hx:=h0.below ((Below.refl w.heap.size w).alloc (Nat.le_refl _) (.cells #[] 68))
  obtain ⟨v',w',hr,hown,hx'⟩:=Yl (P:=Tryz.prog) 24 24 i0 _ _ Tryz.underlying24 hi hz0 hz1 hz2 rfl (by omega) OpD.len OpD.one ho hx (by simp[maxLen];omega) (by simp;omega) (by simp)
  have hB:=Ext.new ((Below.refl w.heap.size w).alloc (Nat.le_refl _) (.cells #[] 68)) hx' (fun i hi _ e=>by have:=(ho.blk i e).1;omega) (by simp)
  have HR:=Lib.hid hr
  have HO:=Lib.hid hown
  have HB:=Lib.hid hB
  clear h0 hcs ho hx hr hown hx' hB hi hz0 hz1 hz2
  have hnil:=fun (w:World) a n c=>Lib.run_eql_slice_nil (P:=Tryz.prog) w 24 _ a n c 0 0 Tryz.underlying24
  go_enter Tryz.func74,Tryz.ntmps74
  go_wp2_with (at_builtin;refine YR rfl _ _ _ rfl rfl rfl HR.out ?_)
  go_ret
  exact ⟨_,rfl,HO.out,HB.out⟩
theorem Own.raise {α:Type} {ea:α→List Value} {k:Nat} {e:TypeId} {base B:Nat} {w:World} {v:Value} {l:List α} (h:Own ea k e base w v l) (hb:∀ b,v.ownBlock=some b→B≤b):Own ea k e B w v l:=by
 obtain ⟨h1,h2⟩:=h
 refine ⟨h1,?_⟩
 rcases h2 with h2|⟨g,cap,cur,e1,h3,h4⟩
 ·exact .inl h2
 ·exact .inr ⟨g,cap,cur,e1,hb g (by rw[e1];rfl),h4⟩
section
variable {base:Nat} {w:World} {D:DSh} {A:Z4} {lb:Nat} {vo:Value} {L:List OpD} {sy:Int}
theorem Ud {pb:Nat} (hl:YN base w pb lb vo L sy):Calls Tryz.prog 39 #[.pointer (some ⟨lb,0,none⟩)] w fun e w'=>e=.returned (.int .i64 sy)∧w'=w:=by
 have c2:=hl.b.c2
 go_enter Tryz.func39,Tryz.ntmps39
 go_wp2
 go_ret
 exact ⟨rfl,rfl⟩
theorem UM {pb:Nat} (hl:YN base w pb lb vo L sy) (hL:L.length≤100000000):Calls Tryz.prog 33 #[.pointer (some ⟨lb,0,none⟩)] w fun e w'=>∃ v',e=.returned v'∧Own OpD.cells 26 68 w.heap.size w' v' L∧Below w.heap.size w w':=by
 have c1:=hl.b.c1
 have HS:=Jh (hl.o.slice OpD.len)
 obtain ⟨sl,hsl⟩:=hl.o.slv
 subst hsl
 clear hl
 go_enter Tryz.func33,Tryz.ntmps33
 go_wp2_with fail
 refine (Z4X HS.out hL).mono ?_
 rintro e w1 ⟨v1,rfl,ho,hb⟩
 have HO:=Jh (And.intro ho hb)
 clear ho hb
 go_wp2_with fail
 go_ret
 exact ⟨v1,rfl,HO.out.1,HO.out.2⟩
theorem Z1w (hd:Zd base w D A) (hl:YN base w D.pb lb vo L sy) {N:Nat} (hsm:A.Small N) (hN:N≤800000) :
  Calls Tryz.prog 41 #[.pointer (some ⟨lb,0,none⟩)] w fun e w' =>
   (Zb A.files ZL=none∧e=.returned (.int .i64 61)∧LT base w D A lb vo w' D A vo L sy)∨(∃ f,Zb A.files ZL=some f∧e=.returned (.int .i64 0)∧LT base w D A lb vo w' D (ZV f A) vo L L.length):=by
 have c0:=hl.b.c0
 obtain ⟨a,cap,hvo,-,-,-⟩:=hl.o.slice OpD.len
 have HH:=Jh (And.intro hd (And.intro hl hsm))
 clear hd hl hsm
 go_enter Tryz.func41,Tryz.ntmps41
 go_wp2_with fail
 refine (Qr HH.out.1 ZL HH.out.2.2 (by omega)).mono ?_
 rintro e w1 hp
 unfold Sk at hp
 rcases hp with ⟨hno,rfl,ht⟩|⟨f,hf,rfl,ht⟩
 ·have HT:=Jh (LT.of_turned HH.out.1 HH.out.2.1 ht)
  clear ht c0
  go_wp2_with fail
  go_ret
  exact .inl ⟨hno,rfl,HT.out⟩
 ·have HT:=Jh (LT.of_turned HH.out.1 HH.out.2.1 ht)
  clear ht c0
  have c1:=HT.out.log.b.c1
  rw[hvo] at c1
  have c2:=HT.out.log.b.c2
  have f2:w1.frozen? ⟨lb,2,none⟩=false:=Joins.unfrozen_of_block HT.out.log.b 2
  go_wp2_with fail
  go_ret
  exact .inr ⟨f,hf,rfl,HT.out.set2 _⟩
def QG (base:Nat) (w:World) (D:DSh) (A:Z4) (lb:Nat) (vo:Value) (L:List OpD) (sy:Int) (l:List OpD) (e:Ending) (w':World):Prop :=
 (∃ n:Int,e=.returned (.int .i64 n)∧(n=1∧(l=[]∨200<l.length)∨n=71∧l≠[]∧l.length≤200∧(∃ x∈l,x.right=false)∨n=1∧65536<(Xm l).length ∨
   n=61∧Y5 l∧Zb A.files ZL=none∨n=62∧Y5 l∧∃ f,Zb A.files ZL=some f∧1048576<ZQ (A.fs f)+(ZT l).length)∧LT base w D A lb vo w' D A vo L sy) ∨
 (Y5 l∧∃ f D' vo',Zb A.files ZL=some f∧ZQ (A.fs f)+(ZT l).length≤1048576∧e=.returned (.int .i64 0)∧LT base w D A lb vo w' D' (Yh f (ZT l) A) vo' (L++l) sy)
theorem Qc (hd:Zd base w D A) (hbw:base≤w.heap.size) (hl:YN base w D.pb lb vo L sy) {N:Nat} (hsm:A.Small N) (hN:N≤800000) (hL:L.length≤100000000) (hg:Xe w) (h0:0<base)
  (v:Value) (l:List OpD) (hv:Z0 OpD.cells 26 w v l) (hvo:l≠[]→∀ b o n cap,v=.slice (some ⟨b,o,none⟩) n cap→¬ (Wo D A b∨b=lb∨vo.ownBlock=some b)) (hwf:∀ x∈l,x.wf) (hn:l.length≤1000000) :
  Calls Tryz.prog 40 #[.pointer (some ⟨lb,0,none⟩),v] w fun e w'=>QG base w D A lb vo L sy l e w':=by
 obtain ⟨a,cap,rfl,hcap,hmax,-⟩:=id hv
 have HH:=Jh (And.intro hd (And.intro hl (And.intro hsm (And.intro hg (And.intro hv (And.intro hvo hwf))))))
 have z0:=hbw
 clear hd hl hsm hg hv hvo hwf
 obtain ⟨q,hq⟩:=Je (l.length)
 have HQ:=Lib.hid hq
 have HS:Hid (Z0 OpD.cells 26 w (.slice a q cap) l):=Jh (by rw[←hq];exact HH.out.2.2.2.2.1)
 rw[hq] at hcap ⊢
 clear hq
 go_enter Tryz.func40,Tryz.ntmps40
 go_wp2_with fail
 refine (Q1 _ l _ HS.out HH.out.2.2.2.2.2.2 hn).mono ?_
 rintro e w1 hp
 unfold Z2J at hp
 rcases hp with ⟨h1,h2,h3,h4,x,rfl,hown,hb⟩|⟨s,n,hc,rfl,hb⟩
 ·have hgood:Y5 l:=⟨h1,h2,fun y hy=>⟨h3 y hy,HH.out.2.2.2.2.2.2 y hy⟩,h4⟩
  have HX:=Jh (And.intro hgood (hown.slice Z7))
  obtain ⟨xa,xc,hx,hxc,hxm,-⟩:=hown.slice Z7
  have HT:=Jh (LT.of_turned HH.out.1 HH.out.2.1 (Zl.below HH.out.1 hb))
  have G1:=Jh (HH.out.2.2.2.1.below hb)
  have z1:=Nat.le_trans z0 hb.size
  have hfl:(ZT l).length≤65547:=by rw[XE];omega
  have c0:=HT.out.log.b.c0
  subst hx
  clear h1 h2 h3 h4 hgood hown hb
  go_wp2_with fail
  refine (Z0s HT.out.disk z1 ZL _ (ZT l) HX.out.2 (by omega) HH.out.2.2.1 (by omega)).mono ?_
  rintro e w2 hp
  unfold Z1c at hp
  rcases hp with ⟨hno,rfl,ht⟩|⟨f,hf,hbig,rfl,ht⟩|⟨f,D2,hf,hfit,rfl,ht⟩
  ·have H2:=Jh (HT.out.turn ht)
   have G2:=Jh (ht.errTy HT.out.disk h0 G1.out)
   clear ht c0
   go_wp2_with fail
   refine (ZS _ 61 _).mono ?_
   rintro e w3 ⟨rfl,rfl⟩
   rw[Vc _ (by decide)]
   unfold Yk
   go_wp2_with fail
   refine (Sb _ 61 _ G2.out).mono ?_
   rintro e w4 ⟨rfl,hb4⟩
   have H4:=Jh (H2.out.below hb4)
   clear hb4
   go_wp2_with fail
   go_ret
   exact .inl ⟨61,rfl,.inr (.inr (.inr (.inl ⟨rfl,HX.out.1,hno⟩))),H4.out⟩
  ·have H2:=Jh (HT.out.turn ht)
   have G2:=Jh (ht.errTy HT.out.disk h0 G1.out)
   clear ht c0
   go_wp2_with fail
   refine (ZS _ 62 _).mono ?_
   rintro e w3 ⟨rfl,rfl⟩
   rw[Vc _ (by decide)]
   unfold Yk
   go_wp2_with fail
   refine (Sb _ 62 _ G2.out).mono ?_
   rintro e w4 ⟨rfl,hb4⟩
   have H4:=Jh (H2.out.below hb4)
   clear hb4
   go_wp2_with fail
   go_ret
   exact .inl ⟨62,rfl,.inr (.inr (.inr (.inr ⟨rfl,HX.out.1,f,hf,hbig⟩))),H4.out⟩
  ·have H2:=Jh (HT.out.turn ht)
   have z2:=Nat.le_trans z1 ht.ext.size
   have HF:=Jh (And.intro hf hfit)
   clear hf hfit ht c0
   obtain ⟨i0,hi,hz0,hz1,hz2⟩:=info_parts TY
   have hS2:Z0 OpD.cells 26 w2 (.slice a q cap) l:=HS.out.ext H2.out.ext (fun b o n c e hs=>HH.out.2.2.2.2.2.1 HX.out.1.1 b o n c (by rw[←e,HQ.out]) hs)
   have ho2:=H2.out.log.o
   have cL0:=H2.out.log.b.c0
   have cL1:=H2.out.log.b.c1
   obtain ⟨v',w',hr,ho,hx,hn'⟩:=Tm (P:=Tryz.prog) 24 24 i0 _ _ Tryz.underlying24 hi hz0 hz1 hz2 rfl (by omega) OpD.len OpD.one ho2 hS2 HX.out.1.1 (by unfold maxLen;omega) (by omega) z2
   obtain ⟨sv,hsv⟩:=ho.slv
   subst hsv
   have HR:Hid ((Builtin.append_ #[24,24] 24 #[vo,.slice a q cap]).run Tryz.prog w2=.ok (.slice sv.a sv.n sv.cap) w'):=Lib.hid hr
   have HN:=Jh (H2.out.more hx ho hn' (fun y hy=>(HX.out.1.2.2.1 y hy).2))
   have fL1:w'.frozen? ⟨lb,1,none⟩=false:=by
    have hl2:=(hx.block lb H2.out.log.b.lt (fun e=>ZK (Zj H2.out.log.o e) H2.out.log.b.tag (by decide) rfl)).trans H2.out.log.b
    exact Joins.unfrozen_of_block hl2 1
   have cL2:w'.cell? ⟨lb,1,none⟩=some vo:=by
    have hl2:=(hx.block lb H2.out.log.b.lt (fun e=>ZK (Zj H2.out.log.o e) H2.out.log.b.tag (by decide) rfl)).trans H2.out.log.b
    exact Joins.cell_of_block hl2 1
   clear ho2 hr ho hx hn' hS2 hi hz0 hz1 hz2
   go_wp2_with fail
   refine (ZS _ 0 _).mono ?_
   rintro e w3 ⟨rfl,rfl⟩
   rw[Yy]
   go_wp2_with (at_builtin;refine YR rfl _ _ _ rfl rfl rfl HR.out ?_)
   go_ret
   exact .inr ⟨HX.out.1,f,D2,sv.val,HF.out.1,HF.out.2,rfl,HN.out⟩
 ·have HT:=Jh (LT.of_turned HH.out.1 HH.out.2.1 (Zl.below HH.out.1 hb))
  have G1:=Jh (HH.out.2.2.2.1.below hb)
  have HC:=Lib.hid hc
  clear hb hc
  unfold Yk
  go_wp2_with fail
  refine (Sb s n _ G1.out).mono ?_
  rintro e w2 ⟨rfl,hb2⟩
  have H2:=Jh (HT.out.below hb2)
  clear hb2
  go_wp2_with fail
  go_ret
  exact .inl ⟨n,rfl,(by rcases HC.out with h|h|h;exact .inl h;exact .inr (.inl h);exact .inr (.inr (.inl h))),H2.out⟩
def Z0q (base:Nat) (w:World) (D:DSh) (A:Z4) (e:Ending) (w':World):Prop :=
 ∃ lb D' A' vo L,e=.returned (.tuple #[.pointer (some ⟨lb,0,none⟩),.int .i64 0])∧RP A A' L∧Zl base w D A w' D' A'∧YN w.heap.size w' D'.pb lb vo L L.length
theorem R5 (hd:Zd base w D A) (hbw:base≤w.heap.size) {N:Nat} (hsm:A.Small N) (hN:N≤800000) (hfl:A.files.length≤7) (hg:Xe w) (h0:0<base) :
  Calls Tryz.prog 32 #[.pointer (some ⟨D.pb,0,none⟩)] w fun e w'=>Z0q base w D A e w':=by
 have hb1:Below w.heap.size w (w.alloc (.cells #[.pointer (some ⟨D.pb,0,none⟩),.slice none 0 0,.int .i64 0] 133)):=(Below.refl _ _).alloc (Nat.le_refl _) _
 have hn1:=ZB w (.cells #[.pointer (some ⟨D.pb,0,none⟩),.slice none 0 0,.int .i64 0] 133)
 obtain ⟨w1,hw1⟩:=Je (w.alloc (.cells #[.pointer (some ⟨D.pb,0,none⟩),.slice none 0 0,.int .i64 0] 133))
 rw[hw1] at hb1 hn1
 have hL:YN base w1 D.pb w.heap.size (.slice none 0 0) [] 0:=⟨hn1,Own.nil,hbw,fun x hx=>(by cases hx)⟩
 have HH:=Jh (And.intro hd (And.intro hsm (And.intro hg (And.intro hb1 hL))))
 have HW:=Lib.hid hw1
 have z1:base≤w1.heap.size:=Nat.le_trans hbw hb1.size
 clear hd hsm hg hb1 hn1 hL hw1
 go_enter Tryz.func32,Tryz.ntmps32
 go_wp2_with fail
 rw[HW.out]
 refine (Z6w (HH.out.1.below HH.out.2.2.2.1) z1 HH.out.2.1 hN hfl w.heap.size HH.out.2.2.2.2 (HH.out.2.2.1.below HH.out.2.2.2.1) h0).mono ?_
 rintro e w2 hp
 unfold Z2q at hp
 obtain ⟨rfl,D2,A2,vo,L,hop,ht⟩:=hp
 obtain ⟨sv,hsv⟩:=ht.log.o.slv
 subst hsv
 have HT:=Jh (And.intro hop ht)
 have c1:w2.cell? ⟨w.heap.size,1,none⟩=some (.slice sv.a sv.n sv.cap):=ht.log.b.c1
 have c2:=ht.log.b.c2
 have f2:w2.frozen? ⟨w.heap.size,2,none⟩=false:=Joins.unfrozen_of_block ht.log.b 2
 have hnl:Hid (sv.n=L.length):=Jh (Own.nlen ht.log.o OpD.len).1
 clear hop ht
 go_wp2_with fail
 go_ret2
 have hx:=HT.out.2.set2 (sv.n:Int)
 rw[hnl.out] at hx ⊢
 refine ⟨w.heap.size,D2,A2,sv.val,L,rfl,HT.out.1,⟨hx.disk,hx.pb,?_,fun b hb=>(hx.foot b hb).imp id (fun h=>Nat.le_trans HH.out.2.2.2.1.size h)⟩,hx.log.b,hx.log.o.raise (fun b hb=>?_),Nat.le_refl _,hx.log.wf⟩
 ·refine (Ext.of_below HH.out.2.2.2.1).andThen hx.ext (fun i hi hs=>?_)
  rcases hs with hs|hs|hs
  ·exact hs
  ·omega
  ·cases hs
 ·rcases hx.own b hb with e|e
  ·cases e
  ·exact Nat.le_trans HH.out.2.2.2.1.size e
end
attribute [local go_sem] Oper.semAt_some
theorem Z4t {P:Program} {q:Nat} {t e:TypeId} (ht:P.underlying t=some (.slice e)) (hsz:(P.info? e).map (·.size)=some q) (g o n cap lo hi:Nat) (hlo:lo<hi) (hhi:hi≤n) (hn:n≤cap) (W:World) :
  (Instr.slice t (.slice (some ⟨g,o,none⟩) n cap) (some (.int .i64 (lo:Int))) (some (.int .i64 (hi:Int))) (some (.int .i64 (hi:Int)))).run P W=.ok (.slice (some ⟨g,o+lo*q,none⟩) (hi - lo) (hi - lo)) W:=by
 obtain ⟨i,hi',hq⟩:∃ i,P.info? e=some i∧i.size=q:=by
  cases h:P.info? e with
  | none=>rw[h] at hsz;cases hsz
  | some i=>rw[h] at hsz;exact ⟨i,rfl,Option.some.inj hsz⟩
 have hne:¬ hi=lo:=by omega
 have h1:lo≤hi:=by omega
 have h2:hi≤cap:=by omega
 simp[Instr.slice,Instr.sliceBounds,Instr.sliceBound,asIntOf,run_underlying ht,sizeOf,typeInfo,hi',hq,h1,h2,hn,hne,WU]
theorem Z2Q:(Tryz.prog.info? 68).map (·.size)=some 26:=by kernel_rfl
theorem Z5n (va:Option Addr) (m vc:Nat) (w:World):Calls Tryz.prog 84 #[.slice va m vc,.int .i64 200] w
  fun e w'=>e=.returned (.func (.func 128) #[] #[.pointer (some ⟨w.heap.size,0,none⟩),.pointer (some ⟨w.heap.size+1,0,none⟩)])∧w'=(w.alloc (.cells #[.slice va m vc] 24)).alloc (.cells #[.int .i64 200] 3):=by
 have c1:((w.alloc (.cells #[.slice va m vc] 24)).alloc (.cells #[.int .i64 200] 3)).cell? ⟨w.heap.size+1,0,none⟩=some (.int .i64 200):=by
  have:=ZB (w.alloc (.cells #[.slice va m vc] 24)) (.cells #[.int .i64 200] 3)
  simp only[World.size_alloc] at this
  exact Joins.cell_of_block this 0
 go_enter Tryz.func84,Tryz.ntmps84
 go_wp2_with fail
 go_ret
 exact ⟨rfl,rfl⟩
def chN (n:Nat):Nat:=(n+199) / 200
def chM (n k:Nat):Nat:=min 200 (n - 200*k)
theorem Z3K (n:Nat) (hn:1≤n) (Bs Bn:Nat) (va:Option Addr) (g vc m:Nat) (hva:0<m→va=some ⟨g,0,none⟩) (R:Nat→Prop) (w:World) (hB:w.cell? ⟨Bs,0,none⟩=some (.slice va m vc)) (hBn:w.cell? ⟨Bn,0,none⟩=some (.int .i64 200)) (hmc:m≤vc) (hvc:m≤100000000) (hRB:¬ R Bs) (hRN:¬ R Bn) :
  Z1N Tryz.prog n 128 #[.pointer (some ⟨Bs,0,none⟩),.pointer (some ⟨Bn,0,none⟩)] (fun k:Nat=>#[.slice (some ⟨g,200*k*26,none⟩) (chM m k) (chM m k)]) R (List.range (chN m)) w:=by
 intro lb I W hl hb hI hY h0
 have hBl:=Zq hB
 have hBnl:=Zq hBn
 have HI:=Lib.hid hI
 have HY:=Lib.hid hY
 have HF:Hid (W.cell? ⟨Bs,0,none⟩=some (.slice va m vc)∧W.cell? ⟨Bn,0,none⟩=some (.int .i64 200)∧I [] W):=Lib.hid ⟨Y9 hb hB,Y9 hb hBn,h0⟩
 clear hI hY hB hBn h0 hb
 refine callsIn_of_wp Tryz.func128 rfl trivial ?_ rfl
 simp only[Tryz.ntmps128,List.size_toArray,List.length_cons,List.length_nil,Nat.reduceAdd,Nat.reduceSub,Array.replicate_succ,Array.replicate_zero,List.push_toArray,List.append_toArray,List.nil_append,List.cons_append]
 refine wpIn_wide.2 ?_
 go_wp2_with fail
 go_loopg [4] (chN m) (fun gg kv wr=>∃ k:Nat,gg=chN m - k∧kv=.int .i64 ((200*k:Nat):Int)∧k≤chN m∧Hid (wr.cell? ⟨Bs,0,none⟩=some (.slice va m vc)∧wr.cell? ⟨Bn,0,none⟩=some (.int .i64 200)∧I (List.range k) wr))
 case atStart=>exact ⟨0,rfl,rfl,Nat.zero_le _,HF⟩
 case round =>
  clear HF
  obtain ⟨k,hg,rfl,hk,HF⟩:=hrel
  have HG:=Lib.hid hg
  clear hg
  have b0:=HF.out.1
  have b1:=HF.out.2.1
  by_cases hlt:200*k<m
  ·have hki:((200*k:Nat):Int)<(m:Int):=by omega
   obtain rfl:=hva (by omega)
   obtain ⟨lo,hlo⟩:=Je (200*k)
   obtain ⟨c,hc⟩:=Je (chM m k)
   have HLO:=Jh (And.intro hlo hc)
   have hc2:c=min 200 (m - lo):=by rw[←hc,←hlo];rfl
   have hc0:0<c:=by omega
   have hcl:lo+c≤m:=by omega
   have hmin:min (200:Int) ((m - lo:Nat):Int)=(c:Int):=by omega
   have hkn:k<chN m:=by unfold chN;omega
   rw[hlo] at hki hlt ⊢
   have hsr:=fun W=>Ri (P:=Tryz.prog) (q:=26) Tryz.underlying24 Z2Q g 0 m vc lo hmc (by omega) (by omega) W
   have hsf:∀ W,(Instr.slice 24 (.slice (some ⟨g,0,none⟩) m vc) (some (.int .i64 (lo:Int))) (some (.int .i64 ((lo:Int)+(c:Int)))) (some (.int .i64 ((lo:Int)+(c:Int))))).run Tryz.prog W=.ok (.slice (some ⟨g,lo*26,none⟩) c c) W:=fun W=>by
    have h:=Z4t (P:=Tryz.prog) (q:=26) Tryz.underlying24 Z2Q g 0 m vc lo (lo+c) (by omega) hcl hmc W
    rwa [Nat.zero_add,Nat.add_sub_cancel_left,Int.natCast_add] at h
   have HSF:=Lib.hid hsf
   have HSR:=Lib.hid hsr
   have HF1:Hid (wr.drew.cell? ⟨Bs,0,none⟩=some (.slice (some ⟨g,0,none⟩) m vc)∧wr.drew.cell? ⟨Bn,0,none⟩=some (.int .i64 200)∧I (List.range k) wr.drew):=Lib.hid ⟨HF.out.1,HF.out.2.1,HI.out _ _ _ HF.out.2.2 (Ext.refl _ _).drew⟩
   clear hsf hsr hlo hc hc2
   go_upto_region 3 with fail
   have hS0:(fun W:World=>W.cell? ⟨Bs,0,none⟩=some (.slice (some ⟨g,0,none⟩) m vc)∧W.cell? ⟨Bn,0,none⟩=some (.int .i64 200)) wr.drew:=⟨b0,b1⟩
   clear b0 b1 HF
   refine Z6 (fun W:World=>W.cell? ⟨Bs,0,none⟩=some (.slice (some ⟨g,0,none⟩) m vc)∧W.cell? ⟨Bn,0,none⟩=some (.int .i64 200)) (fun _=>false) (by kernel_rfl) ?_
   generalize wr.drew=W1 at hS0 HF1 ⊢
   refine J2 0 13 (.int .i64 200) hS0 ?_
   try simp only[Ja]
   refine J2 1 14 (.slice (some ⟨g,0,none⟩) m vc) hS0 ?_
   try simp only[Ja]
   refine J2 2 15 (.int .i64 lo) hS0 ?_
   try simp only[Ja]
   refine JR 3 16 (.slice (some ⟨g,0+lo*26,none⟩) (m - lo) (vc - lo)) rfl rfl hS0 (fun W hW=>by obtain ⟨q0,q1⟩:=hW;have hsr:=HSR.out W;go_simp;try rfl) ?_
   try simp only[Ja]
   refine J2 4 17 (.int .i64 ((m - lo:Nat):Int)) hS0 ?_
   try simp only[Ja]
   refine J2 5 18 (.int .i64 c) hS0 ?_
   try simp only[Ja]
   refine J2 6 5 (.int .i64 c) hS0 ?_
   try simp only[Ja]
   refine Z3 (by kernel_rfl) ?_ _
   clear hS0 HSR
   have hpx:List.range k++[k] <+: List.range (chN m):=by
    rw[←List.range_succ]
    have h1:=List.take_append_drop (k+1) (List.range (chN m))
    rw[List.take_range,Nat.min_eq_left hkn] at h1
    exact ⟨_,h1⟩
   obtain ⟨fn,tmps,assign,body,hy,hR⟩:=HY.out (List.range k) k W1 HF1.out.2.2 hpx
   rw[HLO.out.1,HLO.out.2] at hy
   have b0:=HF1.out.1
   have b1:=HF1.out.2.1
   have hsf:=HSF.out
   have hwl:IntKind.i64.wrap ((lo:Int)+(c:Int))=(lo:Int)+(c:Int):=IntWalk.i64_in _ (by omega)
   clear hpx
   go_upto_region 4 with fail
   refine (wpIn_wide (n:=n)).1 ?_
   gi_wp2
   refine hR.mono ?_
   rintro e W3 ⟨rfl,hI3,hx3⟩
   have hBs:¬ (Bs=lb∨R Bs):=fun h=>by
    rcases h with h|h
    ·omega
    ·exact hRB h
   have hBn:¬ (Bn=lb∨R Bn):=fun h=>by
    rcases h with h|h
    ·omega
    ·exact hRN h
   have HF3:Hid (W3.cell? ⟨Bs,0,none⟩=some (.slice (some ⟨g,0,none⟩) m vc)∧W3.cell? ⟨Bn,0,none⟩=some (.int .i64 200)∧I (List.range (k+1)) W3):=Lib.hid ⟨hx3.keep HF1.out.1 hBs,hx3.keep HF1.out.2.1 hBn,by rw[List.range_succ];exact hI3⟩
   have b3:=HF3.out.2.1
   clear b0 b1 hsf hI3 hx3 hBs hBn HF1 hy hR HSF
   gi_wp2
   go_wp2_with fail
   go_roundg (chN m - (k+1))
   case measure=>rw[HG.out];omega
   case rel=>exact ⟨k+1,rfl,by rw[←HLO.out.1];congr 1,hkn,HF3⟩
  ·have hki:¬ ((200*k:Nat):Int)<(m:Int):=by omega
   have hkn:k=chN m:=by unfold chN at hk ⊢;omega
   have HE:Hid (I (List.range (chN m)) wr):=Jh (by rw[←hkn];exact HF.out.2.2)
   obtain ⟨lo,hlo⟩:=Je (200*k)
   rw[hlo] at hki ⊢
   clear hlo
   go_wp2_with fail
   go_end0
   exact ⟨⟨_,rfl⟩,HE.out⟩
end Go.Proofs.YtgmdimbiipemhaaGreatDoor
namespace Go.Proofs.YtgmdimbiipemhaaGreatDoor
open Go.RowKit
theorem Z5d {U:Type} {P:Program} {n:Nat} (h1:1≤n) {g:Operand} {ps:Array Tmp} {assign body:Code} {Q:Exit→Act→World→Prop} {a:Act} {w:World} {gf:Nat} {lb:Array Value}
  (hg:a.eval g=.func (.func gf) #[] lb) (eg:∀ args w,(callFunc gf args).run P w=.ok (.enter gf args) w)
  (encs:U→Array Value) (hps:∀ x,(encs x).size=ps.size) (R:Nat→Prop) (hR:∀ k,R k→k≠w.heap.size∧k≠w.heap.size+1) (xs:List U)
  (J:List U→World→Prop) (hJ:∀ pre W W',J pre W→Ext (fun k=>k=w.heap.size∨k=w.heap.size+1) W W'→J pre W')
  (hseq:Z1N P (n - 1) gf lb encs R xs w)
  (h00:J [] w)
  (hround:∀ (l:Nat) (pre:List U) (x:U) (W:World),J pre W→pre++[x] <+: xs→w.heap.size+1<W.heap.size →
   assign.wpIn (Fence.wide.inRound l) (n - 1 - 1) P (Exit.then (fun a₁ W₁=>Ext (fun _=>False) W W₁∧J pre W₁∧∀ W₂,J pre W₂→Ext (fun k=>k=w.heap.size+1) W₁ W₂→W₂.heap[w.heap.size]?=some (.deferred (some []))→(∃ L,W₂.heap[w.heap.size+1]?=some (.loop L))→body.wpIn (Fence.wide.inRound l) (n - 1 - 1) P (Z4i R (J (pre++[x])) W₂) a₁ W₂) (fun _ _ _=>False))
    { tmps:=(ps.zip (encs x)).foldl (fun t (p,v)=>t.setIfInBounds p v) a.tmps,defers:=[] } W)
  (hdone:∀ W,J xs W→W.heap[w.heap.size]?=some (.deferred (some []))→Q .normal { a with defers:={ target:=.collected w.heap.size,args:=#[] } :: a.defers } W) :
  (Code.rangeFunc g ps assign body).wpIn Fence.wide n P Q a w:=by
 refine wpIn_rangeFunc ?_
 intro fn hfn
 obtain ⟨rec,hrec⟩:∃ rec:LoopState→Option Code→Loop,rec=fun st pe=>{ state:=st,pending:=pe,fn,tmps:=a.tmps,params:=ps,assign,body,defers:=w.heap.size }:=⟨_,rfl⟩
 obtain ⟨W1,hW1⟩:=Je ((w.alloc (.deferred (some []))).alloc (.loop (rec .ready none)))
 have hL1:W1.heap[w.heap.size+1]?=some (.loop (rec .ready none)):=by
  rw[←hW1];have:=World.alloc_heap_new (w.alloc (.deferred (some []))) (.loop (rec .ready none));rwa [World.size_alloc] at this
 have hK1:W1.heap[w.heap.size]?=some (.deferred (some [])):=by
  rw[←hW1];exact (Below.heap_alloc _ _ _ (by simp)).trans (World.alloc_heap_new w _)
 have hb1:Below w.heap.size w W1:=by
  rw[←hW1];exact (((Below.refl _ w).alloc (Nat.le_refl _) _).alloc (by simp) _)
 have hJ1:J [] W1:=hJ _ _ _ h00 (Ext.of_below hb1)
 refine ⟨w.heap.size+1,[{ target:=.collected w.heap.size,args:=#[] }],W1,{ target:=.fn (.func gf) lb,args:=#[.func (.yield (w.heap.size+1)) #[] #[]] },W1,gf,
  #[.func (.yield (w.heap.size+1)) #[] #[]]++lb,W1,?_,?_,?_,?_,fun _=>h1,?_⟩
 ·rw[←hW1,hrec];exact run_enterLoop_outer _ _ _ _ _
 ·simp only[resolve,hg]
  simp[go_sem]
 ·intro f' hf';trivial
 ·simp[invoke,go_sem,eg]
 ·refine (hseq (w.heap.size+1)
   (fun pre W=>J pre W∧W.heap[w.heap.size+1]?=some (.loop (rec .ready none))∧W.heap[w.heap.size]?=some (.deferred (some [])))
   W1 (Nat.lt_succ_self _) hb1
   (fun pre A B hs hx=>⟨hJ _ _ _ hs.1 (hx.mono (fun _ _ f=>f.elim)),(hx.block _ (Array.getElem?_eq_some_iff.1 hs.2.1).1 id).trans hs.2.1,(hx.block _ (Array.getElem?_eq_some_iff.1 hs.2.2).1 id).trans hs.2.2⟩)
   ?_ ⟨hJ1,hL1,hK1⟩).mono ?_
  ·rintro pre x W ⟨hi,hl,hk⟩ hpx
   have hlt:w.heap.size+1<W.heap.size:=(Array.getElem?_eq_some_iff.1 hl).1
   have hy:=run_yield (P:=P) (args:=encs x) hl (by rw[hrec];exact hps x)
   rw[hrec] at hy
   refine ⟨fn,_,assign,body,hy,roundIn_of_wpIn hfn (wpIn_mono (hround _ pre x W hi hpx hlt) ?_)⟩
   rintro e a1 W' hp
   cases e with
   | normal =>
    obtain ⟨hxa,hja,hbody⟩:=hp
    have hla:=(hxa.block _ hlt id).trans hl
    have hka:=(hxa.block _ (by omega) id).trans hk
    have hlt':w.heap.size+1<W'.heap.size:=(Array.getElem?_eq_some_iff.1 hla).1
    refine ⟨_,run_beginRound hla (by rw[hrec]),?_⟩
    have hl2:(W'.putObj (w.heap.size+1) (.loop { rec .ready none with state:=.busy })).heap[w.heap.size+1]?=some (.loop { rec .ready none with state:=.busy }):=World.putObj_heap_same hlt'
    have hk2:(W'.putObj (w.heap.size+1) (.loop { rec .ready none with state:=.busy })).heap[w.heap.size]?=some (.deferred (some [])):=(World.putObj_heap_other (by omega)).trans hka
    have hx2:Ext (fun k=>k=w.heap.size+1) W' (W'.putObj (w.heap.size+1) (.loop { rec .ready none with state:=.busy })):=YW _ _ _
    have hmono:∀ {A B:World},Ext (fun k=>k=w.heap.size+1) A B→Ext (fun k=>k=w.heap.size∨k=w.heap.size+1) A B:=fun hx=>hx.mono (fun k _ hk=>.inr hk)
    refine wpIn_mono (hbody _ (hJ _ _ _ hja (hmono hx2)) hx2 hk2 ⟨_,hl2⟩) ?_
    have s1:=(Array.getElem?_eq_some_iff.1 hl2).1
    have s0:=(Array.getElem?_eq_some_iff.1 hk2).1
    have nR1:¬ R (w.heap.size+1):=fun h=>(hR _ h).2 rfl
    have nR0:¬ R w.heap.size:=fun h=>(hR _ h).1 rfl
    rintro e a3 W3 hp
    cases e with
    | normal =>
     obtain ⟨hj3,hx3⟩:=hp
     have hl3:=(hx3.block _ s1 nR1).trans hl2
     have hk3:=(hx3.block _ s0 nR0).trans hk2
     have hr:=run_endRound (P:=P) none hl3
     rw[hrec] at hr
     refine ⟨_,_,hr,rfl,⟨hJ _ _ _ hj3 (hmono (YW _ _ _)),?_,(World.putObj_heap_other (by omega)).trans hk3⟩,?_⟩
     ·rw[hrec];exact World.putObj_heap_same (Array.getElem?_eq_some_iff.1 hl3).1
     ·have e1:Ext (fun k=>k=w.heap.size+1∨R k) W W':=hxa.mono (fun _ _ f=>f.elim)
      have e2:Ext (fun k=>k=w.heap.size+1∨R k) W' (W'.putObj (w.heap.size+1) (.loop { rec .ready none with state:=.busy })):=hx2.mono (fun _ _ h=>.inl h)
      have e3:Ext (fun k=>k=w.heap.size+1∨R k) (W'.putObj (w.heap.size+1) (.loop { rec .ready none with state:=.busy })) W3:=hx3.mono (fun _ _ h=>.inr h)
      exact ((e1.trans e2).trans e3).trans ((YW _ _ _).mono (fun _ _ h=>.inl h))
    | ret=>exact hp.elim
    | exit id=>exact hp.elim
    | goto t=>exact hp.elim
    | panic ch=>exact hp.elim
    | outgrown=>exact hp.elim
   | ret=>exact hp.elim
   | exit id=>exact hp.elim
   | goto t=>exact hp.elim
   | panic ch=>exact hp.elim
   | outgrown=>exact hp.elim
  ·rintro e W2 ⟨⟨v,rfl⟩,hi,hl,hk⟩
   refine ⟨none,_,by have:=run_endLoop (P:=P) hl (by rw[hrec];simp);rw[hrec] at this;exact this,hdone _ (hJ _ _ _ hi ?_) ((World.putObj_heap_other (by omega)).trans hk)⟩
   have hx:=YW W2 (w.heap.size+1) (.loop { (rec .ready none) with state:=.exhausted })
   rw[hrec] at hx
   exact hx.mono (fun k _ hk=>.inr hk)
end Go.Proofs.YtgmdimbiipemhaaGreatDoor
namespace Go.Proofs
open Go.Shelf
def Tryz.bufWF_ren:Go.Shelf.Ren:=⟨fun|180=>85|251=>129|252=>130|181=>170|184=>171|290=>172|324=>194|n=>n,fun|130=>214|37=>22|3=>3|75=>94|0=>0|93=>150|91=>148|131=>215|4=>4|20=>20|5=>5|80=>308|9=>9|n=>n,fun|14=>1|n=>n⟩
theorem Tryz.bufWF:Go.Proofs.LaysM.n180 Tryz.prog Tryz.bufWF_ren:={
 mixed:=by kernel_rfl
 f180:=Tryz.func85.trans (congrArg some (by kernel_rfl))
 f181:=Tryz.func170.trans (congrArg some (by kernel_rfl))
 f184:=Tryz.func171.trans (congrArg some (by kernel_rfl))
 f251:=Tryz.func129.trans (congrArg some (by kernel_rfl))
 f252:=Tryz.func130.trans (congrArg some (by kernel_rfl))
 f290:=Tryz.func172.trans (congrArg some (by kernel_rfl))
 f324:=Tryz.func194.trans (congrArg some (by kernel_rfl))
 t0:=Tryz.underlying0
 a0:=Tryz.isAgg0
 z0:=Tryz.sizeOf0
 v0:=Tryz.zeroValue0
 t3:=Tryz.underlying3
 a3:=Tryz.isAgg3
 z3:=Tryz.sizeOf3
 v3:=Tryz.zeroValue3
 t4:=Tryz.underlying4
 a4:=Tryz.isAgg4
 z4:=Tryz.sizeOf4
 v4:=Tryz.zeroValue4
 t20:=Tryz.underlying20
 a20:=Tryz.isAgg20
 z20:=Tryz.sizeOf20
 v20:=Tryz.zeroValue20
 t37:=Tryz.underlying22
 a37:=Tryz.isAgg22
 z37:=Tryz.sizeOf22
 v37:=Tryz.zeroValue22
 t75:=Tryz.underlying94
 a75:=Tryz.isAgg94
 z75:=Tryz.sizeOf94
 v75:=Tryz.zeroValue94
 t91:=Tryz.underlying148
 a91:=Tryz.isAgg148
 z91:=Tryz.sizeOf148
 v91:=Tryz.zeroValue148
 t93:=Tryz.underlying150
 a93:=Tryz.isAgg150
 z93:=Tryz.sizeOf150
 v93:=Tryz.zeroValue150
 t130:=Tryz.underlying214
 a130:=Tryz.isAgg214
 z130:=Tryz.sizeOf214
 v130:=Tryz.zeroValue214
 t131:=Tryz.underlying215
 a131:=Tryz.isAgg215
 z131:=Tryz.sizeOf215
 v131:=Tryz.zeroValue215
 g14:=by kernel_rfl
 t5:=Tryz.underlying5
 a5:=Tryz.isAgg5
 z5:=Tryz.sizeOf5
 v5:=Tryz.zeroValue5
 t9:=Tryz.underlying9
 a9:=Tryz.isAgg9
 z9:=Tryz.sizeOf9
 v9:=Tryz.zeroValue9
 t80:=Tryz.underlying308
 a80:=Tryz.isAgg308
 z80:=Tryz.sizeOf308
 v80:=Tryz.zeroValue308
 i0:=by kernel_rfl
 i3:=by kernel_rfl
 i4:=by kernel_rfl
 i5:=by kernel_rfl
 i9:=by kernel_rfl
 i20:=by kernel_rfl
 i37:=by kernel_rfl
 i75:=by kernel_rfl
 i80:=by kernel_rfl
 i91:=by kernel_rfl
 i93:=by kernel_rfl
 i130:=by kernel_rfl
 i131:=by kernel_rfl
 m14:=by kernel_rfl }
def Tryz.bufBF_ren:Go.Shelf.Ren:=⟨fun|183=>87|n=>n,fun|130=>214|37=>22|0=>0|93=>150|3=>3|5=>5|91=>148|n=>n,fun|n=>n⟩
theorem Tryz.bufBF:Go.Proofs.LaysM.n183 Tryz.prog Tryz.bufBF_ren:={
 mixed:=by kernel_rfl
 f183:=Tryz.func87.trans (congrArg some (by kernel_rfl))
 t0:=Tryz.underlying0
 a0:=Tryz.isAgg0
 z0:=Tryz.sizeOf0
 v0:=Tryz.zeroValue0
 t3:=Tryz.underlying3
 a3:=Tryz.isAgg3
 z3:=Tryz.sizeOf3
 v3:=Tryz.zeroValue3
 t37:=Tryz.underlying22
 a37:=Tryz.isAgg22
 z37:=Tryz.sizeOf22
 v37:=Tryz.zeroValue22
 t93:=Tryz.underlying150
 a93:=Tryz.isAgg150
 z93:=Tryz.sizeOf150
 v93:=Tryz.zeroValue150
 t130:=Tryz.underlying214
 a130:=Tryz.isAgg214
 z130:=Tryz.sizeOf214
 v130:=Tryz.zeroValue214
 t5:=Tryz.underlying5
 a5:=Tryz.isAgg5
 z5:=Tryz.sizeOf5
 v5:=Tryz.zeroValue5
 t91:=Tryz.underlying148
 a91:=Tryz.isAgg148
 z91:=Tryz.sizeOf148
 v91:=Tryz.zeroValue148
 i0:=by kernel_rfl
 i3:=by kernel_rfl
 i5:=by kernel_rfl
 i37:=by kernel_rfl
 i91:=by kernel_rfl
 i93:=by kernel_rfl
 i130:=by kernel_rfl }
end Go.Proofs
namespace Go.Proofs.YtgmdimbiipemhaaGreatDoor
theorem Z1X {n:Nat} (h:0<n) (hl:n<18446744073709551616):(Z5 n).length≤n:=by
 by_cases h1:n<128
 ·rw[XL h1];simp;omega
 ·have:=(Wg n 10 (by omega)).2 (by omega)
  omega
theorem SA {k:Nat}:∀ (n:Nat) (l:List Int),l.length=n→n<18446744073709551615→(∀ x∈l,(Z5 (Yf x)).length≤k)→(Zc l).length≤(k+1)*l.length:=by
 intro n
 induction n using Nat.strongRecOn with
 | ind n ih =>
  intro l hn hl hz
  cases l with
  | nil=>simp[Zc]
  | cons x l =>
   have hle:=XC x l
   rw[List.length_cons] at hn
   rw[Zc,List.length_append,List.length_append,List.length_cons]
   have h1:(Z5 (Za x l+1)).length≤Za x l+1:=Z1X (by omega) (by omega)
   have h2:(Z5 (Yf x)).length≤k:=hz x (by simp)
   have h3:=ih (l.drop (Za x l)).length (by rw[List.length_drop];omega) _ rfl (by rw[List.length_drop];omega) (fun y hy=>hz y (List.mem_cons_of_mem _ (List.mem_of_mem_drop hy)))
   rw[List.length_drop] at h3
   obtain ⟨d,hd⟩:∃ d,l.length=Za x l+d:=⟨l.length - Za x l,by omega⟩
   rw[hd,Nat.add_sub_cancel_left] at h3
   rw[hd]
   have e1:(k+1)*(Za x l+d+1)=(k+1)*d+(k+1)*Za x l+(k+1):=by rw[Nat.mul_add,Nat.mul_add];omega
   have e2:Za x l≤(k+1)*Za x l:=by rw[Nat.add_mul];omega
   omega
theorem Z3U:∀ (m:Nat) (v:Bool) (l:List Bool),2*l.length+(if l.head?=some v then 0 else 1)=m→l.length<18446744073709551616→(ZO v l).length≤l.length+(if l.head?=some v then 0 else 1):=by
 intro m
 induction m using Nat.strongRecOn with
 | ind m ih =>
  intro v l hm hl
  by_cases h:l=[]
  ·subst h;rw[Xt];simp
  ·rw[YY h,List.length_append]
   have h1:=VX v h
   have hle:=XC v l
   have h2:=ih _ (by rw[←hm];exact h1) (!v) (l.drop (Za v l)) rfl (by rw[List.length_drop];omega)
   rw[List.length_drop] at h2
   rw[List.length_drop] at h1
   by_cases h5:l.head?=some v
   ·have h6:0<Za v l:=by
     cases l with
     | nil=>exact absurd rfl h
     | cons x l =>
      rw[List.head?_cons] at h5
      rw[Za,if_pos (Option.some.inj h5)]
      omega
    have h3:=Z1X h6 (by omega)
    rw[if_pos h5]
    rcases UI (XU v l) with h4|h4
    ·rw[h4,Xt]
     simp only[List.length_nil]
     omega
    ·rw[if_pos h4] at h2
     omega
   ·have h6:Za v l=0:=by
     cases l with
     | nil=>exact absurd rfl h
     | cons x l =>
      rw[List.head?_cons] at h5
      rw[Za,if_neg (fun e=>h5 (congrArg some e))]
    rw[if_neg h5]
    rw[h6] at h2 ⊢
    have h3:(Z5 0).length=1:=by rw[XL (by omega)];rfl
    rw[h3]
    rcases UI (XU v l) with h4|h4
    ·rw[h6] at h4
     exact absurd (by simpa using h4) h
    ·rw[h6] at h4
     rw[if_pos h4] at h2
     omega
theorem Z42 {l:List Bool} (hl:l.length<18446744073709551616):(Yu l).length≤l.length+1:=by
 have:=Z3U _ false l rfl hl
 unfold Yu
 split at this <;> omega
theorem Z2C {s:St} (h:ZP s=true):0≤s.n∧s.n≤1048576∧0≤s.r∧s.r≤1048576:=by
 have:=of_decide_eq_true h
 omega
theorem UW {o:OpD} {s:St} (h:o.may s=true):0≤s.n∧s.n≤1048576∧0≤s.r∧s.r≤1048576:=by
 unfold OpD.may at h
 rw[Bool.and_eq_true] at h
 exact Z2C h.1
def TJ (s:St):Prop:=0≤s.n∧s.n≤1048576∧0≤s.r∧s.r≤1048576
theorem XM:TJ ⟨0,0⟩:=by unfold TJ;simp
theorem Z33:∀ (l:List Int) (a:Int),l.foldl min a≤a∧∀ x∈l,l.foldl min a≤x
 | [],a=>⟨Int.le_refl _,fun _ h=>by cases h⟩
 | y :: l,a=>by
  have h:=Z33 l (min a y)
  rw[List.foldl_cons]
  refine ⟨by omega,fun x hx=>?_⟩
  rcases List.mem_cons.1 hx with rfl|hx
  ·omega
  ·exact h.2 x hx
theorem Z36:∀ (l:List Int) (a:Int),a≤l.foldl max a∧∀ x∈l,x≤l.foldl max a
 | [],a=>⟨Int.le_refl _,fun _ h=>by cases h⟩
 | y :: l,a=>by
  have h:=Z36 l (max a y)
  rw[List.foldl_cons]
  refine ⟨by omega,fun x hx=>?_⟩
  rcases List.mem_cons.1 hx with rfl|hx
  ·omega
  ·exact h.2 x hx
theorem Z5l {o:OpD} (h:o.right=true):TJ o.id∧(∀ x∈o.deps,0≤x∧x≤1048576)∧(0≤o.kind∧o.kind≤1048576)∧TJ o.ref∧(0≤o.side∧o.side≤1048576)∧(0≤o.ch∧o.ch≤1048576)∧TJ o.under∧TJ o.fr∧TJ o.tr:=by
 unfold OpD.right at h
 simp only[Bool.and_eq_true] at h
 obtain ⟨h1,h2,h3,hk⟩:=h
 have hid:=Z2C h1
 have hd:∀ x∈o.deps,0≤x∧x≤1048576:=by
  have e2:¬ VW o.deps<0:=by simpa using h2
  have e3:¬ o.id.n≤Wx o.deps:=by simpa using h3
  intro x hx
  have l1:=Z33 o.deps (o.deps.headD 0)
  have l2:=Z36 o.deps (o.deps.headD 0)
  have l3:VW o.deps≤x:=l1.2 x hx
  have l4:x≤Wx o.deps:=l2.2 x hx
  have:=hid.2.1
  omega
 refine ⟨hid,hd,?_⟩
 unfold OpD.kindOk at hk
 split at hk
 ·rename_i e
  rw[Bool.and_eq_true] at hk
  obtain ⟨h4,h5⟩:=hk
  have e5:=of_decide_eq_true h5
  unfold OpD.okI at h4
  simp only[Bool.and_eq_true,Bool.or_eq_true,decide_eq_true_eq] at h4
  have hr:TJ o.ref:=by
   rcases h4.1 with h6|h6
   ·rw[h6.2];exact XM
   ·exact UW h6.1
  have hs:0≤o.side∧o.side≤1048576:=by
   rcases h4.1 with h6|h6
   ·have:=h6.1;omega
   ·rcases h6.2 with h7|h7 <;> omega
  have hc:0≤o.ch∧o.ch≤1048576:=by
   rcases h4.2 with h6|h6 <;> omega
  exact ⟨by omega,hr,hs,hc,by rw[←congrArg OpD.under e5];exact XM,by rw[←congrArg OpD.fr e5];exact XM,by rw[←congrArg OpD.tr e5];exact XM⟩
 ·split at hk
  ·rename_i e
   rw[Bool.and_eq_true] at hk
   obtain ⟨h4,h5⟩:=hk
   have e5:=of_decide_eq_true h5
   exact ⟨by omega,UW h4,by rw[←congrArg OpD.side e5];exact (show (0:Int)≤0∧(0:Int)≤1048576 from by decide),by rw[←congrArg OpD.ch e5];exact (show (0:Int)≤0∧(0:Int)≤1048576 from by decide),by rw[←congrArg OpD.under e5];exact XM,by rw[←congrArg OpD.fr e5];exact XM,by rw[←congrArg OpD.tr e5];exact XM⟩
  ·split at hk
   ·rename_i e
    rw[Bool.and_eq_true] at hk
    obtain ⟨h4,h5⟩:=hk
    have e5:=of_decide_eq_true h5
    unfold OpD.okM at h4
    simp only[Bool.and_eq_true,Bool.or_eq_true,decide_eq_true_eq] at h4
    have hu:TJ o.under:=by
     rcases h4.1.1.2 with h6|h6
     ·rw[h6];exact XM
     ·exact UW h6
    exact ⟨by omega,UW h4.1.1.1,by rw[←congrArg OpD.side e5];exact (show (0:Int)≤0∧(0:Int)≤1048576 from by decide),by rw[←congrArg OpD.ch e5];exact (show (0:Int)≤0∧(0:Int)≤1048576 from by decide),hu,by rw[←congrArg OpD.fr e5];exact XM,by rw[←congrArg OpD.tr e5];exact XM⟩
   ·split at hk
    ·rename_i e
     rw[Bool.and_eq_true] at hk
     obtain ⟨h4,h5⟩:=hk
     have e5:=of_decide_eq_true h5
     unfold OpD.okS at h4
     simp only[Bool.and_eq_true] at h4
     exact ⟨by omega,UW h4.1.1,by rw[←congrArg OpD.side e5];exact (show (0:Int)≤0∧(0:Int)≤1048576 from by decide),by rw[←congrArg OpD.ch e5];exact (show (0:Int)≤0∧(0:Int)≤1048576 from by decide),by rw[←congrArg OpD.under e5];exact XM,by rw[←congrArg OpD.fr e5];exact XM,by rw[←congrArg OpD.tr e5];exact XM⟩
    ·split at hk
     ·rename_i e
      rw[Bool.and_eq_true] at hk
      obtain ⟨h4,h5⟩:=hk
      have e5:=of_decide_eq_true h5
      unfold OpD.okK at h4
      simp only[Bool.and_eq_true] at h4
      exact ⟨by omega,by rw[←congrArg OpD.ref e5];exact XM,by rw[←congrArg OpD.side e5];exact (show (0:Int)≤0∧(0:Int)≤1048576 from by decide),by rw[←congrArg OpD.ch e5];exact (show (0:Int)≤0∧(0:Int)≤1048576 from by decide),by rw[←congrArg OpD.under e5];exact XM,UW h4.1.1.1,UW h4.1.1.2⟩
     ·cases hk
theorem Z69 {o:OpD} (h:o.right=true) (c:Nat):0≤fld o c∧fld o c≤1048576:=by
 obtain ⟨h1,h2,h3,h4,h5,h6,h7,h8,h9⟩:=Z5l h
 unfold TJ at *
 have hd:∀ x∈[o.d0,o.d1,o.d2,o.d3,o.d4,o.d5,o.d6,o.d7],0≤x∧x≤1048576:=h2
 unfold fld
 split
 ·exact ⟨h1.1,h1.2.1⟩
 ·exact ⟨h1.2.2.1,h1.2.2.2⟩
 ·exact hd _ (by simp)
 ·exact hd _ (by simp)
 ·exact hd _ (by simp)
 ·exact hd _ (by simp)
 ·exact hd _ (by simp)
 ·exact hd _ (by simp)
 ·exact hd _ (by simp)
 ·exact hd _ (by simp)
 ·exact h3
 ·exact ⟨h4.1,h4.2.1⟩
 ·exact ⟨h4.2.2.1,h4.2.2.2⟩
 ·exact h5
 ·exact h6
 ·exact ⟨h7.1,h7.2.1⟩
 ·exact ⟨h7.2.2.1,h7.2.2.2⟩
 ·exact ⟨h8.1,h8.2.1⟩
 ·exact ⟨h8.2.2.1,h8.2.2.2⟩
 ·exact ⟨h9.1,h9.2.1⟩
 ·exact ⟨h9.2.2.1,h9.2.2.2⟩
theorem Z3l {x:Int} (h:-2097152≤x∧x≤2097152):(Z5 (Yf x)).length≤4:=by
 refine (Wg _ 4 (by omega)).2 ?_
 unfold Yf
 split <;> omega
theorem Z7V {x:Int} (h:0≤x∧x≤64):(Z5 (Yf x)).length≤2:=by
 refine (Wg _ 2 (by omega)).2 ?_
 unfold Yf
 split <;> omega
theorem Ra {o:OpD} (h:o.right=true):o.key.size≤64∧o.name.size≤8∧o.value.size≤16:=by
 unfold OpD.right at h
 simp only[Bool.and_eq_true] at h
 obtain ⟨_,_,_,hk⟩:=h
 have hz:ZJ.size=0:=rfl
 have key:∀ p:OpD,p=o→o.key=p.key∧o.name=p.name∧o.value=p.value:=fun p e=>by rw[e];exact ⟨rfl,rfl,rfl⟩
 unfold OpD.kindOk at hk
 split at hk
 ·rw[Bool.and_eq_true] at hk
  obtain ⟨h1,h2,h3⟩:=key _ (of_decide_eq_true hk.2)
  rw[h1,h2,h3]
  exact ⟨(show ZJ.size≤64 by decide),(show ZJ.size≤8 by decide),(show ZJ.size≤16 by decide)⟩
 ·split at hk
  ·rw[Bool.and_eq_true] at hk
   obtain ⟨h1,h2,h3⟩:=key _ (of_decide_eq_true hk.2)
   rw[h1,h2,h3]
   exact ⟨(show ZJ.size≤64 by decide),(show ZJ.size≤8 by decide),(show ZJ.size≤16 by decide)⟩
  ·split at hk
   ·rw[Bool.and_eq_true] at hk
    obtain ⟨h1,h2,h3⟩:=key _ (of_decide_eq_true hk.2)
    have h4:=hk.1
    unfold OpD.okM YS at h4
    simp only[Bool.and_eq_true,decide_eq_true_eq] at h4
    refine ⟨h4.2.1.1.2,?_,?_⟩
    ·rw[h2];exact (show ZJ.size≤8 by decide)
    ·rw[h3];exact (show ZJ.size≤16 by decide)
   ·split at hk
    ·rw[Bool.and_eq_true] at hk
     obtain ⟨h1,h2,h3⟩:=key _ (of_decide_eq_true hk.2)
     have h4:=hk.1
     unfold OpD.okS YG YB at h4
     simp only[Bool.and_eq_true,decide_eq_true_eq] at h4
     refine ⟨?_,h4.1.2.1.2,h4.2.1⟩
     rw[h1];exact (show ZJ.size≤64 by decide)
    ·split at hk
     ·rw[Bool.and_eq_true] at hk
      obtain ⟨h1,h2,h3⟩:=key _ (of_decide_eq_true hk.2)
      have h4:=hk.1
      unfold OpD.okK YG YB at h4
      simp only[Bool.and_eq_true,decide_eq_true_eq] at h4
      refine ⟨?_,h4.1.2.1.2,h4.2.1⟩
      rw[h1];exact (show ZJ.size≤64 by decide)
     ·cases hk
theorem Rq:∀ (l:List Int) (p:Int),(0≤p∧p≤1048576)→(∀ x∈l,0≤x∧x≤1048576)→∀ y∈YP p l,-2097152≤y∧y≤2097152
 | [],_,_,_,y,h=>by cases h
 | x :: l,p,hp,hl,y,h=>by
  have hx:=hl x (by simp)
  rw[YP] at h
  rcases List.mem_cons.1 h with rfl|h
  ·rw[Z70 (by omega) (by omega)];omega
  ·exact Rq l x hx (fun z hz=>hl z (by simp[hz])) y h
theorem Z3a {l:List Int} (hl:∀ x∈l,0≤x∧x≤1048576):∀ y∈ZG l,-2097152≤y∧y≤2097152:=by
 cases l with
 | nil=>intro y h;cases h
 | cons x l =>
  intro y h
  have hx:=hl x (by simp)
  rw[ZG] at h
  rcases List.mem_cons.1 h with rfl|h
  ·omega
  ·exact Rq l x hx (fun z hz=>hl z (by simp[hz])) y h
theorem Z58 {l:List OpD} (hr:∀ x∈l,x.right=true) (c:Nat):∀ y∈Y8 l c,0≤y∧y≤1048576:=fun y hy=>by
 obtain ⟨o,ho,rfl⟩:=List.mem_map.1 hy
 exact Z69 (hr o ho) c
theorem Z5J {l:List OpD} (hn:l.length≤200) (hr:∀ x∈l,x.right=true) (c:Nat):(WF l c).length≤5*l.length:=by
 have hs:=Z58 hr c
 have hl:(Y8 l c).length=l.length:=List.length_map _
 unfold WF
 split
 ·have:=SA (k:=4) _ (ZG (Y8 l c)) rfl (by rw[Xj,hl];omega) (fun x hx=>Z3l (Z3a hs x hx))
  rw[Xj,hl] at this
  exact this
 ·have:=SA (k:=4) _ (Y8 l c) rfl (by rw[hl];omega) (fun x hx=>Z3l (by have:=hs x hx;omega))
  rw[hl] at this
  exact this
theorem Z03 {l:List OpD} (hn:l.length≤200) (hr:∀ x∈l,x.right=true):∀ n,(ZN l n).length≤5*l.length*n
 | 0=>by simp[ZN]
 | n+1=>by
  have:=Z03 hn hr n
  have h2:=Z5J hn hr n
  rw[Wz,List.length_append,Nat.mul_add,Nat.mul_one]
  omega
theorem Z1Z {k c:Nat}:∀ (l:List OpD),(∀ o∈l,(txt o c).size≤k)→(ZC l c).length≤k*l.length
 | [],_=>by simp[ZC]
 | o :: l,h=>by
  have h1:=h o (by simp)
  have h2:=Z1Z l (fun p hp=>h p (by simp[hp]))
  have e:ZC (o :: l) c=(txt o c).data.toList++ZC l c:=rfl
  rw[e,List.length_append,List.length_cons,Nat.mul_add,Nat.mul_one]
  have:(txt o c).data.toList.length=(txt o c).size:=by rw[Array.length_toList];rfl
  omega
theorem TK {l:List OpD} (hn:l.length≤200) {k c:Nat} (hk:k≤64) (h:∀ o∈l,(txt o c).size≤k):(Zc (Zw l c)++ZC l c).length≤(3+k)*l.length:=by
 have hl:(Zw l c).length=l.length:=List.length_map _
 have h1:=SA (k:=2) _ (Zw l c) rfl (by rw[hl];omega) (fun x hx=>by
  obtain ⟨o,ho,rfl⟩:=List.mem_map.1 hx
  have:=h o ho
  exact Z7V (by omega))
 have h2:=Z1Z l h
 rw[List.length_append,Nat.add_mul]
 rw[hl] at h1
 omega
theorem R7 {l:List OpD} (hn:l.length≤200) (hr:∀ x∈l,x.right=true):(Xm l).length≤204*l.length+4:=by
 have h0:(Z5 l.length).length≤2:=(Wg _ 2 (by omega)).2 (by omega)
 have h1:=Z03 hn hr 21
 have h2:∀ c,(Yu (Zr l c)).length≤l.length+1:=fun c=>by
  have hl:(Zr l c).length=l.length:=List.length_map _
  have:=Z42 (l:=Zr l c) (by rw[hl];omega)
  rw[hl] at this
  exact this
 have a0:=h2 0
 have a1:=h2 1
 have b0:=TK hn (k:=64) (c:=0) (by omega) (fun o ho=>(Ra (hr o ho)).1)
 have b1:=TK hn (k:=8) (c:=1) (by omega) (fun o ho=>(Ra (hr o ho)).2.1)
 have b2:=TK hn (k:=16) (c:=2) (by omega) (fun o ho=>(Ra (hr o ho)).2.2)
 have e1:Yw l 2=Yu (Zr l 0)++Yu (Zr l 1):=by simp[Yw,List.range_succ]
 have e2:X9 l 3=(Zc (Zw l 0)++ZC l 0)++((Zc (Zw l 1)++ZC l 1)++(Zc (Zw l 2)++ZC l 2)):=by simp[X9,List.range_succ]
 unfold Xm
 rw[e1,e2]
 simp only[List.length_append] at b0 b1 b2 h1 a0 a1 h0 ⊢
 omega
end Go.Proofs.YtgmdimbiipemhaaGreatDoor
namespace Go.Proofs.YtgmdimbiipemhaaGreatDoor
open Go.RowKit Go.Deep
def Wi (L:List OpD) (k:Nat):List OpD:=(L.drop (200*k)).take 200
def WO (L:List OpD) (n:Nat):List (List OpD):=(List.range n).map (Wi L)
def YC (L:List OpD):List (List OpD):=WO L (chN L.length)
theorem Z0m (L:List OpD) (n:Nat):WO L (n+1)=WO L n++[Wi L n]:=by simp[WO,List.range_succ]
theorem Z1o (L:List OpD) (k:Nat):(Wi L k).length=chM L.length k:=by
 unfold Wi chM
 rw[List.length_take,List.length_drop]
theorem Sh (L:List OpD):∀ n,(WO L n).flatten=L.take (200*n)
 | 0=>by simp[WO]
 | n+1=>by
  rw[Z0m,List.flatten_append,Sh L n,List.flatten_singleton,Wi,Nat.mul_add,Nat.mul_one,List.take_add]
theorem Vj (L:List OpD):(YC L).flatten=L:=by
 unfold YC
 rw[Sh]
 refine List.take_of_length_le ?_
 unfold chN
 omega
theorem Z1h (L:List OpD):(YC L).length=chN L.length:=by simp[YC,WO]
def Ve (L:List OpD):Prop:=∀ x∈L,x.right=true∧x.wf
theorem Z5i {l:List OpD} (h:Ve l) (h0:l≠[]) (hn:l.length≤200):Y5 l :=
 ⟨h0,hn,h,by have:=R7 hn (fun x hx=>(h x hx).1);omega⟩
theorem Sc {L:List OpD} (h:Ve L) {k:Nat} (hk:k<chN L.length):Y5 (Wi L k):=by
 refine Z5i (fun x hx=>h x (List.mem_of_mem_drop (List.mem_of_mem_take hx))) (fun e=>?_) ?_
 ·have:=Z1o L k
  rw[e] at this
  unfold chM at this
  unfold chN at hk
  simp at this
  omega
 ·rw[Z1o];unfold chM;omega
theorem XX {L:List OpD} (h:Ve L):∀ l∈YC L,Y5 l:=fun l hl=>by
 obtain ⟨k,hk,rfl⟩:=List.mem_map.1 hl
 exact Sc h (List.mem_range.1 hk)
theorem Z4U {ls:List (List OpD)} (h:∀ l∈ls,Y5 l):Ve ls.flatten:=fun x hx=>by
 obtain ⟨l,hl,hx⟩:=List.mem_flatten.1 hx
 exact (h l hl).2.2.1 x hx
theorem Z3n {ls:List (List OpD)} (h:∀ l∈ls,Y5 l):(Ze ls).length≤204*ls.flatten.length+15*ls.length:=by
 induction ls with
 | nil=>simp[Ze]
 | cons l ls ih =>
  have h1:=ih (fun m hm=>h m (by simp[hm]))
  have h2:=h l (by simp)
  have h3:=R7 h2.2.1 (fun x hx=>(h2.2.2.1 x hx).1)
  rw[WG,List.length_append,List.flatten_cons,List.length_append,List.length_cons,XE]
  omega
theorem Z0t {L:List OpD} (h:Ve L):(Ze (YC L)).length≤204*L.length+15*chN L.length:=by
 have:=Z3n (XX h)
 rw[Vj,Z1h] at this
 exact this
def Su (b lo:Nat) (l:List UInt8) (W:World):Prop:=∃ v lr,W.heap[b]?=some (.cells #[v,.int .i64 0,.int .i8 lr] 150 (0,0))∧Own u8c 1 5 lo W v l
theorem Tb (l:List UInt8):Lib.byteCells l=l.flatMap u8c:=by
 unfold Lib.byteCells
 rw[List.flatMap_def]
 induction l with
 | nil=>rfl
 | cons x l ih=>rw[List.map_cons,List.map_cons,List.flatten_cons,ih];rfl
theorem Su.is_ {b lo:Nat} {l:List UInt8} {W:World} (h:Su b lo l W) (hlo:b<lo):Lib.IsBuffer 150 5 b b (Lib.byteCells l) W:=by
 obtain ⟨v,lr,h1,h2⟩:=h
 refine ⟨Nat.le_refl _,v,lr,h1,?_,fun e=>by have:=(h2.blk b e).1;omega⟩
 have h3:=h2.mono (Nat.le_of_lt hlo)
 unfold Own at h3
 rw[Tb,Z0Y]
 exact h3
theorem Su.of {b lo:Nat} {l:List UInt8} {W:World} (h:Lib.IsBuffer 150 5 b b (Lib.byteCells l) W) (hlo:∀ g c fz,b<g→g<lo→W.heap[g]?≠some (.cells c 5 fz)):Su b lo l W:=by
 obtain ⟨_,v,lr,h1,h2,h3⟩:=h
 rw[Tb,Z0Y] at h2
 have h4:Own u8c 1 5 b W v l:=h2
 refine ⟨v,lr,h1,h4.raise (fun g hg=>?_)⟩
 obtain ⟨cur,hc⟩:=h4.tag hg
 have h5:=(h4.blk g hg).1
 have h6:g≠b:=fun e=>h3 (by rw[←e];exact hg)
 exact Classical.byContradiction fun h7=>hlo g cur (0,0) (by omega) (by omega) hc
structure Mo where
 c:Int
 o:Nat
 s:Nat
def Mo.cells (m:Mo):List Value:=[.int .i64 m.c,.int .i64 m.o,.int .i64 m.s]
theorem Mo.len (m:Mo):m.cells.length=3:=rfl
theorem Mo.onec (m:Mo):∀ u∈m.cells,u.oneCell'=true:=by
 intro u hu
 simp only[Mo.cells,List.mem_cons,List.not_mem_nil,or_false] at hu
 rcases hu with rfl|rfl|rfl <;> rfl
def Z2m (ms:List Mo) (lo hi:Nat) (k:Nat):Prop:=lo≤k∧k≤hi∧∃ m∈ms,m.o=k
inductive Way:List Mo→Z4→List OpD→Nat→Prop
 | one {A:Z4}:QA [] (fun _=>True) A→Way [⟨A.now,0,0⟩] A [] 0
 | snoc {ms:List Mo} {A A':Z4} {L M:List OpD} {sy sy':Nat}:Way ms A L sy→sy≤sy' →
   Ch (QA (L++M) (Z2m (ms++[⟨A'.now,(L++M).length,sy'⟩]) sy (L++M).length)) A A' →
   QA (L++M) (Z2m (ms++[⟨A'.now,(L++M).length,sy'⟩]) sy' (L++M).length) A'→(A'.now=A.now→M=[]∧sy'=sy) →
   Way (ms++[⟨A'.now,(L++M).length,sy'⟩]) A' (L++M) sy'
def Bnd (ms:List Mo) (ld lu:List (List OpD)):Prop:=∀ k,k≤lu.length→∃ m∈ms,m.o=(ld++lu.take k).flatten.length
theorem US {α:Type} (ld lu:List (List α)) (k:Nat):ld.flatten.length≤(ld++lu.take k).flatten.length∧(ld++lu.take k).flatten.length≤(ld++lu).flatten.length:=by
 have h:=congrArg (fun x=>x.flatten.length) (List.take_append_drop k lu)
 simp only[List.flatten_append,List.length_append] at h ⊢
 omega
theorem Bnd.more {ms:List Mo} {ld lu:List (List OpD)} (h:Bnd ms ld lu) (m:Mo):Bnd (ms++[m]) ld lu:=fun k hk=>by
 obtain ⟨x,h1,h2⟩:=h k hk
 exact ⟨x,List.mem_append_left _ h1,h2⟩
theorem Bnd.all {ms:List Mo} {ld:List (List OpD)} {m:Mo} (h:m.o=ld.flatten.length):Bnd (ms++[m]) ld []:=fun k hk=>by
 obtain rfl:k=0:=by simpa using hk
 exact ⟨m,by simp,by simpa using h⟩
theorem Bnd.app {ms:List Mo} {ld lu:List (List OpD)} (h:Bnd ms ld lu) {l:List OpD} {m:Mo} (hm:m.o=(ld++(lu++[l])).flatten.length):Bnd (ms++[m]) ld (lu++[l]):=fun k hk=>by
 by_cases hk2:k≤lu.length
 ·rw[List.take_append_of_le_length hk2]
  exact h.more m k hk2
 ·rw[List.take_of_length_le (by simp at hk ⊢;omega)]
  exact ⟨m,by simp,hm⟩
section
variable {A A':Z4} {f fb:Nat} {ld lu:List (List OpD)} {ms:List Mo} {L:List OpD}
theorem Yj.some (h:Yj A f ld lu) (hb:Bnd ms ld lu) {lo:Nat} (hlo:lo≤ld.flatten.length):St9 A [f] f (ld++lu).flatten (Z2m ms lo (ld++lu).flatten.length) :=
 h.st (fun k hk=>by
  have:=US ld lu k
  exact ⟨by omega,by omega,hb k hk⟩)
theorem Way.same (hw:Way ms A (ld++lu).flatten ld.flatten.length) (h:Yj A f ld lu) (hb:Bnd ms ld lu):Way (ms++[⟨A.now,(ld++lu).flatten.length,ld.flatten.length⟩]) A (ld++lu).flatten ld.flatten.length:=by
 have h1:=(h.some (hb.more ⟨A.now,(ld++lu).flatten.length,ld.flatten.length⟩) (Nat.le_refl _)).e
 have:=Way.snoc (M:=[]) (A':=A) hw (Nat.le_refl _) (by rw[List.append_nil];exact .refl h1) (by rw[List.append_nil];exact h1) (fun _=>⟨rfl,rfl⟩)
 simpa using this
theorem Way.app {l:List OpD} (hw:Way ms A (ld++lu).flatten ld.flatten.length) (h:Yj A f ld lu) (hb:Bnd ms ld lu) (hl:Y5 l) :
  Way (ms++[⟨(Yh f (ZT l) A).now,(ld++(lu++[l])).flatten.length,ld.flatten.length⟩]) (Yh f (ZT l) A) (ld++(lu++[l])).flatten ld.flatten.length:=by
 have e:(ld++(lu++[l])).flatten=(ld++lu).flatten++l:=by simp
 obtain ⟨m,hm⟩:∃ m:Mo,m=⟨(Yh f (ZT l) A).now,(ld++(lu++[l])).flatten.length,ld.flatten.length⟩:=⟨_,rfl⟩
 have h1:=(h.app hl).some (hb.app (l:=l) (m:=m) (by rw[hm])) (Nat.le_refl _)
 have h0:=(h.some (hb.more m) (Nat.le_refl _)).d.more l
 rw[←hm]
 rw[e] at h1 hm ⊢
 have h2:QA ((ld++lu).flatten++l) (Z2m (ms++[m]) ld.flatten.length ((ld++lu).flatten++l).length) A:=⟨_,h0.mono (fun k _ hk=>⟨hk.1,by have:=hk.2.1;rw[List.length_append];omega,hk.2.2⟩)⟩
 subst hm
 exact Way.snoc hw (Nat.le_refl _) (Ch.one h2 (.inr (.inr (.inl ⟨f,ZT l,rfl⟩))) h1.e) h1.e (fun e=>by simp only[Yh] at e;omega)
theorem Way.sync (hw:Way ms A (ld++lu).flatten ld.flatten.length) (h:Yj A f ld lu) (hb:Bnd ms ld lu) :
  Way (ms++[⟨(ZV f A).now,(ld++lu).flatten.length,(ld++lu).flatten.length⟩]) (ZV f A) (ld++lu).flatten (ld++lu).flatten.length:=by
 obtain ⟨m,hm⟩:∃ m:Mo,m=⟨(ZV f A).now,(ld++lu).flatten.length,(ld++lu).flatten.length⟩:=⟨_,rfl⟩
 have h1:=h.sync.some (Bnd.all (ms:=ms) (ld:=ld++lu) (m:=m) (by rw[hm])) (Nat.le_refl _)
 rw[List.append_nil] at h1
 have h0:=h.some (hb.more m) (Nat.le_refl _)
 have hle:=(US ld lu lu.length).1
 rw[List.take_length] at hle
 have hn:=h.now
 subst hm
 have:=Way.snoc (M:=[]) (A':=ZV f A) (sy':=(ld++lu).flatten.length) hw hle (by rw[List.append_nil];exact Ch.one h0.e (.inr (.inr (.inr (.inl ⟨f,rfl⟩)))) ⟨_,h1.d.mono (fun k _ hk=>⟨Nat.le_trans hle hk.1,hk.2⟩)⟩) (by rw[List.append_nil];exact h1.e) (fun e=>by simp only[ZV] at e;omega)
 simpa using this
theorem Way.comp (hw:Way ms A (ld++lu).flatten ld.flatten.length) (h:Yj A f ld lu) (hb:Bnd ms ld lu) (hf:fb∉A.ids) (hg:Ve (ld++lu).flatten) :
  Way (ms++[⟨(Wy fb (Ze (YC (ld++lu).flatten)) A).now,(ld++lu).flatten.length,(ld++lu).flatten.length⟩]) (Wy fb (Ze (YC (ld++lu).flatten)) A) (ld++lu).flatten (ld++lu).flatten.length:=by
 have hle:=(US ld lu lu.length).1
 rw[List.take_length] at hle
 have hpf:=Vj (ld++lu).flatten
 have hs:=Uf h.hist h.now h.inj h.two hf (XX hg)
 obtain ⟨L,hL⟩:=Je ((ld++lu).flatten)
 rw[hL] at hw hle hpf hs ⊢
 obtain ⟨B,hB⟩:=Je (Wy fb (Ze (YC L)) A)
 obtain ⟨m,hm⟩:∃ m:Mo,m=⟨B.now,L.length,L.length⟩:=⟨_,rfl⟩
 have h0:=h.some (hb.more m) (Nat.le_refl _)
 rw[hL] at h0
 have hch:=h0.anew hf (XX (L:=L) (by rw[←hL];exact hg)) hpf ⟨hle,Nat.le_refl _,m,by simp,by rw[hm]⟩
 rw[hB] at hs hch ⊢
 have h1:=hs.some (Bnd.all (ms:=ms) (ld:=YC L) (m:=m) (by rw[hm,hpf])) (Nat.le_refl _)
 rw[List.append_nil,hpf] at h1
 have hnow:A.now<B.now:=by
  rw[←hB]
  have:=Z14 fb A
  show A.now<(an1 fb A).now+1+1+1+1+1
  omega
 subst hm
 have:=Way.snoc (M:=[]) (A':=B) (sy':=L.length) hw hle (by rw[List.append_nil];exact hch) (by rw[List.append_nil];exact h1.e) (fun e=>by omega)
 simpa using this
end
end Go.Proofs.YtgmdimbiipemhaaGreatDoor
namespace Go.Proofs.YtgmdimbiipemhaaGreatDoor
open Go.ChangeShapes Go.WideShapes Go.RowKit Go.Deep
theorem Z2h {α:Type} {l:List α} {i:Nat} {a:α} (h:l[i]?=some a):(l.drop i).take 1=[a]:=by
 obtain ⟨hi,rfl⟩:=List.getElem?_eq_some_iff.1 h
 rw[List.drop_eq_getElem_cons hi]
 rfl
def inR (x:Int):Prop:=-9223372036854775808≤x∧x≤9223372036854775807
section
variable {H:Type} {enc:TypeId × Value→H} {P:Program} {w:World} {base:Nat} {spare:Nat→Bool} {held:Bool}
theorem VL {α:Type} {ea:α→List Value} {k:Nat} {t e:TypeId} {fuel:Nat} {cs:List Value} {x:DataW H × List MemPlace} {p:α→Prop} (ht:P.underlying t=some (.slice e)) (hk:P.cellsOf e=k) (hk0:0<k) (hlen:∀ x,(ea x).length=k)
  (hel:∀ fuel cs x,DataW.trod enc P w base spare held fuel e cs=some x→∃ y,cs=ea y∧p y) (h:DataW.trod enc P w base spare held fuel t cs=some x):∃ v l,cs=[v]∧Z0 ea k w v l∧∀ y∈l,p y:=by
 rcases open_slice ht h with ⟨hcs,_⟩|⟨a,len0,cap0,m,n,D,Pl,hcs,hb,hl,hm,hmm,hx,hi⟩
 ·exact ⟨_,[],hcs,⟨none,0,rfl,Nat.le_refl _,Nat.zero_le _,fun hn=>absurd rfl hn⟩,fun y hy=>by cases hy⟩
 ·have hlm:len0≤m:=by rw[hmm];split <;> omega
  obtain ⟨l,h1,h2⟩:=Q7 (p:=fun i (x:α)=>(∀ j u,(ea x)[j]?=some u→w.cell? (a.add (i*k+j))=some u)∧p x) len0 (fun i hi'=>by
   obtain ⟨cs',hc,ht'⟩:=hi i (by omega)
   obtain ⟨y,rfl,hp⟩:=hel _ _ _ ht'
   refine ⟨y,fun j u hj=>?_,hp⟩
   obtain ⟨_,hcl,hat⟩:=World.cells?_some hc
   have hjl:=(List.getElem?_eq_some_iff.1 hj).1
   rw[hlen] at hjl
   have:=hat j (by rw[hk];exact hjl)
   rw[hk,Go.Deep.add_add,hj] at this
   exact this)
  subst h1
  refine ⟨_,l,hcs,⟨some a,cap0,rfl,hl,hm,fun hne=>?_⟩,fun y hy=>?_⟩
  ·obtain ⟨x0,hx0⟩:∃ x0,l[0]?=some x0:=by
    cases l with
    | nil=>exact absurd rfl hne
    | cons x r=>exact ⟨x,rfl⟩
   obtain ⟨u0,hu0⟩:∃ u0,(ea x0)[0]?=some u0:=by
    have:=hlen x0
    cases hq:ea x0 with
    | nil=>rw[hq] at this;simp at this;omega
    | cons x r=>exact ⟨x,rfl⟩
   have hz:=(h2 0 x0 hx0).1 0 u0 hu0
   obtain ⟨b,off,spot⟩:=a
   have hspot:spot=none:=by
    simp[Addr.add,World.cell?] at hz
    cases spot with
    | none=>rfl
    | some s=>simp at hz;split at hz <;> simp at hz
   subst hspot
   refine ⟨b,off,rfl,fun i x hi' j u hj=>?_⟩
   have:=(h2 i x hi').1 j u hj
   have e:(Addr.add ⟨b,off,none⟩ (i*k+j))=⟨b,off+i*k+j,none⟩:=by
    unfold Addr.add
    split
    ·rename_i h0;have:i*k=0∧j=0:=by omega
     simp[this.1,this.2]
    ·simp[Nat.add_assoc]
   rw[e] at this
   exact this
  ·obtain ⟨i,hi'⟩:=List.getElem?_of_mem hy
   exact (h2 i y hi').2
end
section
variable {H:Type} {enc:TypeId × Value→H} {w:World} {base:Nat} {spare:Nat→Bool} {held:Bool}
theorem Z7T {fuel:Nat} {cs:List Value} {x:DataW H × List MemPlace} (h:DataW.trod enc Tryz.prog w base spare held fuel 5 cs=some x):∃ y:UInt8,cs=u8c y∧True:=by
 obtain ⟨p,hp,_,hw⟩:=DataW.trod_int (k:=.u8) (by kernel_rfl:Tryz.prog.underlying 5=some (.int .u8)) h
 have hb:0≤p∧p<256:=by
  have e1:IntKind.u8.min=0:=by decide
  have e2:IntKind.u8.max=255:=by decide
  simp[Lit.wf,e1,e2] at hw
  omega
 refine ⟨UInt8.ofNat p.toNat,?_,trivial⟩
 rw[hp,u8c]
 congr 2
 simp
 omega
theorem Wh {fuel:Nat} {a:Value} {T:TypeId} {x:DataW H × List MemPlace} (hu:Tryz.prog.underlying T=some (.int .i64)) (h:DataW.trod enc Tryz.prog w base spare held fuel T [a]=some x):∃ z:Int,a=.int .i64 z∧inR z:=by
 obtain ⟨z,hz,_,hw⟩:=DataW.trod_int (k:=.i64) hu h
 have e1:IntKind.i64.min=-9223372036854775808:=by decide
 have e2:IntKind.i64.max=9223372036854775807:=by decide
 simp[Lit.wf,e1,e2] at hw
 simp at hz
 exact ⟨z,hz,hw⟩
theorem Ub {fuel:Nat} {a b:Value} {x:DataW H × List MemPlace} (h:DataW.trod enc Tryz.prog w base spare held fuel 62 [a,b]=some x):∃ s:St,a=.int .i64 s.n∧b=.int .i64 s.r∧inR s.n∧inR s.r:=by
 obtain ⟨xs,n,_,_,hlen,hxl,hf⟩:=DataW.trod_struct Tryz.underlying62 h
 have hc3:Tryz.prog.cellsOf 3=1:=by kernel_rfl
 have f0:DataW.trod enc Tryz.prog w base spare held n 3 [a]=xs[0]?:=by simpa [hc3] using hf 0 _ rfl
 have f1:DataW.trod enc Tryz.prog w base spare held n 3 [b]=xs[1]?:=by simpa [hc3] using hf 1 _ rfl
 simp at hxl
 obtain ⟨p,hp,hp2⟩:=Wh Tryz.underlying3 (f0.trans (List.getElem?_eq_getElem (by omega)))
 obtain ⟨q,hq,hq2⟩:=Wh Tryz.underlying3 (f1.trans (List.getElem?_eq_getElem (by omega)))
 exact ⟨⟨p,q⟩,hp,hq,hp2,hq2⟩
theorem Z1F {fuel:Nat} {a b c:Value} {x:DataW H × List MemPlace} (h:DataW.trod enc Tryz.prog w base spare held fuel 66 [a,b,c]=some x):∃ (s:St) (q:Bool),a=.int .i64 s.n∧b=.int .i64 s.r∧c=.bool q∧inR s.n∧inR s.r:=by
 obtain ⟨xs,n,_,_,hlen,hxl,hf⟩:=DataW.trod_struct Tryz.underlying66 h
 have hc1:Tryz.prog.cellsOf 62=2:=by kernel_rfl
 have hc3:Tryz.prog.cellsOf 4=1:=by kernel_rfl
 have f0:DataW.trod enc Tryz.prog w base spare held n 62 [a,b]=xs[0]?:=by simpa [hc1] using hf 0 _ rfl
 have f1:DataW.trod enc Tryz.prog w base spare held n 4 [c]=xs[1]?:=by simpa [hc3] using hf 1 _ rfl
 simp at hxl
 obtain ⟨s,h1,h2,h3,h4⟩:=Ub (f0.trans (List.getElem?_eq_getElem (by omega)))
 obtain ⟨q,hq,_⟩:=DataW.trod_bool Tryz.underlying4 (f1.trans (List.getElem?_eq_getElem (by omega)))
 simp at hq
 exact ⟨s,q,h1,h2,hq,h3,h4⟩
theorem Z6A {fuel:Nat} {a0 a1 a2 a3 a4 a5 a6 a7:Value} {x:DataW H × List MemPlace} (h:DataW.trod enc Tryz.prog w base spare held fuel 32 [a0,a1,a2,a3,a4,a5,a6,a7]=some x) :
  ∃ z0 z1 z2 z3 z4 z5 z6 z7:Int,[a0,a1,a2,a3,a4,a5,a6,a7]=[.int .i64 z0,.int .i64 z1,.int .i64 z2,.int .i64 z3,.int .i64 z4,.int .i64 z5,.int .i64 z6,.int .i64 z7]∧inR z0∧inR z1∧inR z2∧inR z3∧inR z4∧inR z5∧inR z6∧inR z7:=by
 obtain ⟨xs,m,_,_,hlen,hxl,hf⟩:=DataW.trod_array (n:=8) (e:=3) Tryz.underlying32 h
 have hc2:Tryz.prog.cellsOf 3=1:=by kernel_rfl
 have hq:∀ i (hi:i<8) (a:Value),[a0,a1,a2,a3,a4,a5,a6,a7][i]?=some a→∃ z:Int,a=.int .i64 z∧inR z:=fun i hi a ha=>by
  have:=hf i hi
  rw[hc2,Nat.mul_one,Z2h ha] at this
  exact Wh Tryz.underlying3 (this.trans (List.getElem?_eq_getElem (by omega)))
 obtain ⟨z0,rfl,r0⟩:=hq 0 (by omega) a0 rfl
 obtain ⟨z1,rfl,r1⟩:=hq 1 (by omega) a1 rfl
 obtain ⟨z2,rfl,r2⟩:=hq 2 (by omega) a2 rfl
 obtain ⟨z3,rfl,r3⟩:=hq 3 (by omega) a3 rfl
 obtain ⟨z4,rfl,r4⟩:=hq 4 (by omega) a4 rfl
 obtain ⟨z5,rfl,r5⟩:=hq 5 (by omega) a5 rfl
 obtain ⟨z6,rfl,r6⟩:=hq 6 (by omega) a6 rfl
 obtain ⟨z7,rfl,r7⟩:=hq 7 (by omega) a7 rfl
 exact ⟨z0,z1,z2,z3,z4,z5,z6,z7,rfl,r0,r1,r2,r3,r4,r5,r6,r7⟩
theorem Z6U {fuel:Nat} {cs:List Value} {x:DataW H × List MemPlace} (h:DataW.trod enc Tryz.prog w base spare held fuel 68 cs=some x):∃ y:OpD,cs=y.cells∧y.wf:=by
 obtain ⟨xs,n,_,_,hlen,hxl,hf⟩:=DataW.trod_struct Tryz.underlying68 h
 have hc:Tryz.prog.cellsOf 68=26:=by kernel_rfl
 have c1:Tryz.prog.cellsOf 62=2:=by kernel_rfl
 have c2:Tryz.prog.cellsOf 3=1:=by kernel_rfl
 have c3:Tryz.prog.cellsOf 32=8:=by kernel_rfl
 have c4:Tryz.prog.cellsOf 63=1:=by kernel_rfl
 have c5:Tryz.prog.cellsOf 64=1:=by kernel_rfl
 have c6:Tryz.prog.cellsOf 9=1:=by kernel_rfl
 have c7:Tryz.prog.cellsOf 66=3:=by kernel_rfl
 rw[hc] at hlen
 match cs,hlen with
 | [a0,a1,a2,a3,a4,a5,a6,a7,a8,a9,a10,a11,a12,a13,a14,a15,a16,a17,a18,a19,a20,a21,a22,a23,a24,a25],_ =>
  have f0:DataW.trod enc Tryz.prog w base spare held n 62 [a0,a1]=xs[0]?:=by simpa [c1] using hf 0 _ rfl
  have f1:DataW.trod enc Tryz.prog w base spare held n 32 [a2,a3,a4,a5,a6,a7,a8,a9]=xs[1]?:=by simpa [c3] using hf 1 _ rfl
  have f2:DataW.trod enc Tryz.prog w base spare held n 63 [a10]=xs[2]?:=by simpa [c4] using hf 2 _ rfl
  have f3:DataW.trod enc Tryz.prog w base spare held n 62 [a11,a12]=xs[3]?:=by simpa [c1] using hf 3 _ rfl
  have f4:DataW.trod enc Tryz.prog w base spare held n 64 [a13]=xs[4]?:=by simpa [c5] using hf 4 _ rfl
  have f5:DataW.trod enc Tryz.prog w base spare held n 3 [a14]=xs[5]?:=by simpa [c2] using hf 5 _ rfl
  have f6:DataW.trod enc Tryz.prog w base spare held n 62 [a15,a16]=xs[6]?:=by simpa [c1] using hf 6 _ rfl
  have f7:DataW.trod enc Tryz.prog w base spare held n 9 [a17]=xs[7]?:=by simpa [c6] using hf 7 _ rfl
  have f8:DataW.trod enc Tryz.prog w base spare held n 9 [a18]=xs[8]?:=by simpa [c6] using hf 8 _ rfl
  have f9:DataW.trod enc Tryz.prog w base spare held n 9 [a19]=xs[9]?:=by simpa [c6] using hf 9 _ rfl
  have f10:DataW.trod enc Tryz.prog w base spare held n 66 [a20,a21,a22]=xs[10]?:=by simpa [c7] using hf 10 _ rfl
  have f11:DataW.trod enc Tryz.prog w base spare held n 66 [a23,a24,a25]=xs[11]?:=by simpa [c7] using hf 11 _ rfl
  simp at hxl
  obtain ⟨s0,h0,h0b,r0,r0b⟩:=Ub (f0.trans (List.getElem?_eq_getElem (by omega)))
  obtain ⟨z0,z1,z2,z3,z4,z5,z6,z7,h1,q0,q1,q2,q3,q4,q5,q6,q7⟩:=Z6A (f1.trans (List.getElem?_eq_getElem (by omega)))
  obtain ⟨k,h2,r2⟩:=Wh Tryz.underlying63 (f2.trans (List.getElem?_eq_getElem (by omega)))
  obtain ⟨s3,h3,h3b,r3,r3b⟩:=Ub (f3.trans (List.getElem?_eq_getElem (by omega)))
  obtain ⟨sd,h4,r4⟩:=Wh Tryz.underlying64 (f4.trans (List.getElem?_eq_getElem (by omega)))
  obtain ⟨ch,h5,r5⟩:=Wh Tryz.underlying3 (f5.trans (List.getElem?_eq_getElem (by omega)))
  obtain ⟨s6,h6,h6b,r6,r6b⟩:=Ub (f6.trans (List.getElem?_eq_getElem (by omega)))
  obtain ⟨ky,h7,_,l7⟩:=DataW.trod_string Tryz.underlying9 (f7.trans (List.getElem?_eq_getElem (by omega)))
  obtain ⟨nm,h8,_,l8⟩:=DataW.trod_string Tryz.underlying9 (f8.trans (List.getElem?_eq_getElem (by omega)))
  obtain ⟨vl,h9,_,l9⟩:=DataW.trod_string Tryz.underlying9 (f9.trans (List.getElem?_eq_getElem (by omega)))
  obtain ⟨s10,q10,i0,i1,i2,r10,r10b⟩:=Z1F (f10.trans (List.getElem?_eq_getElem (by omega)))
  obtain ⟨s11,q11,j0,j1,j2,r11,r11b⟩:=Z1F (f11.trans (List.getElem?_eq_getElem (by omega)))
  simp only[List.cons.injEq,and_true] at h1 h7 h8 h9
  unfold maxLen at l7 l8 l9
  refine ⟨⟨s0,z0,z1,z2,z3,z4,z5,z6,z7,k,s3,sd,ch,s6,ky,nm,vl,s10,q10,s11,q11⟩,by simp only[OpD.cells,h0,h0b,h1,h2,h3,h3b,h4,h5,h6,h6b,h7,h8,h9,i0,i1,i2,j0,j1,j2],⟨⟨by omega,by omega,by omega⟩,fun c hc=>?_⟩⟩
  match c,hc with
  | 0,_=>exact r0
  | 1,_=>exact r0b
  | 2,_=>exact q0
  | 3,_=>exact q1
  | 4,_=>exact q2
  | 5,_=>exact q3
  | 6,_=>exact q4
  | 7,_=>exact q5
  | 8,_=>exact q6
  | 9,_=>exact q7
  | 10,_=>exact r2
  | 11,_=>exact r3
  | 12,_=>exact r3b
  | 13,_=>exact r4
  | 14,_=>exact r5
  | 15,_=>exact r6
  | 16,_=>exact r6b
  | 17,_=>exact r10
  | 18,_=>exact r10b
  | 19,_=>exact r11
  | 20,_=>exact r11b
  | n+21,h=>exact absurd h (by omega)
end
structure Qs where
 at_:Int
 names:Int
 keep:Sl
 torn:Int
 ks:List Bool
def Qs.cells (x:Qs):List Value:=[.int .i64 x.at_,.int .i64 x.names,.slice x.keep.a x.keep.n x.keep.cap,.int .i64 x.torn]
structure Qs.In (x:Qs) (w:World):Prop where
 sl:Z0 Z4x 1 w (.slice x.keep.a x.keep.n x.keep.cap) x.ks
 a:inR x.at_
 n:inR x.names
 t:inR x.torn
structure XB where
 kind:Int
 l:Sl
 b:Sl
 c:Qs
 ls:List OpD
 bs:List UInt8
def XB.cells (x:XB):List Value:=[.int .i64 x.kind,.slice x.l.a x.l.n x.l.cap,.slice x.b.a x.b.n x.b.cap,.int .i64 x.c.at_,.int .i64 x.c.names,.slice x.c.keep.a x.c.keep.n x.c.keep.cap,.int .i64 x.c.torn]
theorem XB.len (x:XB):x.cells.length=7:=rfl
structure XB.In (x:XB) (w:World):Prop where
 l:Z0 OpD.cells 26 w (.slice x.l.a x.l.n x.l.cap) x.ls
 wf:∀ o∈x.ls,o.wf
 b:Z0 u8c 1 w (.slice x.b.a x.b.n x.b.cap) x.bs
 c:x.c.In w
section
variable {H:Type} {enc:TypeId × Value→H} {w:World} {base:Nat} {spare:Nat→Bool} {held:Bool}
theorem Z7O {fuel:Nat} {cs:List Value} {x:DataW H × List MemPlace} (h:DataW.trod enc Tryz.prog w base spare held fuel 4 cs=some x):∃ y:Bool,cs=Z4x y∧True:=by
 obtain ⟨p,hp,_⟩:=DataW.trod_bool Tryz.underlying4 h
 exact ⟨p,hp,trivial⟩
theorem Z6i {fuel:Nat} {a4 a5 a6 a7:Value} {x:DataW H × List MemPlace} (h:DataW.trod enc Tryz.prog w base spare held fuel 77 [a4,a5,a6,a7]=some x):∃ x:Qs,[a4,a5,a6,a7]=x.cells∧x.In w:=by
 obtain ⟨ys,m,_,_,_,hyl,hg⟩:=DataW.trod_struct Tryz.underlying77 h
 have c1:Tryz.prog.cellsOf 3=1:=by kernel_rfl
 have c4:Tryz.prog.cellsOf 75=1:=by kernel_rfl
 have g0:DataW.trod enc Tryz.prog w base spare held m 3 [a4]=ys[0]?:=by simpa [c1] using hg 0 _ rfl
 have g1:DataW.trod enc Tryz.prog w base spare held m 3 [a5]=ys[1]?:=by simpa [c1] using hg 1 _ rfl
 have g2:DataW.trod enc Tryz.prog w base spare held m 75 [a6]=ys[2]?:=by simpa [c4] using hg 2 _ rfl
 have g3:DataW.trod enc Tryz.prog w base spare held m 3 [a7]=ys[3]?:=by simpa [c1] using hg 3 _ rfl
 simp at hyl
 obtain ⟨at_,h0,b1⟩:=Wh Tryz.underlying3 (g0.trans (List.getElem?_eq_getElem (by omega)))
 obtain ⟨ns,h1,b2⟩:=Wh Tryz.underlying3 (g1.trans (List.getElem?_eq_getElem (by omega)))
 obtain ⟨vk,ks,h6,hk,_⟩:=VL (ea:=Z4x) (k:=1) (p:=fun _=>True) Tryz.underlying75 (by kernel_rfl) (by omega) (fun _=>rfl) (fun _ _ _ h=>Z7O h) (g2.trans (List.getElem?_eq_getElem (by omega)))
 obtain ⟨tn,h3,b3⟩:=Wh Tryz.underlying3 (g3.trans (List.getElem?_eq_getElem (by omega)))
 obtain ⟨ka,kc,ek,_⟩:=id hk
 simp only[List.cons.injEq,and_true] at h6
 subst h0 h1 h3 h6 ek
 exact ⟨⟨at_,ns,⟨ka,ks.length,kc⟩,tn,ks⟩,rfl,hk,b1,b2,b3⟩
theorem Z4F {fuel:Nat} {cs:List Value} {x:DataW H × List MemPlace} (h:DataW.trod enc Tryz.prog w base spare held fuel 79 cs=some x):∃ y:XB,cs=y.cells∧y.In w:=by
 obtain ⟨xs,n,_,_,hlen,hxl,hf⟩:=DataW.trod_struct Tryz.underlying79 h
 have hc:Tryz.prog.cellsOf 79=7:=by kernel_rfl
 have c1:Tryz.prog.cellsOf 3=1:=by kernel_rfl
 have c2:Tryz.prog.cellsOf 24=1:=by kernel_rfl
 have c3:Tryz.prog.cellsOf 22=1:=by kernel_rfl
 have c5:Tryz.prog.cellsOf 77=4:=by kernel_rfl
 rw[hc] at hlen
 match cs,hlen with
 | [a0,a1,a2,a3,a4,a5,a6],_ =>
  have f0:DataW.trod enc Tryz.prog w base spare held n 3 [a0]=xs[0]?:=by simpa [c1] using hf 0 _ rfl
  have f1:DataW.trod enc Tryz.prog w base spare held n 24 [a1]=xs[1]?:=by simpa [c2] using hf 1 _ rfl
  have f2:DataW.trod enc Tryz.prog w base spare held n 22 [a2]=xs[2]?:=by simpa [c3] using hf 2 _ rfl
  have f3:DataW.trod enc Tryz.prog w base spare held n 77 [a3,a4,a5,a6]=xs[3]?:=by simpa [c5] using hf 3 _ rfl
  simp at hxl
  obtain ⟨kd,h0,_⟩:=Wh Tryz.underlying3 (f0.trans (List.getElem?_eq_getElem (by omega)))
  obtain ⟨vl,ls,h1,hl,hwf⟩:=VL (ea:=OpD.cells) (k:=26) (p:=OpD.wf) Tryz.underlying24 (by kernel_rfl) (by omega) OpD.len (fun _ _ _ h=>Z6U h) (f1.trans (List.getElem?_eq_getElem (by omega)))
  obtain ⟨vb,bs,h2,hb,_⟩:=VL (ea:=u8c) (k:=1) (p:=fun _=>True) Tryz.underlying22 (by kernel_rfl) (by omega) Z7 (fun _ _ _ h=>Z7T h) (f2.trans (List.getElem?_eq_getElem (by omega)))
  obtain ⟨c,h3,hc⟩:=Z6i (f3.trans (List.getElem?_eq_getElem (by omega)))
  obtain ⟨la,lc,el,_⟩:=id hl
  obtain ⟨ba,bc,eb,_⟩:=id hb
  simp only[Qs.cells,List.cons.injEq,and_true] at h1 h2 h3
  obtain ⟨h3,h4,h5,h6⟩:=h3
  subst h0 h1 h2 h3 h4 h5 h6 el eb
  exact ⟨⟨kd,⟨la,ls.length,lc⟩,⟨ba,bs.length,bc⟩,c,ls,bs⟩,rfl,hl,hwf,hb,hc⟩
theorem Z3X {r:Reach} {b0:Nat} {v:Value} {d:DataW H} {p:List MemPlace} (hv:Value.okWide Tryz.prog w r b0 71 v) (h:DataW.Trod enc Tryz.prog w base spare held 71 v d p):∃ l:List XB,Z0 XB.cells 7 w v l∧∀ x∈l,x.In w:=by
 obtain ⟨a0,len0,cap0,rfl⟩:=okWide_slice Tryz.underlying71 hv
 obtain ⟨fuel,hf⟩:=h
 obtain ⟨v',l,hcs,hl,hp⟩:=VL (ea:=XB.cells) (k:=7) (p:=fun x=>XB.In x w) Tryz.underlying71 (by kernel_rfl) (by omega) XB.len (fun _ _ _ h=>Z4F h) hf
 simp[Value.cells] at hcs
 subst hcs
 exact ⟨l,hl,hp⟩
end
end Go.Proofs.YtgmdimbiipemhaaGreatDoor
