/- ViewKinds, part 12 of what the proof leans on (made short by a program). -/
import Derived.Test.YtlgipkemoldckaaGreatDoorVkZ11
set_option linter.unusedSimpArgs false
set_option linter.unusedVariables false
set_option linter.unusedSectionVars false
set_option maxRecDepth 20000
set_option maxHeartbeats 30000000
namespace Go.Proofs.YtlgipkemoldckaaGreatDoor
open Go.RowKit
theorem Su (va vb:Value) (la lb:List Atr) (w:World) (ha:Z5 Atr.cells 2 w va la) (hb:Z5 Atr.cells 2 w vb lb) :
  Calls Tryz.prog 70 #[va,vb] w fun e w'=>e=.returned (.bool (decide (la=lb)))∧Below w.heap.size w w':=by
 obtain ⟨aa,capa,rfl,hca,hma,hcella⟩:=ha
 obtain ⟨ab,capb,rfl,hcb,hmb,hcellb⟩:=hb
 unfold maxLen at hma hmb
 by_cases hl:la.length=lb.length
 ·have HL:=Lib.hid hl
  have hl1:(((la.length:Nat):Int) != ((lb.length:Nat):Int))=false:=by simp[hl]
  clear hl
  go_enter Tryz.func70,Tryz.ntmps70
  go_wp2_with fail
  go_loopg [13] la.length (fun g i wr=>∃ k:Nat,g=la.length - k∧k≤la.length∧i=.int .i64 k∧Hid (∀ j,j<k→la[j]?=lb[j]?)∧Below w.heap.size w wr)
  case atStart=>exact ⟨0,rfl,Nat.zero_le _,rfl,fun j hj=>absurd hj (by omega),Below.refl _ _⟩
  case round =>
   obtain ⟨k,hg,hk,rfl,hpre,hB⟩:=hrel
   by_cases hlt:k<la.length
   ·obtain ⟨x,hx⟩:∃ x,la[k]?=some x:=⟨_,List.getElem?_eq_getElem hlt⟩
    obtain ⟨y,hy⟩:∃ y,lb[k]?=some y:=⟨_,List.getElem?_eq_getElem (by rw[←HL.out];exact hlt)⟩
    obtain ⟨b1,o1,rfl,hc1⟩:=hcella (by intro e;rw[e] at hlt;simp at hlt)
    obtain ⟨b2,o2,rfl,hc2⟩:=hcellb (by intro e;rw[e] at hy;simp at hy)
    have c10:wr.cell? ⟨b1,o1+k*2,none⟩=some (.string x.name):=Z0 hB (hc1 k x hx 0 _ rfl)
    have c11:wr.cell? ⟨b1,o1+k*2+1,none⟩=some (.string x.value):=Z0 hB (hc1 k x hx 1 _ rfl)
    have c20:wr.cell? ⟨b2,o2+k*2,none⟩=some (.string y.name):=Z0 hB (hc2 k y hy 0 _ rfl)
    have c21:wr.cell? ⟨b2,o2+k*2+1,none⟩=some (.string y.value):=Z0 hB (hc2 k y hy 1 _ rfl)
    have hlt2:k<lb.length:=(List.getElem?_eq_some_iff.1 hy).1
    have HX:=Lib.hid hx
    have HY:=Lib.hid hy
    have HG:=Lib.hid hg
    clear hx hy hg hcella hcellb hc1 hc2
    by_cases hxy:x=y
    ·subst hxy
     go_wp2_with fail
     go_region_held3 (fun W=>W.cell? ⟨b1,o1+k*2,none⟩=some (.string x.name)∧W.cell? ⟨b1,o1+k*2+1,none⟩=some (.string x.value)∧W.cell? ⟨b2,o2+k*2,none⟩=some (.string x.name)∧W.cell? ⟨b2,o2+k*2+1,none⟩=some (.string x.value)) (exact ⟨c10,c11,c20,c21⟩) (fail)
     go_wp2_with fail
     go_roundg (la.length - (k+1))
     case measure=>rw[HG.out];omega
     case rel =>
      refine ⟨k+1,rfl,hlt,by go_num,fun j hj=>?_,hB.drew⟩
      by_cases hjk:j<k
      ·exact hpre.out j hjk
      ·have:j=k:=by omega
       subst this
       rw[HX.out,HY.out]
    ·have hres:decide (la=lb)=false:=by
      rw[decide_eq_false_iff_not]
      intro e
      rw[e,HY.out] at HX
      exact hxy (Option.some.inj HX.out).symm
     have HR:=Lib.hid hres
     clear hres
     by_cases h1:x.name.toList=y.name.toList
     ·have h2:¬ x.value.toList=y.value.toList:=fun h2=>hxy (by
       obtain ⟨xn,xv⟩:=x
       obtain ⟨yn,yv⟩:=y
       have e1:=(ZO _ _).1 h1
       have e2:=(ZO _ _).1 h2
       simp only at e1 e2
       rw[e1,e2])
      go_wp2_with fail
      go_region_held3 (fun W=>W.cell? ⟨b1,o1+k*2,none⟩=some (.string x.name)∧W.cell? ⟨b1,o1+k*2+1,none⟩=some (.string x.value)∧W.cell? ⟨b2,o2+k*2,none⟩=some (.string y.name)∧W.cell? ⟨b2,o2+k*2+1,none⟩=some (.string y.value)) (exact ⟨c10,c11,c20,c21⟩) (fail)
      go_wp2_with fail
      go_ret
      exact ⟨by rw[HR.out];rfl,hB.drew⟩
     ·go_wp2_with fail
      go_region_held3 (fun W=>W.cell? ⟨b1,o1+k*2,none⟩=some (.string x.name)∧W.cell? ⟨b1,o1+k*2+1,none⟩=some (.string x.value)∧W.cell? ⟨b2,o2+k*2,none⟩=some (.string y.name)∧W.cell? ⟨b2,o2+k*2+1,none⟩=some (.string y.value)) (exact ⟨c10,c11,c20,c21⟩) (fail)
      go_wp2_with fail
      go_ret
      exact ⟨by rw[HR.out];rfl,hB.drew⟩
   ·have hres:decide (la=lb)=true:=by
     rw[decide_eq_true_eq]
     exact Qb HL.out hpre.out (by omega)
    have HR:=Lib.hid hres
    clear hres
    go_wp2_with fail
    go_ret
    exact ⟨by rw[HR.out];rfl,hB⟩
 ·have hres:decide (la=lb)=false:=by
   rw[decide_eq_false_iff_not]
   intro e
   exact hl (by rw[e])
  rw[hres]
  clear hres
  have hl1:(((la.length:Nat):Int) != ((lb.length:Nat):Int))=true:=by simp;omega
  go_enter Tryz.func70,Tryz.ntmps70
  go_wp2_with fail
  go_ret
  exact ⟨rfl,Below.refl _ _⟩
end Go.Proofs.YtlgipkemoldckaaGreatDoor
namespace Go.Proofs.YtlgipkemoldckaaGreatDoor
open Go.RowKit Go.Sort Go.Shelf
def Z3S (l:List El) (ms:List OpD) (F:List Zb) (f:Nat) (t:Int) (v:Value) (w:World) (n:Nat) (out:Value) (wr:World):Prop :=
 Hid (Xb (w.heap.size+1) wr out (Xh l ms f n))∧Hid (Own Zb.cells 28 183 (w.heap.size+1) wr v F)∧wr.cell? ⟨w.heap.size,3,none⟩=some (.int .i64 t)∧Below w.heap.size w wr∧w.heap.size+1≤wr.heap.size
noncomputable def Yb (l:List El) (ms:List OpD) (fi ti:Int):Pcs:=if fi<0∨ti<fi∨(l.length:Int)<ti then [] else Xh l ms fi.toNat (ti.toNat - fi.toNat)
theorem Z2Y {base:Nat} {w:World} {g n cap:Nat} {Q:List Pc} {x:Pc} (h:Own Pc.cells 2 75 base w (.slice (some ⟨g,0,none⟩) n cap) (Q++[x])) (t:ByteArray) :
  Own Pc.cells 2 75 base (w.setCell ⟨g,Q.length*2,none⟩ (.string t)) (.slice (some ⟨g,0,none⟩) n cap) (Q++[⟨t,x.s⟩]):=by
 have hn:n=(Q++[x]).length:=by
  obtain ⟨va,vc,hv,_⟩:=h.slice Pc.len
  cases hv
  rfl
 subst hn
 have h1:=(World.ownsRow.stored h (Q.length*2) (.string t)).1
 unfold Own
 have e:((Q++[x]).flatMap Pc.cells).set (Q.length*2) (.string t)=(Q++[(⟨t,x.s⟩:Pc)]).flatMap Pc.cells:=by
  have hl:=Y5 Pc.len Q
  rw[List.flatMap_append,List.flatMap_append,List.set_append_right _ _ (by omega),hl,Nat.sub_self]
  rfl
 have hl2:(Q++[(⟨t,x.s⟩:Pc)]).length=(Q++[x]).length:=by simp
 rw[←e,hl2]
 exact h1
theorem Xp {base:Nat} {w:World} {g n cap:Nat} {Q:List Pc} {x:Pc} (h:Own Pc.cells 2 75 base w (.slice (some ⟨g,0,none⟩) n cap) (Q++[x])) :
  n=Q.length+1∧n≤cap∧cap≤maxLen∧g<w.heap.size∧base≤g∧w.cell? ⟨g,Q.length*2,none⟩=some (.string x.t)∧w.cell? ⟨g,Q.length*2+1,none⟩=some (.slice x.s.a x.s.n x.s.cap)∧w.frozen? ⟨g,Q.length*2,none⟩=false:=by
 have hb:=h.blk g rfl
 obtain ⟨va,vc,hv,h2,h3,h4⟩:=h.slice Pc.len
 cases hv
 obtain ⟨b,o,he,hc⟩:=h4 (by simp)
 cases he
 have c1:=hc Q.length x (by simp) 0 _ rfl
 have c2:=hc Q.length x (by simp) 1 _ rfl
 rw[Nat.zero_add] at c1 c2
 refine ⟨by simp,h2,h3,hb.2,hb.1,c1,c2,World.ownsRow.frozenAt h _⟩
theorem Vf {α:Type} (l:List α):l=[]∨∃ q x,l=q++[x]:=by
 rcases List.eq_nil_or_concat l with h|⟨q,x,h⟩
 ·exact .inl h
 ·exact .inr ⟨q,x,by rw[h,List.concat_eq_append]⟩
theorem Wx {base g cap nn:Nat} {w3:World} {q1:List Pc} {s:Sl} {u1 t':ByteArray} {q2:Pcs} {al:List Atr} (hown:Own Pc.cells 2 75 base w3 (.slice (some ⟨g,0,none⟩) nn cap) (q1++[⟨u1,s⟩])) (hl:q1.length=q2.length)
  (hE:∀ (j:Nat) (y:Pc),(q1++[(⟨u1,s⟩:Pc)])[j]?=some y→∃ al',(q2++[(u1,al)])[j]?=some (y.t,al')∧Own Atr.cells 2 73 base w3 y.s.val al') (o:Obj) :
  Xb base (((w3.setCell ⟨g,q1.length*2,none⟩ (.string t')).alloc o).drew) (.slice (some ⟨g,0,none⟩) nn cap) (q2++[(t',al)]):=by
 have hx4:Ext (·=g) w3 (w3.setCell ⟨g,q1.length*2,none⟩ (.string t')):=(Ext.refl (·=g) w3).setCell (p:=⟨g,q1.length*2,none⟩) (.inr rfl) _
 have hk:∀ {v:Value} {q:List Atr},Own Atr.cells 2 73 base w3 v q→Own Atr.cells 2 73 base (((w3.setCell ⟨g,q1.length*2,none⟩ (.string t')).alloc o).drew) v q:=fun h=>((h.ext hx4 (fun b hb e=>h.apart hown (by decide) b hb (by rw[e];rfl))).alloc o).drew
 refine ⟨q1++[⟨t',s⟩],((Z2Y hown t').alloc o).drew,by simp[hl],fun j y hj=>?_⟩
 by_cases hjv:j<q1.length
 ·rw[List.getElem?_append_left hjv] at hj
  obtain ⟨al',h1,h2⟩:=hE j y (by rw[List.getElem?_append_left hjv];exact hj)
  rw[List.getElem?_append_left (by omega)] at h1
  exact ⟨al',by rw[List.getElem?_append_left (by omega)];exact h1,hk h2⟩
 ·have hj2:j=q1.length:=by
   have:=(List.getElem?_eq_some_iff.1 hj).1
   simp at this
   omega
  subst hj2
  simp at hj
  subst hj
  obtain ⟨al',h1,h2⟩:=hE q1.length ⟨u1,s⟩ (by simp)
  rw[hl] at h1
  simp at h1
  subst h1
  exact ⟨al,by rw[hl];simp,hk h2⟩
theorem S5 (va vb:Option Addr) (ca cb:Nat) (l:List El) (ms:List OpD) (sn sr fi ti:Int) (w:World) (hl:Z5 El.cells 4 w (.slice va l.length ca) l) (hm:Z5 OpD.cells 26 w (.slice vb ms.length cb) ms) (hln:l.length≤1000) (hmn:ms.length≤1000) :
  Calls Tryz.prog 47 #[.slice va l.length ca,.agg #[.int .i64 sn,.int .i64 sr,.int .i64 fi,.int .i64 ti],.slice vb ms.length cb] w fun e w'=>∃ u,e=.returned u∧Hid (Xb w.heap.size w' u (Yb l ms fi ti))∧Below w.heap.size w w':=by
 obtain ⟨i0,hi,hz0,hz1',hz2⟩:=info_parts TJ
 obtain ⟨_,_,e0,hcap,hmax,hcs⟩:=id hl
 cases e0
 have HC:=Lib.hid hcs
 have hB0:Below w.heap.size w (w.alloc (.cells #[.int .i64 sn,.int .i64 sr,.int .i64 fi,.int .i64 ti] 109)):=(Below.refl _ _).alloc (Nat.le_refl _) _
 have hl0:=hl.below hB0
 have hm0:=hm.below hB0
 have d2:(w.alloc (.cells #[.int .i64 sn,.int .i64 sr,.int .i64 fi,.int .i64 ti] 109)).cell? ⟨w.heap.size,2,none⟩=some (.int .i64 fi):=by go_simp
 have d3:(w.alloc (.cells #[.int .i64 sn,.int .i64 sr,.int .i64 fi,.int .i64 ti] 109)).cell? ⟨w.heap.size,3,none⟩=some (.int .i64 ti):=by go_simp
 have hz:(w.alloc (.cells #[.int .i64 sn,.int .i64 sr,.int .i64 fi,.int .i64 ti] 109)).heap.size=w.heap.size+1:=by simp
 clear hcs hl hm
 by_cases hbad:fi<0∨ti<fi∨(l.length:Int)<ti
 ·have HR:Hid (∀ W,Xb w.heap.size W (.slice none 0 0) (Yb l ms fi ti)):=Jh (fun W=>by
   rw[Yb,if_pos hbad]
   exact ⟨[],Own.nil,rfl,by simp⟩)
  by_cases h1:fi<0
  ·clear hbad
   go_enter Tryz.func47,Tryz.ntmps47
   go_wp2_with fail
   go_ret
   exact ⟨_,rfl,Jh (HR.out _),hB0⟩
  ·by_cases h2:ti<fi
   ·clear hbad
    go_enter Tryz.func47,Tryz.ntmps47
    go_wp2_with fail
    go_ret
    exact ⟨_,rfl,Jh (HR.out _),hB0⟩
   ·have h3:(l.length:Int)<ti:=by omega
    clear hbad
    go_enter Tryz.func47,Tryz.ntmps47
    go_wp2_with fail
    go_ret
    exact ⟨_,rfl,Jh (HR.out _),hB0⟩
 ·obtain ⟨f,rfl⟩:∃ f:Nat,fi=(f:Int):=⟨fi.toNat,by omega⟩
  obtain ⟨N,rfl⟩:∃ N:Nat,ti=(f:Int)+(N:Int):=⟨(ti - f).toNat,by omega⟩
  have HR:Hid (Yb l ms f ((f:Int)+(N:Int))=Xh l ms f N):=Jh (by
   rw[Yb,if_neg hbad]
   have e1:((f:Int)+(N:Int)).toNat - (f:Int).toNat=N:=by omega
   rw[e1,Int.toNat_natCast])
  have hfN:f+N≤l.length:=by omega
  have i1:¬ (f:Int)<0:=by omega
  have i2:¬ (f:Int)+(N:Int)<(f:Int):=by omega
  have i3:¬ (l.length:Int)<(f:Int)+(N:Int):=by omega
  have i4:¬ (N:Int)<0:=by omega
  clear hbad
  obtain ⟨W0,hW0⟩:=Je (w.alloc (.cells #[.int .i64 sn,.int .i64 sr,.int .i64 f,.int .i64 ((f:Int)+(N:Int))] 109))
  rw[hW0] at hB0 hl0 hm0 d2 d3 hz
  have HW0:=Lib.hid hW0
  clear hW0
  go_enter Tryz.func47,Tryz.ntmps47
  go_upto_region 1 with fail
  rw[HW0.out]
  go_wp2_with fail
  refine (Z1w va vb ca cb l ms W0 hl0 hm0 hln hmn).mono ?_
  rintro e w1 ⟨v,F,rfl,hFo,hF,hb1⟩
  have hFn:F.length≤1000:=by
   have h1:=VR (Zy (Ze l)) (Ze ms)
   rw[XB] at h1
   have:=hF.perm.length_eq
   omega
  have HF:=Lib.hid hF
  have hB1:=hB0.trans (hb1.mono hB0.size)
  have e2:=Z0 hb1 d2
  have e3:=Z0 hb1 d3
  have hs1:=hb1.size
  rw[hz] at hs1
  rw[hz] at hFo
  clear hF hb1 hB0 hl0 hm0 d2 d3
  go_wp2_with fail
  go_loopg [8,9] N (fun g out iv wr=>∃ n:Nat,g=N - n∧n≤N∧iv=.int .i64 ((f:Int)+(n:Int))∧Z3S l ms F f ((f:Int)+(N:Int)) v w n out wr)
  case atStart=>exact ⟨0,by omega,by omega,by simp,Lib.hid ⟨[],Own.nil,rfl,by simp⟩,Lib.hid hFo,e3,hB1,hs1⟩
  case round =>
   clear e2 e3 hB1 hs1 hFo
   obtain ⟨n,hg,hn,rfl,hP,hFo,e3,hB,hs⟩:=hrel
   have HG:=Lib.hid hg
   have HB:=Lib.hid hB
   by_cases hnN:n<N
   ·obtain ⟨x,hx⟩:∃ x,l[f+n]?=some x:=⟨_,List.getElem?_eq_getElem (by omega)⟩
    obtain ⟨b,o,rfl,hcc⟩:=HC.out (by intro e;rw[e] at hx;simp at hx)
    have hkp:∀ {b o u},w.cell? ⟨b,o,none⟩=some u→wr.cell? ⟨b,o,none⟩=some u:=fun h=>(World.cell?_of_block (w:=w) (hB.block _ (Zj h))).trans h
    have x2:wr.cell? ⟨b,o+(f+n)*4+2,none⟩=some (.int .i64 x.ch):=hkp (hcc (f+n) x hx 2 _ rfl)
    have x3:wr.cell? ⟨b,o+(f+n)*4+3,none⟩=some (.bool x.gone):=hkp (hcc (f+n) x hx 3 _ rfl)
    have hbw:b<w.heap.size:=Zj (hcc (f+n) x hx 2 _ rfl)
    have j1:(f:Int)+(n:Int)<(f:Int)+(N:Int):=by omega
    have j2:(f:Int)+(n:Int)<(l.length:Int):=by omega
    have j3:(0:Int)≤(f:Int)+(n:Int):=by omega
    have j4:((f:Int)+(n:Int)).toNat=f+n:=by omega
    have HS:=Jh (SG (ms:=ms) hx)
    clear hcc hkp hg hB hx
    by_cases hsk:x.ch=0∨x.gone=true
    ·have HSK:=Jh (Th (al:=VM l ms (f+n)) (P:=Xh l ms f n) hsk)
     by_cases hc0:x.ch=0
     ·rw[hc0] at x2
      clear hsk
      go_wp2_with fail
      go_roundg (N - (n+1))
      case measure=>rw[HG.out];omega
      case rel=>exact ⟨n+1,rfl,by omega,by simp;omega,Jh (by rw[HS.out,HSK.out];exact hP.out),hFo,e3,HB.out,hs⟩
     ·have hgn:x.gone=true:=hsk.resolve_left hc0
      rw[hgn] at x3
      clear hsk
      go_wp2_with fail
      go_roundg (N - (n+1))
      case measure=>rw[HG.out];omega
      case rel=>exact ⟨n+1,rfl,by omega,by simp;omega,Jh (by rw[HS.out,HSK.out];exact hP.out),hFo,e3,HB.out,hs⟩
    ·have hc0:¬ x.ch=0:=fun e=>hsk (.inl e)
     have hgn:x.gone=false:=by
      cases h:x.gone with
      | false=>rfl
      | true=>exact absurd (.inr h) hsk
     rw[hgn] at x3
     have HK:=Lib.hid hsk
     clear hsk
     go_wp2_with fail
     have hhas:=Z3f v F ((f+n:Nat):Int) wr (hFo.out.slice Zb.len) hFn
     rw[Int.natCast_add] at hhas
     refine hhas.mono ?_
     rintro e w2 ⟨u2,al,rfl,hA1,hA2,hA3,hb2⟩
     have hal:VM l ms (f+n)=al:=Rh (QR HF.out ⟨by rw[Int.natCast_add];exact hA2,hA3⟩ (Z0P F _))
     have HAL:=Lib.hid hal
     have hB2:=HB.out.trans (hb2.mono HB.out.size)
     have hA4:=hA1.mono hs
     have y2:=Z0 hb2 x2
     have e4:=Z0 hb2 e3
     have hFo2:=hFo.out.ext (Ext.of_below (S:=fun _=>False) hb2) (fun _ _ h=>h)
     have hs2:w.heap.size+1≤w2.heap.size:=Nat.le_trans hs hb2.size
     obtain ⟨vs,hO,hvl,hE⟩:=hP.out.ext hb2
     have hple:=Sp l ms f n
     have HSZ:=Jh (UB l ms f n)
     obtain ⟨sl,rfl⟩:=hA1.sl
     have HE:=Lib.hid hE
     have HFo2:=Lib.hid hFo2
     have HB2:=Lib.hid hB2
     have HA4:=Lib.hid hA4
     clear hal hA1 hA2 hA3 hA4 hb2 hhas x2 x3 hP hFo e3 hs HB hE hFo2 hB2
     generalize Xh l ms f n=P at *
     rcases Vf P with rfl|⟨Q,⟨t0,bl⟩,rfl⟩
     ·obtain rfl:vs=[]:=List.eq_nil_of_length_eq_zero (by simpa using hvl)
      obtain ⟨a8,c8,rfl,hc8,hm8,_⟩:=hO.slice Pc.len
      simp only[List.length_nil] at hO hc8 ⊢
      go_upto_region 13 with (at_builtin;refine Zq rfl _ _ _ rfl i0 (.agg #[.string ⟨#[]⟩,.slice none 0 0]) 40 Tryz.underlying25 hi hz0 hz1' hz2 rfl (by omega) Pc.len Pc.one rfl (hO.alloc _) ⟨⟨#[]⟩,sl⟩ w2.heap.size 1 rfl ?_ (by unfold maxLen;omega) (by omega) (by simp;omega) ?_)
      ·intro j u hj
       match j,hj with
       | 0,hj=>simp[Pc.cells] at hj;subst hj;go_simp
       | 1,hj=>simp[Pc.cells] at hj;subst hj;go_simp
       | n+2,hj=>simp[Pc.cells] at hj
      ·intro v' w3 hown hx3
       have hdis:∀ {k:Nat} {α:Type} {ea:α→List Value} {e:TypeId} {v:Value} {q:List α},Own ea k e (w.heap.size+1) w2 v q→e≠75→Own ea k e (w.heap.size+1) w3 v q:=fun h he=>(h.alloc _).ext hx3 (h.apart hO he)
       have hne:∀ b,Value.ownBlock (Value.slice a8 0 c8)=some b→w.heap.size+1≤b:=fun b hb=>(hO.blk b hb).1
       have HB3:=Jh (Ext.new (HB2.out.alloc (by omega) _) hx3 (fun i hi _ e=>by have:=hne _ e;omega) (by simp;omega))
       have e5:=hx3.keep (Z1 e4 _) (fun e=>by have:=hne _ e;omega)
       have y3:=hx3.keep (Z1 y2 _) (fun e=>by have:=hne _ e;omega)
       have hs3:w.heap.size+1≤w3.heap.size:=by have:=hx3.size;simp at this;omega
       have HFo3:=Jh (hdis HFo2.out (by decide))
       obtain ⟨g,cap,nn,rfl⟩:∃ g c nn,v'=.slice (some ⟨g,0,none⟩) nn c:=by
        rcases hown.eq_slice with ⟨_,h⟩|⟨g,c,h,_⟩
        ·simp at h
        ·exact ⟨g,c,_,h⟩
       replace hown:Own Pc.cells 2 75 (w.heap.size+1) w3 (.slice (some ⟨g,0,none⟩) nn cap) (([]:List Pc)++[⟨⟨#[]⟩,sl⟩]):=by first|exact hown|(rw[List.append_assoc];exact hown)|simpa using hown
       have HE3:Hid (∀ (j:Nat) (y:Pc),(([]:List Pc)++[(⟨⟨#[]⟩,sl⟩:Pc)])[j]?=some y→∃ al',(([]:Pcs)++[((⟨#[]⟩:ByteArray),al)])[j]?=some (y.t,al')∧Own Atr.cells 2 73 (w.heap.size+1) w3 y.s.val al'):=Jh (fun j y hj=>by
        by_cases hjv:j<List.length ([]:List Pc)
        ·rw[List.getElem?_append_left hjv] at hj
         rw[List.getElem?_append_left (by rw[←hvl];exact hjv)]
         obtain ⟨al',h1,h2⟩:=HE.out j y hj
         exact ⟨al',h1,hdis h2 (by decide)⟩
        ·have hj2:j=List.length ([]:List Pc):=by
          have:=(List.getElem?_eq_some_iff.1 hj).1
          rw[List.length_append] at this
          have e1:List.length [(⟨⟨#[]⟩,sl⟩:Pc)]=1:=rfl
          rw[e1] at this
          omega
         subst hj2
         simp at hj
         subst hj
         rw[hvl]
         exact ⟨al,by simp,hdis HA4.out (by decide)⟩)
       clear hx3 hdis hne hO e4 y2 hs2 HB2 HA4 HFo2 HE
       have HT0:Hid (ByteArray.size (⟨#[]⟩:ByteArray)≤1000):=Jh (by decide)
       have HLQ:Hid (List.length (α:=Pc) []=List.length (α:=ByteArray × List Atr) []):=Lib.hid rfl
       obtain ⟨k1,k2,k3,k4,k5,k6,k7,k8⟩:=Xp (Q:=[]) (x:=⟨⟨#[]⟩,sl⟩) hown
       obtain ⟨m,hmq⟩:∃ m,List.length (α:=Pc) []=m:=⟨_,rfl⟩
       have hmb:List.length (α:=Pc) []≤1000:=by first|omega|(simp at hvl;simp;omega)|simp
       rw[hmq] at k1 k6 k7 k8 hmb
       first|subst k1|(obtain rfl:m=m0:=by omega)
       simp only at k6
       have HMQ:=Lib.hid hmq
       clear hmq
       have hbw3:b<w3.heap.size:=by have:=HB3.out.size;omega
       have HST:Hid (YP x al ([])=([]:Pcs)++[((⟨#[]⟩:ByteArray)++chB x.ch,al)]):=Jh (by rw[UU HK.out,TU];rfl)
       have hsum:∀ W,(Op.stringOp .add ((⟨#[]⟩:ByteArray)) (chB x.ch)).run Tryz.prog W=.ok (.string (((⟨#[]⟩:ByteArray))++chB x.ch)) W:=fun W=>run_string_add_sum W _ _ (by have e1:(chB x.ch).size=1:=rfl;have e2:=HT0.out;omega)
       have hcv:∀ W,W.cell? ⟨w3.heap.size,0,none⟩=some (.int .u8 (x.ch % 256))→(convert 64 9 (.slice (some ⟨w3.heap.size,0,none⟩) 1 1)).run Tryz.prog W=.ok (.string (chB x.ch)) W:=fun W h=>Vm W _ _ h
       go_upto_region 13 with fail
       go_region
       have hcl:=Wx (t':=((⟨#[]⟩:ByteArray))++chB x.ch) (q1:=[]) (q2:=([]:Pcs)) hown HLQ.out HE3.out (.cells #[.int .u8 (x.ch % 256)] 5)
       rw[HMQ.out] at hcl
       have HCL:=Lib.hid hcl
       have hx4:Ext (·=g) w3 ((w3.setCell ⟨g,m*2,none⟩ (.string (((⟨#[]⟩:ByteArray))++chB x.ch))).alloc (.cells #[.int .u8 (x.ch % 256)] 5)).drew:=(((Ext.refl (·=g) w3).setCell (p:=⟨g,m*2,none⟩) (.inr rfl) _).alloc _).drew
       have hz4:=hx4.size
       have hFo4:=Jh (HFo3.out.ext hx4 (fun b hb e=>HFo3.out.apart hown (by decide) b hb (by rw[e];rfl)))
       clear hcl hown k6 k7 k8 hsum hcv y3 HE3
       go_wp2_with fail
       go_roundg (N - (n+1))
       case measure=>rw[HG.out];omega
       case rel=>exact ⟨n+1,rfl,by omega,by simp;omega,Jh (by rw[HS.out,HAL.out,HST.out];exact HCL.out),hFo4,hx4.keep e5 (by omega),Ext.new HB3.out hx4 (fun i hi _ e=>by omega) (by omega),by omega⟩
     ·obtain ⟨vq,⟨pt,ps⟩,rfl⟩:∃ vq pc,vs=vq++[pc]:=by
       rcases Vf vs with rfl|h
       ·simp at hvl
       ·exact h
      have hvq:vq.length=Q.length:=by simpa using hvl
      obtain ⟨bl',hb1,hb2⟩:=HE.out vq.length ⟨pt,ps⟩ (by simp)
      rw[hvq] at hb1
      simp at hb1
      obtain ⟨rfl,rfl⟩:=hb1
      have HT1:Hid (ByteArray.size t0≤1000):=Jh (by have:=HSZ.out (t0,bl) (by simp);simp only at this;omega)
      obtain ⟨g0,c0,n0,rfl⟩:∃ g c nn,u8=.slice (some ⟨g,0,none⟩) nn c:=by
       rcases hO.eq_slice with ⟨_,h⟩|⟨g,c,h,_⟩
       ·simp at h
       ·exact ⟨g,c,_,h⟩
      obtain ⟨p1,p2,p3,p4,p5,p6,p7,p8⟩:=Xp hO
      obtain ⟨m0,hm0⟩:∃ m,vq.length=m:=⟨_,rfl⟩
      have hmb0:m0≤1000:=by simp at hple;omega
      rw[hm0] at p1 p6 p7 p8
      subst p1
      simp only at p6 p7
      have HM0:=Lib.hid hm0
      clear hm0
      have hbs:=hb2.slice (fun _=>rfl)
      have hAs:=HA4.out.slice (fun _=>rfl)
      simp only[Sl.val] at hbs hAs
      by_cases hbe:bl=al
      ·subst hbe
       go_wp2_with fail
       refine (Su _ _ bl _ w2 hbs hAs).mono ?_
       rintro e w3 ⟨rfl,hb5⟩
       rw[decide_eq_true rfl]
       have hx5:Ext (fun _=>False) w2 w3:=Ext.of_below hb5
       have hown:=hO.ext hx5 (fun _ _ f=>f)
       have HE3:Hid (∀ (j:Nat) (y:Pc),(vq++[(⟨t0,ps⟩:Pc)])[j]?=some y→∃ al',(Q++[(t0,bl)])[j]?=some (y.t,al')∧Own Atr.cells 2 73 (w.heap.size+1) w3 y.s.val al'):=Jh (fun j y hj=>by
        obtain ⟨al',h1,h2⟩:=HE.out j y hj
        exact ⟨al',h1,h2.ext hx5 (fun _ _ f=>f)⟩)
       have HFo3:=Jh (HFo2.out.ext hx5 (fun _ _ f=>f))
       have e5:=Z0 hb5 e4
       have y3:=Z0 hb5 y2
       have HB3:=Jh (HB2.out.trans (hb5.mono HB2.out.size))
       have hs3:w.heap.size+1≤w3.heap.size:=Nat.le_trans hs2 hb5.size
       have HT0:=HT1
       have HLQ:=Lib.hid hvq
       clear hx5 hb5 hO HE e4 y2 hs2 HB2 hbs hAs hb2 HA4 p6 p7 p8 p4
       obtain ⟨k1,k2,k3,k4,k5,k6,k7,k8⟩:=Xp (Q:=vq) (x:=⟨t0,ps⟩) hown
       obtain ⟨m,hmq⟩:∃ m,List.length (α:=Pc) vq=m:=⟨_,rfl⟩
       have hmb:List.length (α:=Pc) vq≤1000:=by first|omega|(simp at hvl;simp;omega)|simp
       rw[hmq] at k1 k6 k7 k8 hmb
       first|subst k1|(obtain rfl:m=m0:=by omega)
       simp only at k6
       have HMQ:=Lib.hid hmq
       clear hmq
       have hbw3:b<w3.heap.size:=by have:=HB3.out.size;omega
       have HST:Hid (YP x bl (Q++[(t0,bl)])=Q++[(t0++chB x.ch,bl)]):=Jh (Tn HK.out)
       have hsum:∀ W,(Op.stringOp .add (t0) (chB x.ch)).run Tryz.prog W=.ok (.string ((t0)++chB x.ch)) W:=fun W=>run_string_add_sum W _ _ (by have e1:(chB x.ch).size=1:=rfl;have e2:=HT0.out;omega)
       have hcv:∀ W,W.cell? ⟨w3.heap.size,0,none⟩=some (.int .u8 (x.ch % 256))→(convert 64 9 (.slice (some ⟨w3.heap.size,0,none⟩) 1 1)).run Tryz.prog W=.ok (.string (chB x.ch)) W:=fun W h=>Vm W _ _ h
       go_upto_region 13 with fail
       go_region
       have hcl:=Wx (t':=(t0)++chB x.ch) (q1:=vq) (q2:=Q) hown HLQ.out HE3.out (.cells #[.int .u8 (x.ch % 256)] 5)
       rw[HMQ.out] at hcl
       have HCL:=Lib.hid hcl
       have hx4:Ext (·=g0) w3 ((w3.setCell ⟨g0,m*2,none⟩ (.string ((t0)++chB x.ch))).alloc (.cells #[.int .u8 (x.ch % 256)] 5)).drew:=(((Ext.refl (·=g0) w3).setCell (p:=⟨g0,m*2,none⟩) (.inr rfl) _).alloc _).drew
       have hz4:=hx4.size
       have hFo4:=Jh (HFo3.out.ext hx4 (fun b hb e=>HFo3.out.apart hown (by decide) b hb (by rw[e];rfl)))
       clear hcl hown k6 k7 k8 hsum hcv y3 HE3
       go_wp2_with fail
       go_roundg (N - (n+1))
       case measure=>rw[HG.out];omega
       case rel=>exact ⟨n+1,rfl,by omega,by simp;omega,Jh (by rw[HS.out,HAL.out,HST.out];exact HCL.out),hFo4,hx4.keep e5 (by omega),Ext.new HB3.out hx4 (fun i hi _ e=>by omega) (by omega),by omega⟩
      ·go_wp2_with fail
       refine (Su _ _ bl _ w2 hbs hAs).mono ?_
       rintro e w5 ⟨rfl,hb5⟩
       rw[decide_eq_false hbe]
       have hx5:Ext (fun _=>False) w2 w5:=Ext.of_below hb5
       replace hO:=hO.ext hx5 (fun _ _ f=>f)
       have HE':Hid (∀ (j:Nat) (y:Pc),(vq++[(⟨t0,ps⟩:Pc)])[j]?=some y→∃ al',(Q++[(t0,bl)])[j]?=some (y.t,al')∧Own Atr.cells 2 73 (w.heap.size+1) w5 y.s.val al'):=Jh (fun j y hj=>by
        obtain ⟨al',h1,h2⟩:=HE.out j y hj
        exact ⟨al',h1,h2.ext hx5 (fun _ _ f=>f)⟩)
       replace HE:=HE'
       replace HA4:=Jh (HA4.out.ext hx5 (fun _ _ f=>f))
       replace HFo2:=Jh (HFo2.out.ext hx5 (fun _ _ f=>f))
       replace e4:=Z0 hb5 e4
       replace y2:=Z0 hb5 y2
       replace HB2:=Jh (HB2.out.trans (hb5.mono HB2.out.size))
       replace hs2:w.heap.size+1≤w5.heap.size:=Nat.le_trans hs2 hb5.size
       have hvs8:(vq++[(⟨t0,ps⟩:Pc)]).length≤1000:=by rw[hvl];omega
       clear hx5 hb5 HE' hbs hAs hb2 p6 p7 p8 p4
       go_upto_region 13 with (at_builtin;refine Zq rfl _ _ _ rfl i0 (.agg #[.string ⟨#[]⟩,.slice none 0 0]) 40 Tryz.underlying25 hi hz0 hz1' hz2 rfl (by omega) Pc.len Pc.one rfl (hO.alloc _) ⟨⟨#[]⟩,sl⟩ w5.heap.size 1 rfl ?_ (by unfold maxLen;omega) (by omega) (by simp;omega) ?_)
       ·intro j u hj
        match j,hj with
        | 0,hj=>simp[Pc.cells] at hj;subst hj;go_simp
        | 1,hj=>simp[Pc.cells] at hj;subst hj;go_simp
        | n+2,hj=>simp[Pc.cells] at hj
       ·intro v' w3 hown hx3
        have hdis:∀ {k:Nat} {α:Type} {ea:α→List Value} {e:TypeId} {v:Value} {q:List α},Own ea k e (w.heap.size+1) w5 v q→e≠75→Own ea k e (w.heap.size+1) w3 v q:=fun h he=>(h.alloc _).ext hx3 (h.apart hO he)
        have hne:∀ b,Value.ownBlock (Value.slice (some ⟨g0,0,none⟩) (m0+1) c0)=some b→w.heap.size+1≤b:=fun b hb=>(hO.blk b hb).1
        have HB3:=Jh (Ext.new (HB2.out.alloc (by omega) _) hx3 (fun i hi _ e=>by have:=hne _ e;omega) (by simp;omega))
        have e5:=hx3.keep (Z1 e4 _) (fun e=>by have:=hne _ e;omega)
        have y3:=hx3.keep (Z1 y2 _) (fun e=>by have:=hne _ e;omega)
        have hs3:w.heap.size+1≤w3.heap.size:=by have:=hx3.size;simp at this;omega
        have HFo3:=Jh (hdis HFo2.out (by decide))
        obtain ⟨g,cap,nn,rfl⟩:∃ g c nn,v'=.slice (some ⟨g,0,none⟩) nn c:=by
         rcases hown.eq_slice with ⟨_,h⟩|⟨g,c,h,_⟩
         ·simp at h
         ·exact ⟨g,c,_,h⟩
        replace hown:Own Pc.cells 2 75 (w.heap.size+1) w3 (.slice (some ⟨g,0,none⟩) nn cap) ((vq++[(⟨t0,ps⟩:Pc)])++[⟨⟨#[]⟩,sl⟩]):=by first|exact hown|(rw[List.append_assoc];exact hown)|simpa using hown
        have HE3:Hid (∀ (j:Nat) (y:Pc),((vq++[(⟨t0,ps⟩:Pc)])++[(⟨⟨#[]⟩,sl⟩:Pc)])[j]?=some y→∃ al',((Q++[(t0,bl)])++[((⟨#[]⟩:ByteArray),al)])[j]?=some (y.t,al')∧Own Atr.cells 2 73 (w.heap.size+1) w3 y.s.val al'):=Jh (fun j y hj=>by
         by_cases hjv:j<List.length (vq++[(⟨t0,ps⟩:Pc)])
         ·rw[List.getElem?_append_left hjv] at hj
          rw[List.getElem?_append_left (by rw[←hvl];exact hjv)]
          obtain ⟨al',h1,h2⟩:=HE.out j y hj
          exact ⟨al',h1,hdis h2 (by decide)⟩
         ·have hj2:j=List.length (vq++[(⟨t0,ps⟩:Pc)]):=by
           have:=(List.getElem?_eq_some_iff.1 hj).1
           rw[List.length_append] at this
           have e1:List.length [(⟨⟨#[]⟩,sl⟩:Pc)]=1:=rfl
           rw[e1] at this
           omega
          subst hj2
          simp at hj
          subst hj
          rw[hvl]
          exact ⟨al,by simp,hdis HA4.out (by decide)⟩)
        clear hx3 hdis hne hO e4 y2 hs2 HB2 HA4 HFo2 HE
        have HT0:Hid (ByteArray.size (⟨#[]⟩:ByteArray)≤1000):=Jh (by decide)
        have HLQ:=Lib.hid hvl
        obtain ⟨k1,k2,k3,k4,k5,k6,k7,k8⟩:=Xp (Q:=(vq++[(⟨t0,ps⟩:Pc)])) (x:=⟨⟨#[]⟩,sl⟩) hown
        obtain ⟨m,hmq⟩:∃ m,List.length (α:=Pc) (vq++[(⟨t0,ps⟩:Pc)])=m:=⟨_,rfl⟩
        have hmb:List.length (α:=Pc) (vq++[(⟨t0,ps⟩:Pc)])≤1000:=by first|omega|(simp at hvl;simp;omega)|simp
        rw[hmq] at k1 k6 k7 k8 hmb
        first|subst k1|(obtain rfl:m=m0:=by omega)
        simp only at k6
        have HMQ:=Lib.hid hmq
        clear hmq
        have hbw3:b<w3.heap.size:=by have:=HB3.out.size;omega
        have HST:Hid (YP x al (Q++[(t0,bl)])=(Q++[(t0,bl)])++[((⟨#[]⟩:ByteArray)++chB x.ch,al)]):=Jh (by rw[TH HK.out hbe,TU])
        have hsum:∀ W,(Op.stringOp .add ((⟨#[]⟩:ByteArray)) (chB x.ch)).run Tryz.prog W=.ok (.string (((⟨#[]⟩:ByteArray))++chB x.ch)) W:=fun W=>run_string_add_sum W _ _ (by have e1:(chB x.ch).size=1:=rfl;have e2:=HT0.out;omega)
        have hcv:∀ W,W.cell? ⟨w3.heap.size,0,none⟩=some (.int .u8 (x.ch % 256))→(convert 64 9 (.slice (some ⟨w3.heap.size,0,none⟩) 1 1)).run Tryz.prog W=.ok (.string (chB x.ch)) W:=fun W h=>Vm W _ _ h
        go_upto_region 13 with fail
        go_region
        have hcl:=Wx (t':=((⟨#[]⟩:ByteArray))++chB x.ch) (q1:=(vq++[(⟨t0,ps⟩:Pc)])) (q2:=(Q++[(t0,bl)])) hown HLQ.out HE3.out (.cells #[.int .u8 (x.ch % 256)] 5)
        rw[HMQ.out] at hcl
        have HCL:=Lib.hid hcl
        have hx4:Ext (·=g) w3 ((w3.setCell ⟨g,m*2,none⟩ (.string (((⟨#[]⟩:ByteArray))++chB x.ch))).alloc (.cells #[.int .u8 (x.ch % 256)] 5)).drew:=(((Ext.refl (·=g) w3).setCell (p:=⟨g,m*2,none⟩) (.inr rfl) _).alloc _).drew
        have hz4:=hx4.size
        have hFo4:=Jh (HFo3.out.ext hx4 (fun b hb e=>HFo3.out.apart hown (by decide) b hb (by rw[e];rfl)))
        clear hcl hown k6 k7 k8 hsum hcv y3 HE3
        go_wp2_with fail
        go_roundg (N - (n+1))
        case measure=>rw[HG.out];omega
        case rel=>exact ⟨n+1,rfl,by omega,by simp;omega,Jh (by rw[HS.out,HAL.out,HST.out];exact HCL.out),hFo4,hx4.keep e5 (by omega),Ext.new HB3.out hx4 (fun i hi _ e=>by omega) (by omega),by omega⟩
   ·obtain rfl:n=N:=by omega
    clear hg hB
    go_wp2_with fail
    go_ret
    refine ⟨_,rfl,Lib.hid ?_,HB.out⟩
    rw[HR.out]
    obtain ⟨vs,hO,hvl,hE⟩:=hP.out
    refine ⟨vs,hO.mono (by omega),hvl,fun j x hj=>?_⟩
    obtain ⟨al,h1,h2⟩:=hE j x hj
    exact ⟨al,h1,h2.mono (by omega)⟩
def Z3N (l:List El) (ms:List OpD) (f:Nat) (t:Int) (w:World) (n:Nat) (out:Value) (wr:World):Prop :=
 Hid (Xb (w.heap.size+1) wr out (Xh l ms f n))∧wr.cell? ⟨w.heap.size,3,none⟩=some (.int .i64 t)∧Below w.heap.size w wr∧w.heap.size+1≤wr.heap.size
theorem Tl (va vb:Option Addr) (ca cb:Nat) (l:List El) (ms:List OpD) (sn sr fi ti:Int) (w:World) (hl:Z5 El.cells 4 w (.slice va l.length ca) l) (hm:Z5 OpD.cells 26 w (.slice vb ms.length cb) ms) (hln:l.length≤1000) (hmn:ms.length≤1000) :
  Calls Tryz.prog 54 #[.slice va l.length ca,.agg #[.int .i64 sn,.int .i64 sr,.int .i64 fi,.int .i64 ti],.slice vb ms.length cb] w fun e w'=>∃ u,e=.returned u∧Hid (Xb w.heap.size w' u (Yb l ms fi ti))∧Below w.heap.size w w':=by
 obtain ⟨i0,hi,hz0,hz1',hz2⟩:=info_parts TJ
 obtain ⟨_,_,e0,hcap,hmax,hcs⟩:=id hl
 cases e0
 have HC:=Lib.hid hcs
 have hB0:Below w.heap.size w (w.alloc (.cells #[.int .i64 sn,.int .i64 sr,.int .i64 fi,.int .i64 ti] 109)):=(Below.refl _ _).alloc (Nat.le_refl _) _
 have hl0:=hl.below hB0
 have hm0:=hm.below hB0
 have d2:(w.alloc (.cells #[.int .i64 sn,.int .i64 sr,.int .i64 fi,.int .i64 ti] 109)).cell? ⟨w.heap.size,2,none⟩=some (.int .i64 fi):=by go_simp
 have d3:(w.alloc (.cells #[.int .i64 sn,.int .i64 sr,.int .i64 fi,.int .i64 ti] 109)).cell? ⟨w.heap.size,3,none⟩=some (.int .i64 ti):=by go_simp
 have hz:(w.alloc (.cells #[.int .i64 sn,.int .i64 sr,.int .i64 fi,.int .i64 ti] 109)).heap.size=w.heap.size+1:=by simp
 clear hcs
 by_cases hbad:fi<0∨ti<fi∨(l.length:Int)<ti
 ·have HR:Hid (∀ W,Xb w.heap.size W (.slice none 0 0) (Yb l ms fi ti)):=Jh (fun W=>by
   rw[Yb,if_pos hbad]
   exact ⟨[],Own.nil,rfl,by simp⟩)
  by_cases h1:fi<0
  ·clear hbad
   go_enter Tryz.func54,Tryz.ntmps54
   go_wp2_with fail
   go_ret
   exact ⟨_,rfl,Jh (HR.out _),hB0⟩
  ·by_cases h2:ti<fi
   ·clear hbad
    go_enter Tryz.func54,Tryz.ntmps54
    go_wp2_with fail
    go_ret
    exact ⟨_,rfl,Jh (HR.out _),hB0⟩
   ·have h3:(l.length:Int)<ti:=by omega
    clear hbad
    go_enter Tryz.func54,Tryz.ntmps54
    go_wp2_with fail
    go_ret
    exact ⟨_,rfl,Jh (HR.out _),hB0⟩
 ·obtain ⟨f,rfl⟩:∃ f:Nat,fi=(f:Int):=⟨fi.toNat,by omega⟩
  obtain ⟨N,rfl⟩:∃ N:Nat,ti=(f:Int)+(N:Int):=⟨(ti - f).toNat,by omega⟩
  have HR:Hid (Yb l ms f ((f:Int)+(N:Int))=Xh l ms f N):=Jh (by
   rw[Yb,if_neg hbad]
   have e1:((f:Int)+(N:Int)).toNat - (f:Int).toNat=N:=by omega
   rw[e1,Int.toNat_natCast])
  have hfN:f+N≤l.length:=by omega
  have i1:¬ (f:Int)<0:=by omega
  have i2:¬ (f:Int)+(N:Int)<(f:Int):=by omega
  have i3:¬ (l.length:Int)<(f:Int)+(N:Int):=by omega
  have i4:¬ (N:Int)<0:=by omega
  clear hbad
  obtain ⟨W0,hW0⟩:=Je (w.alloc (.cells #[.int .i64 sn,.int .i64 sr,.int .i64 f,.int .i64 ((f:Int)+(N:Int))] 109))
  rw[hW0] at hB0 hl0 hm0 d2 d3 hz
  have HW0:=Lib.hid hW0
  clear hW0
  go_enter Tryz.func54,Tryz.ntmps54
  go_upto_region 1 with fail
  rw[HW0.out]
  have hs1:w.heap.size+1≤W0.heap.size:=by omega
  have HL:=Lib.hid hl0
  have HM:=Lib.hid hm0
  have HB0:=Lib.hid hB0
  clear hl0 hm0 hB0
  go_wp2_with fail
  go_loopg [7,8] N (fun g out iv wr=>∃ n:Nat,g=N - n∧n≤N∧iv=.int .i64 ((f:Int)+(n:Int))∧Z3N l ms f ((f:Int)+(N:Int)) w n out wr)
  case atStart=>exact ⟨0,by omega,by omega,by simp,Lib.hid ⟨[],Own.nil,rfl,by simp⟩,d3,HB0.out,hs1⟩
  case round =>
   clear d2 d3 hs1
   obtain ⟨n,hg,hn,rfl,hP,e3,hB,hs⟩:=hrel
   have HG:=Lib.hid hg
   have HB:=Lib.hid hB
   by_cases hnN:n<N
   ·obtain ⟨x,hx⟩:∃ x,l[f+n]?=some x:=⟨_,List.getElem?_eq_getElem (by omega)⟩
    obtain ⟨b,o,rfl,hcc⟩:=HC.out (by intro e;rw[e] at hx;simp at hx)
    have hkp:∀ {b o u},w.cell? ⟨b,o,none⟩=some u→wr.cell? ⟨b,o,none⟩=some u:=fun h=>(World.cell?_of_block (w:=w) (hB.block _ (Zj h))).trans h
    have x2:wr.cell? ⟨b,o+(f+n)*4+2,none⟩=some (.int .i64 x.ch):=hkp (hcc (f+n) x hx 2 _ rfl)
    have x3:wr.cell? ⟨b,o+(f+n)*4+3,none⟩=some (.bool x.gone):=hkp (hcc (f+n) x hx 3 _ rfl)
    have hbw:b<w.heap.size:=Zj (hcc (f+n) x hx 2 _ rfl)
    have j1:(f:Int)+(n:Int)<(f:Int)+(N:Int):=by omega
    have j2:(f:Int)+(n:Int)<(l.length:Int):=by omega
    have j3:(0:Int)≤(f:Int)+(n:Int):=by omega
    have j4:((f:Int)+(n:Int)).toNat=f+n:=by omega
    have HS:=Jh (SG (ms:=ms) hx)
    have hlr:=hl.of (fun b o u h=>hkp h)
    have hmr:=hm.of (fun b o u h=>hkp h)
    clear hcc hkp hg hB hx
    by_cases hsk:x.ch=0∨x.gone=true
    ·have HSK:=Jh (Th (al:=VM l ms (f+n)) (P:=Xh l ms f n) hsk)
     cases hgn:x.gone with
     | true =>
      rw[hgn] at x3
      clear hsk
      go_wp2_with fail
      go_roundg (N - (n+1))
      case measure=>rw[HG.out];omega
      case rel=>exact ⟨n+1,rfl,by omega,by simp;omega,Jh (by rw[HS.out,HSK.out];exact hP.out),e3,HB.out,hs⟩
     | false =>
      have hc0:x.ch=0:=by
       rcases hsk with h|h
       ·exact h
       ·rw[hgn] at h;cases h
      rw[hgn] at x3
      rw[hc0] at x2
      clear hsk
      go_wp2_with fail
      go_roundg (N - (n+1))
      case measure=>rw[HG.out];omega
      case rel=>exact ⟨n+1,rfl,by omega,by simp;omega,Jh (by rw[HS.out,HSK.out];exact hP.out),e3,HB.out,hs⟩
    ·have hc0:¬ x.ch=0:=fun e=>hsk (.inl e)
     have hgn:x.gone=false:=by
      cases h:x.gone with
      | false=>rfl
      | true=>exact absurd (.inr h) hsk
     rw[hgn] at x3
     have HK:=Lib.hid hsk
     clear hsk
     go_wp2_with fail
     have hhas:=Z2P (some ⟨b,o,none⟩) vb ca cb l ms ((f+n:Nat):Int) wr hlr hmr hln hmn (by omega) (by omega)
     rw[Int.natCast_add] at hhas
     refine hhas.mono ?_
     rintro e w2 ⟨u2,al,rfl,hA1,hAH,hb2⟩
     have hal:VM l ms (f+n)=al:=Rh (by rw[Int.natCast_add];exact hAH.out)
     have HAL:=Lib.hid hal
     have hB2:=HB.out.trans (hb2.mono HB.out.size)
     have hA4:=hA1.mono hs
     have y2:=Z0 hb2 x2
     have e4:=Z0 hb2 e3
     have hs2:w.heap.size+1≤w2.heap.size:=Nat.le_trans hs hb2.size
     obtain ⟨vs,hO,hvl,hE⟩:=hP.out.ext hb2
     have hple:=Sp l ms f n
     have HSZ:=Jh (UB l ms f n)
     obtain ⟨sl,rfl⟩:=hA1.sl
     have HE:=Lib.hid hE
     have HB2:=Lib.hid hB2
     have HA4:=Lib.hid hA4
     clear hal hA1 hAH hA4 hb2 hhas x2 x3 hP e3 hs HB hE hB2 hlr hmr
     generalize Xh l ms f n=P at *
     rcases Vf P with rfl|⟨Q,⟨t0,bl⟩,rfl⟩
     ·obtain rfl:vs=[]:=List.eq_nil_of_length_eq_zero (by simpa using hvl)
      obtain ⟨a8,c8,rfl,hc8,hm8,_⟩:=hO.slice Pc.len
      simp only[List.length_nil] at hO hc8 ⊢
      go_upto_region 12 with (at_builtin;refine Zq rfl _ _ _ rfl i0 (.agg #[.string ⟨#[]⟩,.slice none 0 0]) 40 Tryz.underlying25 hi hz0 hz1' hz2 rfl (by omega) Pc.len Pc.one rfl (hO.alloc _) ⟨⟨#[]⟩,sl⟩ w2.heap.size 1 rfl ?_ (by unfold maxLen;omega) (by omega) (by simp;omega) ?_)
      ·intro j u hj
       match j,hj with
       | 0,hj=>simp[Pc.cells] at hj;subst hj;go_simp
       | 1,hj=>simp[Pc.cells] at hj;subst hj;go_simp
       | n+2,hj=>simp[Pc.cells] at hj
      ·intro v' w3 hown hx3
       have hdis:∀ {k:Nat} {α:Type} {ea:α→List Value} {e:TypeId} {v:Value} {q:List α},Own ea k e (w.heap.size+1) w2 v q→e≠75→Own ea k e (w.heap.size+1) w3 v q:=fun h he=>(h.alloc _).ext hx3 (h.apart hO he)
       have hne:∀ b,Value.ownBlock (Value.slice a8 0 c8)=some b→w.heap.size+1≤b:=fun b hb=>(hO.blk b hb).1
       have HB3:=Jh (Ext.new (HB2.out.alloc (by omega) _) hx3 (fun i hi _ e=>by have:=hne _ e;omega) (by simp;omega))
       have e5:=hx3.keep (Z1 e4 _) (fun e=>by have:=hne _ e;omega)
       have y3:=hx3.keep (Z1 y2 _) (fun e=>by have:=hne _ e;omega)
       have hs3:w.heap.size+1≤w3.heap.size:=by have:=hx3.size;simp at this;omega
       obtain ⟨g,cap,nn,rfl⟩:∃ g c nn,v'=.slice (some ⟨g,0,none⟩) nn c:=by
        rcases hown.eq_slice with ⟨_,h⟩|⟨g,c,h,_⟩
        ·simp at h
        ·exact ⟨g,c,_,h⟩
       replace hown:Own Pc.cells 2 75 (w.heap.size+1) w3 (.slice (some ⟨g,0,none⟩) nn cap) (([]:List Pc)++[⟨⟨#[]⟩,sl⟩]):=by first|exact hown|(rw[List.append_assoc];exact hown)|simpa using hown
       have HE3:Hid (∀ (j:Nat) (y:Pc),(([]:List Pc)++[(⟨⟨#[]⟩,sl⟩:Pc)])[j]?=some y→∃ al',(([]:Pcs)++[((⟨#[]⟩:ByteArray),al)])[j]?=some (y.t,al')∧Own Atr.cells 2 73 (w.heap.size+1) w3 y.s.val al'):=Jh (fun j y hj=>by
        by_cases hjv:j<List.length ([]:List Pc)
        ·rw[List.getElem?_append_left hjv] at hj
         rw[List.getElem?_append_left (by rw[←hvl];exact hjv)]
         obtain ⟨al',h1,h2⟩:=HE.out j y hj
         exact ⟨al',h1,hdis h2 (by decide)⟩
        ·have hj2:j=List.length ([]:List Pc):=by
          have:=(List.getElem?_eq_some_iff.1 hj).1
          rw[List.length_append] at this
          have e1:List.length [(⟨⟨#[]⟩,sl⟩:Pc)]=1:=rfl
          rw[e1] at this
          omega
         subst hj2
         simp at hj
         subst hj
         rw[hvl]
         exact ⟨al,by simp,hdis HA4.out (by decide)⟩)
       clear hx3 hdis hne hO e4 y2 hs2 HB2 HA4  HE
       have HT0:Hid (ByteArray.size (⟨#[]⟩:ByteArray)≤1000):=Jh (by decide)
       have HLQ:Hid (List.length (α:=Pc) []=List.length (α:=ByteArray × List Atr) []):=Lib.hid rfl
       obtain ⟨k1,k2,k3,k4,k5,k6,k7,k8⟩:=Xp (Q:=[]) (x:=⟨⟨#[]⟩,sl⟩) hown
       obtain ⟨m,hmq⟩:∃ m,List.length (α:=Pc) []=m:=⟨_,rfl⟩
       have hmb:List.length (α:=Pc) []≤1000:=by first|omega|(simp at hvl;simp;omega)|simp
       rw[hmq] at k1 k6 k7 k8 hmb
       first|subst k1|(obtain rfl:m=m0:=by omega)
       simp only at k6
       have HMQ:=Lib.hid hmq
       clear hmq
       have hbw3:b<w3.heap.size:=by have:=HB3.out.size;omega
       have HST:Hid (YP x al ([])=([]:Pcs)++[((⟨#[]⟩:ByteArray)++chB x.ch,al)]):=Jh (by rw[UU HK.out,TU];rfl)
       have hsum:∀ W,(Op.stringOp .add ((⟨#[]⟩:ByteArray)) (chB x.ch)).run Tryz.prog W=.ok (.string (((⟨#[]⟩:ByteArray))++chB x.ch)) W:=fun W=>run_string_add_sum W _ _ (by have e1:(chB x.ch).size=1:=rfl;have e2:=HT0.out;omega)
       have hcv:∀ W,W.cell? ⟨w3.heap.size,0,none⟩=some (.int .u8 (x.ch % 256))→(convert 64 9 (.slice (some ⟨w3.heap.size,0,none⟩) 1 1)).run Tryz.prog W=.ok (.string (chB x.ch)) W:=fun W h=>Vm W _ _ h
       go_upto_region 12 with fail
       go_region
       have hcl:=Wx (t':=((⟨#[]⟩:ByteArray))++chB x.ch) (q1:=[]) (q2:=([]:Pcs)) hown HLQ.out HE3.out (.cells #[.int .u8 (x.ch % 256)] 5)
       rw[HMQ.out] at hcl
       have HCL:=Lib.hid hcl
       have hx4:Ext (·=g) w3 ((w3.setCell ⟨g,m*2,none⟩ (.string (((⟨#[]⟩:ByteArray))++chB x.ch))).alloc (.cells #[.int .u8 (x.ch % 256)] 5)).drew:=(((Ext.refl (·=g) w3).setCell (p:=⟨g,m*2,none⟩) (.inr rfl) _).alloc _).drew
       have hz4:=hx4.size
       clear hcl hown k6 k7 k8 hsum hcv y3 HE3
       go_wp2_with fail
       go_roundg (N - (n+1))
       case measure=>rw[HG.out];omega
       case rel=>exact ⟨n+1,rfl,by omega,by simp;omega,Jh (by rw[HS.out,HAL.out,HST.out];exact HCL.out), hx4.keep e5 (by omega),Ext.new HB3.out hx4 (fun i hi _ e=>by omega) (by omega),by omega⟩
     ·obtain ⟨vq,⟨pt,ps⟩,rfl⟩:∃ vq pc,vs=vq++[pc]:=by
       rcases Vf vs with rfl|h
       ·simp at hvl
       ·exact h
      have hvq:vq.length=Q.length:=by simpa using hvl
      obtain ⟨bl',hb1,hb2⟩:=HE.out vq.length ⟨pt,ps⟩ (by simp)
      rw[hvq] at hb1
      simp at hb1
      obtain ⟨rfl,rfl⟩:=hb1
      have HT1:Hid (ByteArray.size t0≤1000):=Jh (by have:=HSZ.out (t0,bl) (by simp);simp only at this;omega)
      obtain ⟨g0,c0,n0,rfl⟩:∃ g c nn,u7=.slice (some ⟨g,0,none⟩) nn c:=by
       rcases hO.eq_slice with ⟨_,h⟩|⟨g,c,h,_⟩
       ·simp at h
       ·exact ⟨g,c,_,h⟩
      obtain ⟨p1,p2,p3,p4,p5,p6,p7,p8⟩:=Xp hO
      obtain ⟨m0,hm0⟩:∃ m,vq.length=m:=⟨_,rfl⟩
      have hmb0:m0≤1000:=by simp at hple;omega
      rw[hm0] at p1 p6 p7 p8
      subst p1
      simp only at p6 p7
      have HM0:=Lib.hid hm0
      clear hm0
      have hbs:=hb2.slice (fun _=>rfl)
      have hAs:=HA4.out.slice (fun _=>rfl)
      simp only[Sl.val] at hbs hAs
      by_cases hbe:bl=al
      ·subst hbe
       go_wp2_with fail
       refine (Tp _ _ bl _ w2 hbs hAs).mono ?_
       rintro e w3 ⟨rfl,hb5⟩
       rw[decide_eq_true rfl]
       have hx5:Ext (fun _=>False) w2 w3:=Ext.of_below hb5
       have hown:=hO.ext hx5 (fun _ _ f=>f)
       have HE3:Hid (∀ (j:Nat) (y:Pc),(vq++[(⟨t0,ps⟩:Pc)])[j]?=some y→∃ al',(Q++[(t0,bl)])[j]?=some (y.t,al')∧Own Atr.cells 2 73 (w.heap.size+1) w3 y.s.val al'):=Jh (fun j y hj=>by
        obtain ⟨al',h1,h2⟩:=HE.out j y hj
        exact ⟨al',h1,h2.ext hx5 (fun _ _ f=>f)⟩)
       skip
       have e5:=Z0 hb5 e4
       have y3:=Z0 hb5 y2
       have HB3:=Jh (HB2.out.trans (hb5.mono HB2.out.size))
       have hs3:w.heap.size+1≤w3.heap.size:=Nat.le_trans hs2 hb5.size
       have HT0:=HT1
       have HLQ:=Lib.hid hvq
       clear hx5 hb5 hO HE e4 y2 hs2 HB2 hbs hAs hb2 HA4 p6 p7 p8 p4
       obtain ⟨k1,k2,k3,k4,k5,k6,k7,k8⟩:=Xp (Q:=vq) (x:=⟨t0,ps⟩) hown
       obtain ⟨m,hmq⟩:∃ m,List.length (α:=Pc) vq=m:=⟨_,rfl⟩
       have hmb:List.length (α:=Pc) vq≤1000:=by first|omega|(simp at hvl;simp;omega)|simp
       rw[hmq] at k1 k6 k7 k8 hmb
       first|subst k1|(obtain rfl:m=m0:=by omega)
       simp only at k6
       have HMQ:=Lib.hid hmq
       clear hmq
       have hbw3:b<w3.heap.size:=by have:=HB3.out.size;omega
       have HST:Hid (YP x bl (Q++[(t0,bl)])=Q++[(t0++chB x.ch,bl)]):=Jh (Tn HK.out)
       have hsum:∀ W,(Op.stringOp .add (t0) (chB x.ch)).run Tryz.prog W=.ok (.string ((t0)++chB x.ch)) W:=fun W=>run_string_add_sum W _ _ (by have e1:(chB x.ch).size=1:=rfl;have e2:=HT0.out;omega)
       have hcv:∀ W,W.cell? ⟨w3.heap.size,0,none⟩=some (.int .u8 (x.ch % 256))→(convert 64 9 (.slice (some ⟨w3.heap.size,0,none⟩) 1 1)).run Tryz.prog W=.ok (.string (chB x.ch)) W:=fun W h=>Vm W _ _ h
       go_upto_region 12 with fail
       go_region
       have hcl:=Wx (t':=(t0)++chB x.ch) (q1:=vq) (q2:=Q) hown HLQ.out HE3.out (.cells #[.int .u8 (x.ch % 256)] 5)
       rw[HMQ.out] at hcl
       have HCL:=Lib.hid hcl
       have hx4:Ext (·=g0) w3 ((w3.setCell ⟨g0,m*2,none⟩ (.string ((t0)++chB x.ch))).alloc (.cells #[.int .u8 (x.ch % 256)] 5)).drew:=(((Ext.refl (·=g0) w3).setCell (p:=⟨g0,m*2,none⟩) (.inr rfl) _).alloc _).drew
       have hz4:=hx4.size
       clear hcl hown k6 k7 k8 hsum hcv y3 HE3
       go_wp2_with fail
       go_roundg (N - (n+1))
       case measure=>rw[HG.out];omega
       case rel=>exact ⟨n+1,rfl,by omega,by simp;omega,Jh (by rw[HS.out,HAL.out,HST.out];exact HCL.out), hx4.keep e5 (by omega),Ext.new HB3.out hx4 (fun i hi _ e=>by omega) (by omega),by omega⟩
      ·go_wp2_with fail
       refine (Tp _ _ bl _ w2 hbs hAs).mono ?_
       rintro e w5 ⟨rfl,hb5⟩
       rw[decide_eq_false hbe]
       have hx5:Ext (fun _=>False) w2 w5:=Ext.of_below hb5
       replace hO:=hO.ext hx5 (fun _ _ f=>f)
       have HE':Hid (∀ (j:Nat) (y:Pc),(vq++[(⟨t0,ps⟩:Pc)])[j]?=some y→∃ al',(Q++[(t0,bl)])[j]?=some (y.t,al')∧Own Atr.cells 2 73 (w.heap.size+1) w5 y.s.val al'):=Jh (fun j y hj=>by
        obtain ⟨al',h1,h2⟩:=HE.out j y hj
        exact ⟨al',h1,h2.ext hx5 (fun _ _ f=>f)⟩)
       replace HE:=HE'
       replace HA4:=Jh (HA4.out.ext hx5 (fun _ _ f=>f))
       skip
       replace e4:=Z0 hb5 e4
       replace y2:=Z0 hb5 y2
       replace HB2:=Jh (HB2.out.trans (hb5.mono HB2.out.size))
       replace hs2:w.heap.size+1≤w5.heap.size:=Nat.le_trans hs2 hb5.size
       have hvs8:(vq++[(⟨t0,ps⟩:Pc)]).length≤1000:=by rw[hvl];omega
       clear hx5 hb5 HE' hbs hAs hb2 p6 p7 p8 p4
       go_upto_region 12 with (at_builtin;refine Zq rfl _ _ _ rfl i0 (.agg #[.string ⟨#[]⟩,.slice none 0 0]) 40 Tryz.underlying25 hi hz0 hz1' hz2 rfl (by omega) Pc.len Pc.one rfl (hO.alloc _) ⟨⟨#[]⟩,sl⟩ w5.heap.size 1 rfl ?_ (by unfold maxLen;omega) (by omega) (by simp;omega) ?_)
       ·intro j u hj
        match j,hj with
        | 0,hj=>simp[Pc.cells] at hj;subst hj;go_simp
        | 1,hj=>simp[Pc.cells] at hj;subst hj;go_simp
        | n+2,hj=>simp[Pc.cells] at hj
       ·intro v' w3 hown hx3
        have hdis:∀ {k:Nat} {α:Type} {ea:α→List Value} {e:TypeId} {v:Value} {q:List α},Own ea k e (w.heap.size+1) w5 v q→e≠75→Own ea k e (w.heap.size+1) w3 v q:=fun h he=>(h.alloc _).ext hx3 (h.apart hO he)
        have hne:∀ b,Value.ownBlock (Value.slice (some ⟨g0,0,none⟩) (m0+1) c0)=some b→w.heap.size+1≤b:=fun b hb=>(hO.blk b hb).1
        have HB3:=Jh (Ext.new (HB2.out.alloc (by omega) _) hx3 (fun i hi _ e=>by have:=hne _ e;omega) (by simp;omega))
        have e5:=hx3.keep (Z1 e4 _) (fun e=>by have:=hne _ e;omega)
        have y3:=hx3.keep (Z1 y2 _) (fun e=>by have:=hne _ e;omega)
        have hs3:w.heap.size+1≤w3.heap.size:=by have:=hx3.size;simp at this;omega
        obtain ⟨g,cap,nn,rfl⟩:∃ g c nn,v'=.slice (some ⟨g,0,none⟩) nn c:=by
         rcases hown.eq_slice with ⟨_,h⟩|⟨g,c,h,_⟩
         ·simp at h
         ·exact ⟨g,c,_,h⟩
        replace hown:Own Pc.cells 2 75 (w.heap.size+1) w3 (.slice (some ⟨g,0,none⟩) nn cap) ((vq++[(⟨t0,ps⟩:Pc)])++[⟨⟨#[]⟩,sl⟩]):=by first|exact hown|(rw[List.append_assoc];exact hown)|simpa using hown
        have HE3:Hid (∀ (j:Nat) (y:Pc),((vq++[(⟨t0,ps⟩:Pc)])++[(⟨⟨#[]⟩,sl⟩:Pc)])[j]?=some y→∃ al',((Q++[(t0,bl)])++[((⟨#[]⟩:ByteArray),al)])[j]?=some (y.t,al')∧Own Atr.cells 2 73 (w.heap.size+1) w3 y.s.val al'):=Jh (fun j y hj=>by
         by_cases hjv:j<List.length (vq++[(⟨t0,ps⟩:Pc)])
         ·rw[List.getElem?_append_left hjv] at hj
          rw[List.getElem?_append_left (by rw[←hvl];exact hjv)]
          obtain ⟨al',h1,h2⟩:=HE.out j y hj
          exact ⟨al',h1,hdis h2 (by decide)⟩
         ·have hj2:j=List.length (vq++[(⟨t0,ps⟩:Pc)]):=by
           have:=(List.getElem?_eq_some_iff.1 hj).1
           rw[List.length_append] at this
           have e1:List.length [(⟨⟨#[]⟩,sl⟩:Pc)]=1:=rfl
           rw[e1] at this
           omega
          subst hj2
          simp at hj
          subst hj
          rw[hvl]
          exact ⟨al,by simp,hdis HA4.out (by decide)⟩)
        clear hx3 hdis hne hO e4 y2 hs2 HB2 HA4  HE
        have HT0:Hid (ByteArray.size (⟨#[]⟩:ByteArray)≤1000):=Jh (by decide)
        have HLQ:=Lib.hid hvl
        obtain ⟨k1,k2,k3,k4,k5,k6,k7,k8⟩:=Xp (Q:=(vq++[(⟨t0,ps⟩:Pc)])) (x:=⟨⟨#[]⟩,sl⟩) hown
        obtain ⟨m,hmq⟩:∃ m,List.length (α:=Pc) (vq++[(⟨t0,ps⟩:Pc)])=m:=⟨_,rfl⟩
        have hmb:List.length (α:=Pc) (vq++[(⟨t0,ps⟩:Pc)])≤1000:=by first|omega|(simp at hvl;simp;omega)|simp
        rw[hmq] at k1 k6 k7 k8 hmb
        first|subst k1|(obtain rfl:m=m0:=by omega)
        simp only at k6
        have HMQ:=Lib.hid hmq
        clear hmq
        have hbw3:b<w3.heap.size:=by have:=HB3.out.size;omega
        have HST:Hid (YP x al (Q++[(t0,bl)])=(Q++[(t0,bl)])++[((⟨#[]⟩:ByteArray)++chB x.ch,al)]):=Jh (by rw[TH HK.out hbe,TU])
        have hsum:∀ W,(Op.stringOp .add ((⟨#[]⟩:ByteArray)) (chB x.ch)).run Tryz.prog W=.ok (.string (((⟨#[]⟩:ByteArray))++chB x.ch)) W:=fun W=>run_string_add_sum W _ _ (by have e1:(chB x.ch).size=1:=rfl;have e2:=HT0.out;omega)
        have hcv:∀ W,W.cell? ⟨w3.heap.size,0,none⟩=some (.int .u8 (x.ch % 256))→(convert 64 9 (.slice (some ⟨w3.heap.size,0,none⟩) 1 1)).run Tryz.prog W=.ok (.string (chB x.ch)) W:=fun W h=>Vm W _ _ h
        go_upto_region 12 with fail
        go_region
        have hcl:=Wx (t':=((⟨#[]⟩:ByteArray))++chB x.ch) (q1:=(vq++[(⟨t0,ps⟩:Pc)])) (q2:=(Q++[(t0,bl)])) hown HLQ.out HE3.out (.cells #[.int .u8 (x.ch % 256)] 5)
        rw[HMQ.out] at hcl
        have HCL:=Lib.hid hcl
        have hx4:Ext (·=g) w3 ((w3.setCell ⟨g,m*2,none⟩ (.string (((⟨#[]⟩:ByteArray))++chB x.ch))).alloc (.cells #[.int .u8 (x.ch % 256)] 5)).drew:=(((Ext.refl (·=g) w3).setCell (p:=⟨g,m*2,none⟩) (.inr rfl) _).alloc _).drew
        have hz4:=hx4.size
        clear hcl hown k6 k7 k8 hsum hcv y3 HE3
        go_wp2_with fail
        go_roundg (N - (n+1))
        case measure=>rw[HG.out];omega
        case rel=>exact ⟨n+1,rfl,by omega,by simp;omega,Jh (by rw[HS.out,HAL.out,HST.out];exact HCL.out), hx4.keep e5 (by omega),Ext.new HB3.out hx4 (fun i hi _ e=>by omega) (by omega),by omega⟩
   ·obtain rfl:n=N:=by omega
    clear hg hB
    go_wp2_with fail
    go_ret
    refine ⟨_,rfl,Lib.hid ?_,HB.out⟩
    rw[HR.out]
    obtain ⟨vs,hO,hvl,hE⟩:=hP.out
    refine ⟨vs,hO.mono (by omega),hvl,fun j x hj=>?_⟩
    obtain ⟨al,h1,h2⟩:=hE j x hj
    exact ⟨al,h1,h2.mono (by omega)⟩
end Go.Proofs.YtlgipkemoldckaaGreatDoor
namespace Go.Proofs.YtlgipkemoldckaaGreatDoor
open Go.ChangeShapes Go.WideShapes Go.RowKit Go.Deep
theorem Xb.shape {base:Nat} {W:World} {u:Value} {P:Pcs} (h:Xb base W u P):∃ a c,u=.slice a P.length c∧P.length≤c∧c≤maxLen:=by
 obtain ⟨vs,h1,h2,h3⟩:=h
 obtain ⟨a,c,rfl,hc,hm,hh⟩:=h1.slice Pc.len
 exact ⟨a,c,by rw[h2],by omega,hm⟩
end Go.Proofs.YtlgipkemoldckaaGreatDoor
namespace Go.Proofs.YtlgipkemoldckaaGreatDoor
open Go.RowKit
section
variable {P:Program} {w:World} {α:Type} {ea:α→List Value} {k:Nat} {e:TypeId} {base:Nat} {v vx:Value} {l ys:List α}
theorem VC (t ty:TypeId) (i:TypeInfo) (ht:P.underlying t=some (.slice e)) (hi:P.info? e=some i) (b:Option Addr) (n cap c:Nat) (hc:n≤cap) :
  (Builtin.append_ #[t,t] ty #[.slice b n cap,.slice none 0 c]).run P w=.ok (.slice b n cap) w:=by
 cases b <;> simp[Builtin.append_,run_underlying ht,sizeOf,typeInfo,hi,Builtin.lenOf,Builtin.firstCells,loadCells,loadCellsFrom,storeCells,hc]
theorem S9 (t ty:TypeId) (i:TypeInfo) (z:Value) (bytes:Nat) (ht:P.underlying t=some (.slice e)) (hi:P.info? e=some i) (hz:i.zero=some z)
  (hsize:i.size=k) (hby:i.bytes=bytes) (hzs:z.cells.size=k) (hk0:0<k) (hk:∀ x,(ea x).length=k) (h1:∀ x,∀ u∈ea x,u.oneCell'=true)
  (hown:Own ea k e base w v l) (hx:Z5 ea k w vx ys) (h63:l.length+ys.length≤maxLen) (hbytes:(l.length+ys.length)*bytes≤140737488355328) (hbase:base≤w.heap.size) :
  ∃ v' w',(Builtin.append_ #[t,t] ty #[v,vx]).run P w=.ok v' w'∧Own ea k e base w' v' (l++ys)∧Ext (fun b=>v.ownBlock=some b) w w':=by
 obtain ⟨a,cap,rfl,hcap,hmax,hcs⟩:=hx
 cases a with
 | none =>
  have hys:ys=[]:=Classical.byContradiction fun hn=>by obtain ⟨b,o,e,_⟩:=hcs hn;cases e
  subst hys
  obtain ⟨sa,sc,rfl,hsc,_⟩:=hown.slice hk
  refine ⟨_,w,VC t ty i ht hi sa l.length sc cap hsc,by rw[List.append_nil];exact hown,Ext.refl _ _⟩
 | some ad =>
  have hnews:∀ j u,(ys.flatMap ea)[j]?=some u→w.cell? (ad.add j)=some u:=fun j u hj=>by
   have hne:ys≠[]:=fun e=>by rw[e] at hj;simp at hj
   obtain ⟨b,o,e,h2⟩:=hcs hne
   cases e
   have hjl:=(List.getElem?_eq_some_iff.1 hj).1
   rw[Y5 hk] at hjl
   have hdm:j / k*k+j % k=j:=by rw[Nat.mul_comm];exact Nat.div_add_mod j k
   have hq:j / k<ys.length:=Nat.div_lt_of_lt_mul (by rw[Nat.mul_comm];exact hjl)
   obtain ⟨x,hx⟩:∃ x,ys[j / k]?=some x:=⟨_,List.getElem?_eq_getElem hq⟩
   obtain ⟨u',hu'⟩:∃ u',(ea x)[j % k]?=some u':=⟨_,List.getElem?_eq_getElem (by rw[hk];exact Nat.mod_lt _ hk0)⟩
   have h3:=getElem?_flatMap_k hk ys (j / k) x hx (j % k) u' hu'
   rw[hdm,hj] at h3
   cases h3
   have h4:=h2 (j / k) x hx (j % k) u hu'
   rw[Nat.add_assoc,hdm] at h4
   rw[show (Addr.add ⟨b,o,none⟩ j)=⟨b,o+j,none⟩ from by unfold Addr.add;split <;> simp_all]
   exact h4
  obtain ⟨v',w',h2,h3,h4,_⟩:=run_append_own (P:=P) w base t ty e i z k bytes ht hi hz hsize hby hzs hk0 v l.length (l.flatMap ea) hown ad ys.length cap (ys.flatMap ea) (Y5 hk ys) hnews
   (fun u hu=>by obtain ⟨x,_,hx⟩:=List.mem_flatMap.1 hu;exact h1 x u hx) h63 hbytes hbase
  refine ⟨v',w',h2,?_,Ext.of_grown h4⟩
  unfold Own
  rw[List.length_append,List.flatMap_append]
  exact h3
end
section
variable {P:Program} {ops:Array Oper} {Q:Exit→Act→World→Prop} {md:Region.Mode} {S:World→Prop}
end
inductive Nd where
 | mk (id:St) (kind:ByteArray) (attrs:List Atr) (text:Pcs) (kids:List Nd)
def Nd.id:Nd→St|.mk i _ _ _ _=>i
def Nd.kind:Nd→ByteArray|.mk _ k _ _ _=>k
def Nd.attrs:Nd→List Atr|.mk _ _ a _ _=>a
def Nd.text:Nd→Pcs|.mk _ _ _ t _=>t
def Nd.kids:Nd→List Nd|.mk _ _ _ _ l=>l
structure NdV where
 id:St
 kind:ByteArray
 attrs:Sl
 text:Sl
 kids:Sl
def NdV.cells (x:NdV):List Value:=[.int .i64 x.id.n,.int .i64 x.id.r,.string x.kind,.slice x.attrs.a x.attrs.n x.attrs.cap,.slice x.text.a x.text.n x.text.cap,.slice x.kids.a x.kids.n x.kids.cap]
theorem NdV.len (x:NdV):x.cells.length=6:=rfl
theorem NdV.one (x:NdV):∀ u∈x.cells,u.oneCell'=true:=by
 intro u hu
 simp only[NdV.cells,List.mem_cons,List.not_mem_nil,or_false] at hu
 rcases hu with rfl|rfl|rfl|rfl|rfl|rfl <;> rfl
def Zx {α:Type} (D:Nat→Prop) (ea:α→List Value) (k:Nat) (W:World) (v:Value) (l:List α):Prop :=
 Z5 ea k W v l∧∀ b o n c,v=.slice (some ⟨b,o,none⟩) n c→l≠[]→D b
theorem Zx.mono {α:Type} {D D':Nat→Prop} {ea:α→List Value} {k:Nat} {W:World} {v:Value} {l:List α} (h:Zx D ea k W v l) (hd:∀ b,D b→D' b):Zx D' ea k W v l :=
 ⟨h.1,fun b o n c e hl=>hd b (h.2 b o n c e hl)⟩
theorem Zx.ext {α:Type} {D S:Nat→Prop} {ea:α→List Value} {k:Nat} {W W':World} {v:Value} {l:List α} (h:Zx D ea k W v l) (hx:Ext S W W') (hd:∀ b,D b→b<W.heap.size→¬ S b) (hk:∀ x,0<(ea x).length):Zx D ea k W' v l:=by
 obtain ⟨⟨a,cap,rfl,h2,h3,h4⟩,h5⟩:=h
 refine ⟨⟨a,cap,rfl,h2,h3,fun hl=>?_⟩,h5⟩
 obtain ⟨b,off,rfl,h6⟩:=h4 hl
 refine ⟨b,off,rfl,fun i x hi j u hj=>hx.keep (h6 i x hi j u hj) (hd b (h5 b off _ _ rfl hl) (Zj (h6 i x hi j u hj)))⟩
theorem Own.sliceD {α:Type} {ea:α→List Value} {k:Nat} {e:TypeId} {base:Nat} {w:World} {v:Value} {l:List α} (h:Own ea k e base w v l) (hk:∀ x,(ea x).length=k):Zx (fun b=>v.ownBlock=some b) ea k w v l:=by
 refine ⟨h.slice hk,fun b o n c e1 hl=>?_⟩
 rcases h.eq_slice with ⟨e2,e3⟩|⟨g,cap,e2,_,_⟩
 ·exact absurd e3 hl
 ·rw[e1] at e2
  cases e2
  rw[e1]
  rfl
def YJ (D:Nat→Prop) (W:World) (u:Value) (P:Pcs):Prop :=
 ∃ vs:List Pc,Zx D Pc.cells 2 W u vs∧vs.length=P.length∧∀ (j:Nat) (x:Pc),vs[j]?=some x→∃ al,P[j]?=some (x.t,al)∧Zx D Atr.cells 2 W (.slice x.s.a x.s.n x.s.cap) al
theorem YJ.mono {D D':Nat→Prop} {W:World} {u:Value} {P:Pcs} (h:YJ D W u P) (hd:∀ b,D b→D' b):YJ D' W u P:=by
 obtain ⟨vs,h1,h2,h3⟩:=h
 refine ⟨vs,h1.mono hd,h2,fun j x hj=>?_⟩
 obtain ⟨al,h4,h5⟩:=h3 j x hj
 exact ⟨al,h4,h5.mono hd⟩
theorem YJ.ext {D S:Nat→Prop} {W W':World} {u:Value} {P:Pcs} (h:YJ D W u P) (hx:Ext S W W') (hd:∀ b,D b→b<W.heap.size→¬ S b):YJ D W' u P:=by
 obtain ⟨vs,h1,h2,h3⟩:=h
 refine ⟨vs,h1.ext hx hd (fun _=>Nat.zero_lt_succ 1),h2,fun j x hj=>?_⟩
 obtain ⟨al,h4,h5⟩:=h3 j x hj
 exact ⟨al,h4,h5.ext hx hd (fun _=>Nat.zero_lt_succ 1)⟩
theorem Xb.toD {base:Nat} {W:World} {u:Value} {P:Pcs} (h:Xb base W u P):YJ (fun b=>base≤b∧b<W.heap.size) W u P:=by
 obtain ⟨vs,h1,h2,h3⟩:=h
 refine ⟨vs,(h1.sliceD Pc.len).mono (fun b hb=>h1.blk b hb),h2,fun j x hj=>?_⟩
 obtain ⟨al,h4,h5⟩:=h3 j x hj
 exact ⟨al,h4,(h5.sliceD (fun _=>rfl)).mono (fun b hb=>h5.blk b hb)⟩
inductive Zv (D:Nat→Prop) (W:World):NdV→Nd→Prop
 | mk (x:NdV) (al:List Atr) (P:Pcs) (vs:List NdV) (ks:List Nd):Zx D Atr.cells 2 W (.slice x.attrs.a x.attrs.n x.attrs.cap) al→YJ D W (.slice x.text.a x.text.n x.text.cap) P →
   Zx D NdV.cells 6 W (.slice x.kids.a x.kids.n x.kids.cap) vs→vs.length=ks.length→(∀ (i:Nat) (y:NdV) (n:Nd),vs[i]?=some y→ks[i]?=some n→Zv D W y n)→Zv D W x (.mk x.id x.kind al P ks)
def Zc (D:Nat→Prop) (W:World) (vs:List NdV) (ks:List Nd):Prop:=vs.length=ks.length∧∀ (i:Nat) (y:NdV) (n:Nd),vs[i]?=some y→ks[i]?=some n→Zv D W y n
theorem Zv.mono {D D':Nat→Prop} {W:World} {x:NdV} {n:Nd} (h:Zv D W x n) (hd:∀ b,D b→D' b):Zv D' W x n:=by
 induction h with
 | mk x al P vs ks h1 h2 h3 h4 h5 ih=>exact .mk x al P vs ks (h1.mono hd) (h2.mono hd) (h3.mono hd) h4 ih
theorem Zv.ext {D S:Nat→Prop} {W W':World} {x:NdV} {n:Nd} (h:Zv D W x n) (hx:Ext S W W') (hd:∀ b,D b→b<W.heap.size→¬ S b):Zv D W' x n:=by
 induction h with
 | mk x al P vs ks h1 h2 h3 h4 h5 ih=>exact .mk x al P vs ks (h1.ext hx hd (fun _=>Nat.zero_lt_succ 1)) (h2.ext hx hd) (h3.ext hx hd (fun _=>Nat.zero_lt_succ 5)) h4 ih
theorem Zv.belowW {D:Nat→Prop} {W W':World} {x:NdV} {n:Nd} (h:Zv D W x n) (hb:Below W.heap.size W W'):Zv D W' x n :=
 h.ext (Ext.of_below (S:=fun _=>False) hb) (fun _ _ _ f=>f)
theorem Zc.mono {D D':Nat→Prop} {W:World} {vs:List NdV} {ks:List Nd} (h:Zc D W vs ks) (hd:∀ b,D b→D' b):Zc D' W vs ks:=⟨h.1,fun i y n h1 h2=>(h.2 i y n h1 h2).mono hd⟩
theorem Zc.ext {D S:Nat→Prop} {W W':World} {vs:List NdV} {ks:List Nd} (h:Zc D W vs ks) (hx:Ext S W W') (hd:∀ b,D b→b<W.heap.size→¬ S b):Zc D W' vs ks:=⟨h.1,fun i y n h1 h2=>(h.2 i y n h1 h2).ext hx hd⟩
theorem Zc.below {D:Nat→Prop} {W W':World} {vs:List NdV} {ks:List Nd} (h:Zc D W vs ks) (hb:Below W.heap.size W W'):Zc D W' vs ks:=⟨h.1,fun i y n h1 h2=>(h.2 i y n h1 h2).belowW hb⟩
theorem Zc.nil {D:Nat→Prop} {W:World}:Zc D W [] []:=⟨rfl,fun i y n h=>by simp at h⟩
theorem Zc.append {D:Nat→Prop} {W:World} {vs us:List NdV} {ks ls:List Nd} (h:Zc D W vs ks) (k:Zc D W us ls):Zc D W (vs++us) (ks++ls):=by
 refine ⟨by rw[List.length_append,List.length_append,h.1,k.1],fun i y n h1 h2=>?_⟩
 by_cases hi:i<vs.length
 ·rw[List.getElem?_append_left hi] at h1
  rw[List.getElem?_append_left (by rw[←h.1];exact hi)] at h2
  exact h.2 i y n h1 h2
 ·rw[List.getElem?_append_right (by omega)] at h1
  rw[List.getElem?_append_right (by rw[←h.1];omega),←h.1] at h2
  exact k.2 _ y n h1 h2
theorem Zc.one {D:Nat→Prop} {W:World} {x:NdV} {n:Nd} (h:Zv D W x n):Zc D W [x] [n]:=by
 refine ⟨rfl,fun i y m h1 h2=>?_⟩
 match i with
 | 0=>simp at h1 h2;subst h1;subst h2;exact h
 | i+1=>simp at h1
theorem Zv.parts {D:Nat→Prop} {W:World} {x:NdV} {n:Nd} (h:Zv D W x n):x.id=n.id∧x.kind=n.kind∧Zx D Atr.cells 2 W (.slice x.attrs.a x.attrs.n x.attrs.cap) n.attrs∧YJ D W (.slice x.text.a x.text.n x.text.cap) n.text ∧
  ∃ vs,Zx D NdV.cells 6 W (.slice x.kids.a x.kids.n x.kids.cap) vs∧Zc D W vs n.kids:=by
 cases h with
 | mk x al P vs ks h1 h2 h3 h4 h5=>exact ⟨rfl,rfl,h1,h2,vs,h3,h4,h5⟩
theorem Zv.make {D:Nat→Prop} {W:World} {x:NdV} {id:St} {kind:ByteArray} {al:List Atr} {P:Pcs} {vs:List NdV} {ks:List Nd} (e1:x.id=id) (e2:x.kind=kind) (h1:Zx D Atr.cells 2 W (.slice x.attrs.a x.attrs.n x.attrs.cap) al) (h2:YJ D W (.slice x.text.a x.text.n x.text.cap) P)
  (h3:Zx D NdV.cells 6 W (.slice x.kids.a x.kids.n x.kids.cap) vs) (h4:Zc D W vs ks):Zv D W x (.mk id kind al P ks):=by
 subst e1;subst e2
 exact .mk x al P vs ks h1 h2 h3 h4.1 h4.2
end Go.Proofs.YtlgipkemoldckaaGreatDoor
