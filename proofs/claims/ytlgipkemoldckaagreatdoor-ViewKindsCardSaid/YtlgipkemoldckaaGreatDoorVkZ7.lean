/- ViewKinds, part 7 of what the proof leans on (made short by a program). -/
import Derived.Test.YtlgipkemoldckaaGreatDoorVkZ6
set_option linter.unusedSimpArgs false
set_option linter.unusedVariables false
set_option linter.unusedSectionVars false
set_option maxRecDepth 20000
set_option maxHeartbeats 30000000
namespace Go.Proofs.YtlgipkemoldckaaGreatDoor
open Go.RowKit
def Xg (p:Pl) (acc:Option Wr) (y:Z8):Option Wr:=if y.pl=p∧0<Yd y.at_ (W7 acc) then some ⟨y.at_,y.value⟩ else acc
def Zz (L:List Z8) (p:Pl):Option Wr:=L.foldl (Xg p) none
theorem WH (L:List Z8) (y:Z8) (p:Pl):Zz (L++[y]) p=Xg p (Zz L p) y:=by simp[Zz]
theorem Rp {L:List Z8} {k:Nat} {y:Z8} (h:L[k]?=some y) (p:Pl):Zz (L.take (k+1)) p=Xg p (Zz (L.take k) p) y:=by rw[Uk h,WH]
theorem Re (L:List Z8) (hr:∀ x∈L,Z7 x.at_=true) (p:Pl):∀ x,Zz L p=some x→Z7 x.at_=true:=by
 refine WB (p:=fun L=>(∀ x∈L,Z7 x.at_=true)→∀ x,Zz L p=some x→Z7 x.at_=true) ?_ ?_ L hr
 ·intro _ x h;cases h
 ·intro L y ih hr x h
  rw[WH,Xg] at h
  split at h
  ·cases h;exact hr y (by simp)
  ·exact ih (fun z hz=>hr z (by simp[hz])) x h
theorem Z1q {w:World} {r:Nat} {a b c d:Value} {t:TypeId} (h:w.heap[r]?=some (.cells #[a,b] t (0,0))):((w.setCell ⟨r,0,none⟩ c).setCell ⟨r,1,none⟩ d).heap[r]?=some (.cells #[c,d] t (0,0)):=by
 simp[World.setCell,Array.getElem?_modify,h]
theorem SJ {w:World} {r:Nat} {a b:Value} {t:TypeId} (h:w.heap[r]?=some (.cells #[a,b] t (0,0))):w.cell? ⟨r,0,none⟩=some a∧w.cell? ⟨r,1,none⟩=some b∧w.frozen? ⟨r,0,none⟩=false∧w.frozen? ⟨r,1,none⟩=false:=by
 simp[World.cell?,World.frozen?,h]
theorem Ra {w:World} (o:Obj) {n:Nat} (h:n=w.heap.size):(w.alloc o).heap[n]?=some o:=by
 subst h
 show (w.heap.push o)[w.heap.size]?=_
 simp
theorem Z2x (r B:Nat) (L:List Z8) (bn br:Int) (nm:ByteArray) (w:World) (h:WW w r B L) (hsz:L.length≤1000) (hri:∀ x∈L,Z7 x.at_=true) :
  Calls Tryz.prog 133 #[.pointer (some ⟨r,0,none⟩),.agg #[.int .i64 bn,.int .i64 br],.string nm] w
   fun e w'=>e=.returned (.tuple #[.string (Vi (Zz L ⟨⟨bn,br⟩,nm⟩)),.bool (Zz L ⟨⟨bn,br⟩,nm⟩).isSome])∧Below w.heap.size w w':=by
 obtain ⟨v,hb,hown⟩:=h
 obtain ⟨va,vc,rfl,hcap,hmax,hcs⟩:=hown.slice (fun _=>rfl)
 unfold maxLen at hmax
 have c0:=Wm hb
 have hrl:r<w.heap.size:=Zj c0
 have HC:=Lib.hid hcs
 have HRI:=Lib.hid hri
 clear hb hown hcs hri
 go_enter Tryz.func133,Tryz.ntmps133
 go_wp2_with fail
 go_loopg [9,10] L.length (fun g s i wx=>∃ k:Nat,g=L.length - k∧k≤L.length∧i=.int .i64 k∧s=.string (Vi (Zz (L.take k) ⟨⟨bn,br⟩,nm⟩)) ∧
  wx.heap[w.heap.size+1]?=some (.cells #[.int .i64 (W7 (Zz (L.take k) ⟨⟨bn,br⟩,nm⟩)).n,.int .i64 (W7 (Zz (L.take k) ⟨⟨bn,br⟩,nm⟩)).r] 23 (0,0)) ∧
  wx.cell? ⟨w.heap.size,0,none⟩=some (.int .i64 bn)∧wx.cell? ⟨w.heap.size,1,none⟩=some (.int .i64 br)∧Below w.heap.size w wx)
 case atStart =>
  refine ⟨0,rfl,Nat.zero_le _,rfl,rfl,?_,by go_simp,by go_simp,((Below.refl _ _).alloc (Nat.le_refl _) _).alloc (by simp) _⟩
  exact Ra _ (by simp)
 case round =>
  obtain ⟨k,hg,hk,rfl,rfl,hbx,q0,q1,hB⟩:=hrel
  have HG:=Lib.hid hg
  clear hg
  have c0':=Z0 hB c0
  generalize hrb:Zz (L.take k) ⟨⟨bn,br⟩,nm⟩=rb at *
  have HRB:=Lib.hid hrb
  clear hrb
  obtain ⟨l0,l1,l2,l3⟩:=SJ hbx
  by_cases hlt:k<L.length
  ·obtain ⟨x,hx⟩:∃ x,L[k]?=some x:=⟨_,List.getElem?_eq_getElem hlt⟩
   obtain ⟨bs,os,rfl,hcc⟩:=HC.out (by intro e;rw[e] at hlt;simp at hlt)
   have x0:wr.cell? ⟨bs,os+k*6,none⟩=some (.int .i64 x.at_.n):=Z0 hB (hcc k x hx 0 _ rfl)
   have x1:wr.cell? ⟨bs,os+k*6+1,none⟩=some (.int .i64 x.at_.r):=Z0 hB (hcc k x hx 1 _ rfl)
   have x2:wr.cell? ⟨bs,os+k*6+2,none⟩=some (.int .i64 x.blk.n):=Z0 hB (hcc k x hx 2 _ rfl)
   have x3:wr.cell? ⟨bs,os+k*6+3,none⟩=some (.int .i64 x.blk.r):=Z0 hB (hcc k x hx 3 _ rfl)
   have x4:wr.cell? ⟨bs,os+k*6+4,none⟩=some (.string x.name):=Z0 hB (hcc k x hx 4 _ rfl)
   have x5:wr.cell? ⟨bs,os+k*6+5,none⟩=some (.string x.value):=Z0 hB (hcc k x hx 5 _ rfl)
   have hst:=Rp hx (⟨⟨bn,br⟩,nm⟩:Pl)
   rw[HRB.out] at hst
   have HST:=Lib.hid hst
   have zz:=Zj q0
   have zz2:w.heap.size+1<wr.heap.size:=Zj l0
   clear hx hcc hst
   by_cases hbk:x.blk=⟨bn,br⟩
   ·have e1:x.blk.n=bn:=by rw[hbk]
    have e2:x.blk.r=br:=by rw[hbk]
    rw[e1] at x2
    rw[e2] at x3
    by_cases hnm:x.name.toList=nm.toList
    ·have hn1:(x.name.toList == nm.toList)=true:=by simp[hnm]
     have hpl:x.pl=⟨⟨bn,br⟩,nm⟩:=by rw[Z8.pl,hbk,(ZO _ _).1 hnm]
     have HP:=Lib.hid hpl
     clear hnm hpl hbk e1 e2
     by_cases hc:0<Yd x.at_ (W7 rb)
     ·have hs2:Zz (L.take (k+1)) ⟨⟨bn,br⟩,nm⟩=some ⟨x.at_,x.value⟩:=by rw[HST.out,Xg,if_pos ⟨HP.out,hc⟩]
      have HS2:=Lib.hid hs2
      have hc':0<Yd ⟨x.at_.n,x.at_.r⟩ ⟨(W7 rb).n,(W7 rb).r⟩:=hc
      clear hs2 hc
      go_wp2_with fail
      refine (X4 _ _ _ _ _).mono ?_
      rintro e w5 ⟨rfl,b5⟩
      have hb5:=(b5.block _ (by simp;omega)).trans ((Below.heap_alloc wr (.cells #[.int .i64 x.at_.n,.int .i64 x.at_.r,.int .i64 bn,.int .i64 br,.string x.name,.string x.value] 58) _ zz2).trans hbx)
      obtain ⟨m0,m1,m2,m3⟩:=SJ hb5
      have i0:w5.cell? ⟨wr.heap.size,0,none⟩=some (.int .i64 x.at_.n):=Z0 b5 (by go_simp)
      have i1:w5.cell? ⟨wr.heap.size,1,none⟩=some (.int .i64 x.at_.r):=Z0 b5 (by go_simp)
      have i5:w5.cell? ⟨wr.heap.size,5,none⟩=some (.string x.value):=Z0 b5 (by go_simp)
      have p0:=Z0 b5 (Z1 q0 (.cells #[.int .i64 x.at_.n,.int .i64 x.at_.r,.int .i64 bn,.int .i64 br,.string x.name,.string x.value] 58))
      have p1:=Z0 b5 (Z1 q1 (.cells #[.int .i64 x.at_.n,.int .i64 x.at_.r,.int .i64 bn,.int .i64 br,.string x.name,.string x.value] 58))
      have hB5:Below w.heap.size w w5:=(hB.alloc hB.size (.cells #[.int .i64 x.at_.n,.int .i64 x.at_.r,.int .i64 bn,.int .i64 br,.string x.name,.string x.value] 58)).trans (b5.mono (by have:=hB.size;simp;omega))
      have zz5:wr.heap.size<w5.heap.size:=Zj i0
      clear b5 x0 x1 x2 x3 x4 x5 q0 q1 l0 l1 l2 l3 hbx c0' hB
      go_wp2_with fail
      go_roundg (L.length - (k+1))
      case measure=>rw[HG.out];omega
      case rel =>
       refine ⟨k+1,rfl,hlt,by go_num,by rw[HS2.out];rfl,?_,?_,?_,?_⟩
       ·rw[HS2.out];exact Z1q hb5
       ·exact (((Ext.refl (·=w.heap.size+1) w5).setCell (p:=⟨w.heap.size+1,0,none⟩) (.inr rfl) _).setCell (p:=⟨w.heap.size+1,1,none⟩) (.inr rfl) _).keep p0 (by omega)
       ·exact (((Ext.refl (·=w.heap.size+1) w5).setCell (p:=⟨w.heap.size+1,0,none⟩) (.inr rfl) _).setCell (p:=⟨w.heap.size+1,1,none⟩) (.inr rfl) _).keep p1 (by omega)
       ·exact (hB5.setCell (by simp) _).setCell (by simp) _
     ·have hs2:Zz (L.take (k+1)) ⟨⟨bn,br⟩,nm⟩=rb:=by rw[HST.out,Xg,if_neg (fun h=>hc h.2)]
      have HS2:=Lib.hid hs2
      have hc':Yd ⟨x.at_.n,x.at_.r⟩ ⟨(W7 rb).n,(W7 rb).r⟩≤0:=Int.not_lt.1 hc
      clear hs2 hc
      go_wp2_with fail
      refine (X4 _ _ _ _ _).mono ?_
      rintro e w5 ⟨rfl,b5⟩
      have hb5:=(b5.block _ (by simp;omega)).trans ((Below.heap_alloc wr (.cells #[.int .i64 x.at_.n,.int .i64 x.at_.r,.int .i64 bn,.int .i64 br,.string x.name,.string x.value] 58) _ zz2).trans hbx)
      have p0:=Z0 b5 (Z1 q0 (.cells #[.int .i64 x.at_.n,.int .i64 x.at_.r,.int .i64 bn,.int .i64 br,.string x.name,.string x.value] 58))
      have p1:=Z0 b5 (Z1 q1 (.cells #[.int .i64 x.at_.n,.int .i64 x.at_.r,.int .i64 bn,.int .i64 br,.string x.name,.string x.value] 58))
      have hB5:Below w.heap.size w w5:=(hB.alloc hB.size (.cells #[.int .i64 x.at_.n,.int .i64 x.at_.r,.int .i64 bn,.int .i64 br,.string x.name,.string x.value] 58)).trans (b5.mono (by have:=hB.size;simp;omega))
      clear b5 x0 x1 x2 x3 x4 x5 q0 q1 l0 l1 l2 l3 hbx c0' hB
      go_wp2_with fail
      go_roundg (L.length - (k+1))
      case measure=>rw[HG.out];omega
      case rel=>exact ⟨k+1,rfl,hlt,by go_num,by rw[HS2.out],by rw[HS2.out];exact hb5,p0,p1,hB5⟩
    ·have hs2:Zz (L.take (k+1)) ⟨⟨bn,br⟩,nm⟩=rb:=by
      rw[HST.out,Xg,if_neg]
      rintro ⟨h1,_⟩
      rw[Z8.pl] at h1
      exact hnm (by rw[(Pl.mk.inj h1).2])
     have HS2:=Lib.hid hs2
     have hn1:(x.name.toList == nm.toList)=false:=by simp[hnm]
     clear hs2 hnm hbk e1 e2
     go_wp2_with fail
     go_roundg (L.length - (k+1))
     case measure=>rw[HG.out];omega
     case rel=>exact ⟨k+1,rfl,hlt,by go_num,by rw[HS2.out],by rw[HS2.out,Below.heap_alloc _ _ _ zz2];exact hbx,Z1 q0 _,Z1 q1 _,hB.alloc hB.size _⟩
   ·have hs2:Zz (L.take (k+1)) ⟨⟨bn,br⟩,nm⟩=rb:=by
     rw[HST.out,Xg,if_neg]
     rintro ⟨h1,_⟩
     rw[Z8.pl] at h1
     exact hbk (Pl.mk.inj h1).1
    have HS2:=Lib.hid hs2
    clear hs2
    by_cases e1:x.blk.n=bn
    ·have e2:¬ x.blk.r=br:=fun e2=>hbk (S2 e1 e2)
     clear hbk
     go_wp2_with fail
     go_roundg (L.length - (k+1))
     case measure=>rw[HG.out];omega
     case rel=>exact ⟨k+1,rfl,hlt,by go_num,by rw[HS2.out],by rw[HS2.out,Below.heap_alloc _ _ _ zz2];exact hbx,Z1 q0 _,Z1 q1 _,hB.alloc hB.size _⟩
    ·clear hbk
     go_wp2_with fail
     go_roundg (L.length - (k+1))
     case measure=>rw[HG.out];omega
     case rel=>exact ⟨k+1,rfl,hlt,by go_num,by rw[HS2.out],by rw[HS2.out,Below.heap_alloc _ _ _ zz2];exact hbx,Z1 q0 _,Z1 q1 _,hB.alloc hB.size _⟩
  ·obtain rfl:k=L.length:=by omega
   rw[List.take_length] at HRB
   have HRR:Hid (∀ x,rb=some x→Z7 x.at_=true):=fun x hx=>Re L HRI.out _ x (HRB.out.trans hx)
   cases rb with
   | none =>
    simp only[W7] at l0 l1
    go_wp2_with fail
    go_quiet (fail)
    go_wp2_with fail
    go_ret2
    exact ⟨by rw[HRB.out];rfl,below_drewN hB _⟩
   | some y =>
    have hpos:=UJ (HRR.out y rfl)
    have hn:¬ y.at_.n=0:=by
     have:=HRR.out y rfl
     simp only[Z7,decide_eq_true_eq] at this
     omega
    simp only[W7] at l0 l1
    clear hpos HRR
    go_wp2_with fail
    go_quiet (fail)
    go_wp2_with fail
    go_ret2
    exact ⟨by rw[HRB.out];rfl,below_drewN hB _⟩
theorem Z25 (l:List Atr) (i:Nat) (x:Atr) (hi:i<l.length):((l.flatMap Atr.cells).set (i*2) (.string x.name)).set (i*2+1) (.string x.value)=(l.set i x).flatMap Atr.cells:=by
 induction l generalizing i with
 | nil=>simp at hi
 | cons y l ih =>
  cases i with
  | zero=>simp[Atr.cells]
  | succ i =>
   have:=ih i (by simpa using hi)
   rw[List.set_cons_succ,List.flatMap_cons,List.flatMap_cons,←this]
   show (([.string y.name,.string y.value]++_:List Value).set _ _).set _ _=[.string y.name,.string y.value]++_
   rw[show (i+1)*2=i*2+1+1 from by omega]
   rfl
theorem Z2F {base:Nat} {w:World} {g cap:Nat} {l:List Atr} (h:Own Atr.cells 2 73 base w (.slice (some ⟨g,0,none⟩) l.length cap) l) (i:Nat) (x:Atr) (hi:i<l.length) :
  Own Atr.cells 2 73 base ((w.setCell ⟨g,i*2,none⟩ (.string x.name)).setCell ⟨g,i*2+1,none⟩ (.string x.value)) (.slice (some ⟨g,0,none⟩) l.length cap) (l.set i x):=by
 have h1:=(World.ownsRow.stored h (i*2) (.string x.name)).1
 have h2:=(World.ownsRow.stored h1 (i*2+1) (.string x.value)).1
 unfold Own
 rw[←Z25 l i x hi,List.length_set]
 exact h2
def Ya (O:List Atr) (a:Atr) (k:Nat):List Atr:=O.take k++a :: O.drop k
theorem V0 (O:List Atr) (a:Atr) (k:Nat) (h:k≤O.length):(Ya O a k).length=O.length+1:=by
 simp[Ya];omega
theorem Ui (O:List Atr) (a:Atr) (k:Nat) (h:k≤O.length):(Ya O a k)[k]?=some a:=by
 rw[Ya,List.getElem?_append_right (by simp;omega)]
 simp[Nat.min_eq_left h]
theorem WN (O:List Atr) (a:Atr) (k:Nat) (h:k<O.length):(Ya O a (k+1))[k]?=O[k]?:=by
 rw[Ya,List.getElem?_append_left (by simp;omega),List.getElem?_take,if_pos (by omega)]
theorem Z0k (O:List Atr) (a c:Atr) (k:Nat) (h:O[k]?=some c):((Ya O a (k+1)).set (k+1) c).set k a=Ya O a k:=by
 obtain ⟨hk,hc⟩:=List.getElem?_eq_some_iff.1 h
 have hlen:k<O.length:=hk
 refine List.ext_getElem? fun j=>?_
 have e1:O.drop k=c :: O.drop (k+1):=by rw[List.drop_eq_getElem_cons hk,hc]
 have e2:O.take (k+1)=O.take k++[c]:=by rw[List.take_succ_eq_append_getElem hk,hc]
 have e3:Ya O a (k+1)=O.take k++[c,a]++O.drop (k+1):=by simp[Ya,e2]
 have e4:Ya O a k=O.take k++[a,c]++O.drop (k+1):=by simp[Ya,e1]
 have hl:(O.take k).length=k:=by simp;omega
 rw[e3,e4,List.append_assoc,List.set_append_right _ _ (by rw[hl];omega),hl,List.set_append_right _ _ (by rw[hl];omega),hl]
 simp
theorem Uy {O:List Atr} {a:Atr} {k:Nat} (hk:k≤O.length) (hO:O.Pairwise (fun x y=>x.name.toList<y.name.toList)) (hd:∀ x∈O.drop k,a.name.toList<x.name.toList) (ht:∀ x∈O.take k,x.name.toList<a.name.toList) :
  (Ya O a k).Pairwise (fun x y=>x.name.toList<y.name.toList):=by
 unfold Ya
 have h0:=hO
 rw[←List.take_append_drop k O,List.pairwise_append] at h0
 rw[List.pairwise_append,List.pairwise_cons]
 refine ⟨h0.1,⟨hd,h0.2.1⟩,fun x hx y hy=>?_⟩
 rcases List.mem_cons.1 hy with rfl|hy
 ·exact ht x hx
 ·exact h0.2.2 x hx y hy
theorem SC {O:List Atr} {a x:Atr} {k:Nat}:x∈Ya O a k↔x=a∨x∈O:=by
 unfold Ya
 rw[List.mem_append,List.mem_cons]
 have:=List.take_append_drop k O
 constructor
 ·rintro (h|h|h)
  ·exact .inr (List.mem_of_mem_take h)
  ·exact .inl h
  ·exact .inr (List.mem_of_mem_drop h)
 ·rintro (h|h)
  ·exact .inr (.inl h)
  ·rw[←this,List.mem_append] at h
   exact h.elim .inl (fun h=>.inr (.inr h))
structure VT (L:List Z8) (b:St) (k:Nat) (O:List Atr):Prop where
 rising:O.Pairwise (fun x y=>x.name.toList<y.name.toList)
 mem:∀ a,a∈O↔(∃ y∈L.take k,y.blk=b∧y.name=a.name)∧a.value=Vi (Zz L ⟨b,a.name⟩)
theorem VT.skip {L:List Z8} {b:St} {k:Nat} {O:List Atr} (h:VT L b k O) {y:Z8} (hy:L[k]?=some y) (hn:y.blk≠b∨∃ a∈O,a.name=y.name):VT L b (k+1) O:=by
 refine ⟨h.rising,fun a=>?_⟩
 rw[h.mem a,Uk hy]
 constructor
 ·rintro ⟨⟨z,hz,r⟩,e⟩;exact ⟨⟨z,by simp[hz],r⟩,e⟩
 ·rintro ⟨⟨z,hz,r1,r2⟩,e⟩
  rcases List.mem_append.1 hz with hz|hz
  ·exact ⟨⟨z,hz,r1,r2⟩,e⟩
  ·rw[List.mem_singleton.1 hz] at r1 r2
   rcases hn with hn|⟨c,hc,ec⟩
   ·exact absurd r1 hn
   ·obtain ⟨⟨u,hu,s1,s2⟩,_⟩:=(h.mem c).1 hc
    exact ⟨⟨u,hu,s1,by rw[s2,ec,r2]⟩,e⟩
theorem VT.ins {L:List Z8} {b:St} {k:Nat} {O:List Atr} (h:VT L b k O) {y:Z8} (hy:L[k]?=some y) (hb:y.blk=b) {j:Nat} (hj:j≤O.length)
  (hd:∀ x∈O.drop j,y.name.toList<x.name.toList) (ht:∀ x∈O.take j,x.name.toList<y.name.toList):VT L b (k+1) (Ya O ⟨y.name,Vi (Zz L ⟨b,y.name⟩)⟩ j):=by
 refine ⟨Uy hj h.rising hd ht,fun a=>?_⟩
 rw[SC,h.mem a,Uk hy]
 constructor
 ·rintro (rfl|⟨⟨z,hz,r⟩,e⟩)
  ·exact ⟨⟨y,by simp,hb,rfl⟩,rfl⟩
  ·exact ⟨⟨z,by simp[hz],r⟩,e⟩
 ·rintro ⟨⟨z,hz,r1,r2⟩,e⟩
  rcases List.mem_append.1 hz with hz|hz
  ·exact .inr ⟨⟨z,hz,r1,r2⟩,e⟩
  ·rw[List.mem_singleton.1 hz] at r1 r2
   left
   cases a
   simp only at r2 e
   rw[e,r2]
theorem Vv {L:List Z8} (hr:∀ x∈L,Z7 x.at_=true) (p:Pl):(Zz L p).isSome=true↔∃ y∈L,y.pl=p:=by
 refine WB (p:=fun L=>(∀ x∈L,Z7 x.at_=true)→((Zz L p).isSome=true↔∃ y∈L,y.pl=p)) ?_ ?_ L hr
 ·intro _;simp[Zz]
 ·intro L y ih hr
  have ih:=ih (fun x hx=>hr x (by simp[hx]))
  rw[WH,Xg]
  split
  ·rename_i h
   simp only[Option.isSome_some,true_iff]
   exact ⟨y,by simp,h.1⟩
  ·rename_i h
   rw[ih]
   constructor
   ·rintro ⟨z,hz,e⟩;exact ⟨z,by simp[hz],e⟩
   ·rintro ⟨z,hz,e⟩
    rcases List.mem_append.1 hz with hz|hz
    ·exact ⟨z,hz,e⟩
    ·rw[List.mem_singleton.1 hz] at e
     refine ih.1 ?_
     cases hb:Zz L p with
     | some x=>rfl
     | none =>
      exfalso
      apply h
      refine ⟨e,?_⟩
      rw[hb]
      have:=UJ (hr y (by simp))
      have hc:=(WA ⟨0,0⟩ y.at_).2 this
      show 0<Yd y.at_ ⟨0,0⟩
      unfold ZK at this
      rw[show y.at_=⟨y.at_.n,y.at_.r⟩ from rfl,Ts]
      simp only at this
      rw[if_neg (by omega)]
      split
      ·omega
      ·rw[if_neg (by omega),if_pos (by omega)];omega
theorem VT.allList {L:List Z8} (hr:∀ x∈L,Z7 x.at_=true) {b:St} {O:List Atr} (h:VT L b L.length O) {vs:List (Pl × Wr)} (hv:∀ p,Z3 vs p=Zz L p):XE vs b O:=by
 refine ⟨fun a=>?_,h.rising⟩
 rw[h.mem a,List.take_length,hv]
 have hs:=Vv hr (⟨b,a.name⟩:Pl)
 constructor
 ·rintro ⟨⟨y,hy,e1,e2⟩,e⟩
  have:=hs.2 ⟨y,hy,by rw[Z8.pl,e1,e2]⟩
  obtain ⟨x,hx⟩:=Option.isSome_iff_exists.1 this
  exact ⟨x,hx,by rw[e,hx];rfl⟩
 ·rintro ⟨x,hx,e⟩
  obtain ⟨y,hy,ey⟩:=hs.1 (by rw[hx];rfl)
  rw[Z8.pl] at ey
  exact ⟨⟨y,hy,(Pl.mk.inj ey).1,(Pl.mk.inj ey).2⟩,by rw[hx];exact e.symm⟩
def WV (x:Z8) (b:St) (O:List Atr):Bool:=decide (x.blk=b) && O.all (fun a=>!(a.name.toList == x.name.toList))
theorem QW {x:Z8} {b:St} {O:List Atr} {j:Nat} {a:Atr} (h:O[j]?=some a):WV x b (O.take (j+1))=(WV x b (O.take j) && !(a.name.toList == x.name.toList)):=by
 obtain ⟨hj,e⟩:=List.getElem?_eq_some_iff.1 h
 rw[List.take_succ_eq_append_getElem hj,e]
 simp[WV,Bool.and_assoc]
theorem Vx {base:Nat} {w:World} {g n cap:Nat} {l:List Atr} (h:Own Atr.cells 2 73 base w (.slice (some ⟨g,0,none⟩) n cap) l) :
  n=l.length∧n≤cap∧cap≤maxLen∧g<w.heap.size∧∀ (i:Nat) (a:Atr),l[i]?=some a→w.cell? ⟨g,i*2,none⟩=some (.string a.name)∧w.cell? ⟨g,i*2+1,none⟩=some (.string a.value)∧w.frozen? ⟨g,i*2,none⟩=false∧w.frozen? ⟨g,i*2+1,none⟩=false:=by
 rcases h.eq_slice with ⟨h1,_⟩|⟨g',cap',h1,_,hlt⟩
 ·simp at h1
 ·simp only[Value.slice.injEq,Option.some.injEq,Addr.mk.injEq,and_true] at h1
  obtain ⟨rfl,rfl,rfl⟩:=h1
  obtain ⟨va,vc,hv,h2,h3,h4⟩:=h.slice (fun _=>rfl)
  simp only[Value.slice.injEq,true_and] at hv
  obtain ⟨rfl,rfl⟩:=hv
  refine ⟨rfl,h2,h3,hlt,fun i a hi=>?_⟩
  obtain ⟨b,o,he,hc⟩:=h4 (by intro e;rw[e] at hi;simp at hi)
  simp only[Option.some.injEq,Addr.mk.injEq,and_true] at he
  obtain ⟨rfl,rfl⟩:=he
  have c1:=hc i a hi 0 _ rfl
  have c2:=hc i a hi 1 _ rfl
  rw[Nat.zero_add] at c1 c2
  exact ⟨c1,c2,World.ownsRow.frozenAt h _,World.ownsRow.frozenAt h _⟩
theorem SL {base:Nat} {w:World} {g n cap:Nat} {l:List Atr} (h:Own Atr.cells 2 73 base w (.slice (some ⟨g,0,none⟩) n cap) l) (i:Nat) (x:Atr) (hi:i<l.length) :
  Own Atr.cells 2 73 base ((w.setCell ⟨g,i*2,none⟩ (.string x.name)).setCell ⟨g,i*2+1,none⟩ (.string x.value)) (.slice (some ⟨g,0,none⟩) n cap) (l.set i x):=by
 obtain ⟨rfl,_⟩:=Vx h
 exact Z2F h i x hi
theorem Q5 {base:Nat} {w:World} {g n cap:Nat} {O:List Atr} {a c:Atr} {k:Nat} (h:Own Atr.cells 2 73 base w (.slice (some ⟨g,0,none⟩) n cap) (Ya O a (k+1))) (hc:O[k]?=some c) :
  Own Atr.cells 2 73 base ((((w.setCell ⟨g,(k+1)*2,none⟩ (.string c.name)).setCell ⟨g,(k+1)*2+1,none⟩ (.string c.value)).setCell ⟨g,k*2,none⟩ (.string a.name)).setCell ⟨g,k*2+1,none⟩ (.string a.value)) (.slice (some ⟨g,0,none⟩) n cap) (Ya O a k):=by
 have hk:=(List.getElem?_eq_some_iff.1 hc).1
 have hl:=V0 O a (k+1) hk
 have h1:=SL h (k+1) c (by omega)
 have h3:=SL h1 k a (by rw[List.length_set];omega)
 rw[Z0k O a c k hc] at h3
 exact h3
theorem Z1G (r B:Nat) (L:List Z8) (bn br:Int) (w:World) (h:WW w r B L) (hsz:L.length≤1000) (hri:∀ x∈L,Z7 x.at_=true) :
  Calls Tryz.prog 108 #[.pointer (some ⟨r,0,none⟩),.agg #[.int .i64 bn,.int .i64 br]] w
   fun e w'=>∃ v O,e=.returned v∧Own Atr.cells 2 73 w.heap.size w' v O∧VT L ⟨bn,br⟩ L.length O∧Below w.heap.size w w':=by
 have HREF:=Lib.hid h
 obtain ⟨i0,hi,hz0,hz1',hz2⟩:=info_parts W5
 obtain ⟨v,hb,hown⟩:=h
 obtain ⟨va,vc,rfl,hcap,hmax,hcs⟩:=hown.slice (fun _=>rfl)
 unfold maxLen at hmax
 have c0:=Wm hb
 have hrl:r<w.heap.size:=Zj c0
 have HC:=Lib.hid hcs
 have HRI:=Lib.hid hri
 clear hb hown hcs hri
 go_enter Tryz.func108,Tryz.ntmps108
 go_wp2_with fail
 go_loopg [5,6] L.length (fun g s i wx=>∃ (k:Nat) (O:List Atr),g=L.length - k∧k≤L.length∧i=.int .i64 k∧O.length≤k∧Hid (VT L ⟨bn,br⟩ k O)∧Own Atr.cells 2 73 (w.heap.size+1) wx s O ∧
  wx.cell? ⟨w.heap.size,0,none⟩=some (.int .i64 bn)∧wx.cell? ⟨w.heap.size,1,none⟩=some (.int .i64 br)∧Below w.heap.size w wx)
 case atStart =>
  refine ⟨0,[],rfl,Nat.zero_le _,rfl,Nat.le_refl _,?_,Own.nil,by go_simp,by go_simp,(Below.refl _ _).alloc (Nat.le_refl _) _⟩
  exact ⟨List.Pairwise.nil,fun a=>by simp⟩
 case round =>
  obtain ⟨k,O,hg,hk,rfl,hol,hgath,hown,q0,q1,hB⟩:=hrel
  have HG:=Lib.hid hg
  clear hg
  have c0':=Z0 hB c0
  by_cases hlt:k<L.length
  ·obtain ⟨x,hx⟩:∃ x,L[k]?=some x:=⟨_,List.getElem?_eq_getElem hlt⟩
   obtain ⟨bs,os,rfl,hcc⟩:=HC.out (by intro e;rw[e] at hlt;simp at hlt)
   have x0:wr.cell? ⟨bs,os+k*6,none⟩=some (.int .i64 x.at_.n):=Z0 hB (hcc k x hx 0 _ rfl)
   have x1:wr.cell? ⟨bs,os+k*6+1,none⟩=some (.int .i64 x.at_.r):=Z0 hB (hcc k x hx 1 _ rfl)
   have x2:wr.cell? ⟨bs,os+k*6+2,none⟩=some (.int .i64 x.blk.n):=Z0 hB (hcc k x hx 2 _ rfl)
   have x3:wr.cell? ⟨bs,os+k*6+3,none⟩=some (.int .i64 x.blk.r):=Z0 hB (hcc k x hx 3 _ rfl)
   have x4:wr.cell? ⟨bs,os+k*6+4,none⟩=some (.string x.name):=Z0 hB (hcc k x hx 4 _ rfl)
   have x5:wr.cell? ⟨bs,os+k*6+5,none⟩=some (.string x.value):=Z0 hB (hcc k x hx 5 _ rfl)
   have HX:=Lib.hid hx
   have zz:=Zj q0
   clear hx hcc
   have p0:=Z1 q0 (.cells #[.int .i64 x.at_.n,.int .i64 x.at_.r,.int .i64 x.blk.n,.int .i64 x.blk.r,.string x.name,.string x.value] 58)
   have p1:=Z1 q1 (.cells #[.int .i64 x.at_.n,.int .i64 x.at_.r,.int .i64 x.blk.n,.int .i64 x.blk.r,.string x.name,.string x.value] 58)
   obtain ⟨oa,oc,rfl,hocap,homax,hocs⟩:=hown.slice (fun _=>rfl)
   unfold maxLen at homax
   have HOC:=Lib.hid hocs
   clear hocs
   have hB1:=hB.alloc hB.size (.cells #[.int .i64 x.at_.n,.int .i64 x.at_.r,.int .i64 x.blk.n,.int .i64 x.blk.r,.string x.name,.string x.value] 58)
   have hown1:=hown.alloc (.cells #[.int .i64 x.at_.n,.int .i64 x.at_.r,.int .i64 x.blk.n,.int .i64 x.blk.r,.string x.name,.string x.value] 58)
   obtain ⟨W1,hW⟩:∃ W1,W1=wr.alloc (.cells #[.int .i64 x.at_.n,.int .i64 x.at_.r,.int .i64 x.blk.n,.int .i64 x.blk.r,.string x.name,.string x.value] 58):=⟨_,rfl⟩
   rw[←hW] at p0 p1 hB1 hown1
   have HW:=Lib.hid hW
   have n4:W1.cell? ⟨wr.heap.size,4,none⟩=some (.string x.name):=by rw[hW];go_simp
   clear hW
   by_cases hbk:x.blk=⟨bn,br⟩
   ·have e1:x.blk.n=bn:=by rw[hbk]
    have e2:x.blk.r=br:=by rw[hbk]
    have HE:=Lib.hid hbk
    have hsp:WV x ⟨bn,br⟩ (O.take 0)=true:=by simp[WV,hbk]
    have HSP:=Lib.hid hsp
    rw[e1] at x2
    rw[e2] at x3
    rw[e1,e2] at HW
    clear hbk e1 e2 hsp
    go_wp2_with fail
    go_loopg [8,9] O.length (fun g nw kk wy=>∃ j:Nat,g=O.length - j∧j≤O.length∧kk=.int .i64 j∧nw=.bool (WV x ⟨bn,br⟩ (O.take j))∧Below W1.heap.size W1 wy)
    case atStart=>exact ⟨0,rfl,Nat.zero_le _,rfl,by rw[HSP.out],by rw[HW.out];exact Below.refl _ _⟩
    case round =>
     obtain ⟨j,hj0,hj,rfl,rfl,hY⟩:=hrel
     have HJ:=Lib.hid hj0
     clear hj0
     have n4':=Z0 hY n4
     by_cases hjl:j<O.length
     ·obtain ⟨a,ha⟩:∃ a,O[j]?=some a:=⟨_,List.getElem?_eq_getElem hjl⟩
      have hst:=QW (x:=x) (b:=⟨bn,br⟩) ha
      obtain ⟨ob,oo,rfl,hoc⟩:=HOC.out (by intro e;rw[e] at hjl;simp at hjl)
      have a0:wr.cell? ⟨ob,oo+j*2,none⟩=some (.string a.name):=Z0 hY (by rw[HW.out];exact Z1 (hoc j a ha 0 _ rfl) _)
      generalize WV x ⟨bn,br⟩ (O.take j)=nb at *
      cases nb with
      | false =>
       have HST:=Lib.hid hst
       clear hst hoc ha
       go_wp2_with fail
       go_quiet (fail)
       go_wp2_with fail
       go_roundg (O.length - (j+1))
       case measure=>rw[HJ.out];omega
       case rel=>exact ⟨j+1,rfl,hjl,by go_num,by rw[HST.out];rfl,below_drewN hY _⟩
      | true =>
       by_cases hnm:a.name.toList=x.name.toList
       ·have hn1:(a.name.toList == x.name.toList)=true:=by simp[hnm]
        rw[hn1] at hst
        have HST:=Lib.hid hst
        clear hst hoc ha hnm
        go_wp2_with fail
        go_quiet (fail)
        go_wp2_with fail
        go_roundg (O.length - (j+1))
        case measure=>rw[HJ.out];omega
        case rel=>exact ⟨j+1,rfl,hjl,by go_num,by rw[HST.out];rfl,below_drewN hY _⟩
       ·have hn1:(a.name.toList == x.name.toList)=false:=by simp[hnm]
        rw[hn1] at hst
        have HST:=Lib.hid hst
        clear hst hoc ha hnm
        go_wp2_with fail
        go_quiet (fail)
        go_wp2_with fail
        go_roundg (O.length - (j+1))
        case measure=>rw[HJ.out];omega
        case rel=>exact ⟨j+1,rfl,hjl,by go_num,by rw[HST.out];rfl,below_drewN hY _⟩
     ·obtain rfl:j=O.length:=by omega
      rw[List.take_length]
      generalize hnb:WV x ⟨bn,br⟩ O=nb at *
      have HNB:=Lib.hid hnb
      clear hnb
      cases nb with
      | false =>
       go_wp2_with fail
       go_roundg (L.length - (k+1))
       case measure=>rw[HG.out];omega
       case rel =>
        refine ⟨k+1,O,rfl,hlt,by go_num,by omega,hgath.out.skip HX.out (.inr ?_),hown1.ext (Ext.of_below (S:=fun _=>False) hY) (fun _ _ h=>h),Z0 hY p0,Z0 hY p1,hB1.trans (hY.mono hB1.size)⟩
        have:=HNB.out
        rw[WV,HE.out] at this
        simp only[decide_true,Bool.true_and,List.all_eq_false,Bool.not_eq_true,Bool.not_eq_false',beq_iff_eq] at this
        obtain ⟨a,ha,e⟩:=this
        exact ⟨a,ha,(ZO _ _).1 e⟩
      | true =>
       have hBy:Below w.heap.size w wr:=hB1.trans (hY.mono hB1.size)
       have hlnew:∀ a∈O,a.name.toList≠x.name.toList:=by
        have:=HNB.out
        rw[WV] at this
        simp only[Bool.and_eq_true,List.all_eq_true,Bool.not_eq_true',beq_eq_false_iff_ne] at this
        exact this.2
       have HLN:=Lib.hid hlnew
       clear hlnew
       have y0:=Z0 hY p0
       have y1:=Z0 hY p1
       go_wp2_with fail
       refine (Z2x r B L bn br x.name wr (HREF.out.below hBy) hsz HRI.out).mono ?_
       rintro e w5 ⟨rfl,b5⟩
       generalize hvl:Vi (Zz L ⟨⟨bn,br⟩,x.name⟩)=vl
       generalize (Zz L ⟨⟨bn,br⟩,x.name⟩).isSome=sm
       have HVL:=Lib.hid hvl
       have g4:=Z0 b5 n4'
       have g0:=Z0 b5 y0
       have g1:=Z0 b5 y1
       have hown5:=(hown1.ext (Ext.of_below (S:=fun _=>False) hY) (fun _ _ h=>h)).ext (Ext.of_below (S:=fun _=>False) b5) (fun _ _ h=>h)
       have hB5:Below w.heap.size w w5:=hBy.trans (b5.mono hBy.size)
       have zz5:=Zj g0
       clear hvl y0 y1 x0 x1 x2 x3 x4 x5 p0 p1 n4 n4' hBy b5 hY c0' hB hB1 hown hown1 zz HOC
       go_wp2_with (at_builtin;refine Zq rfl _ _ _ rfl i0 (.agg #[.string ⟨#[]⟩,.string ⟨#[]⟩]) 32 Tryz.underlying24 hi hz0 hz1' hz2 rfl (by omega) (fun _=>rfl) (fun x u hu=>by simp[Atr.cells] at hu;rcases hu with rfl|rfl <;> rfl) rfl (hown5.alloc _) ⟨x.name,vl⟩ w5.heap.size 1 rfl ?_ (by unfold maxLen;omega) (by omega) (by simp;omega) ?_)
       ·intro j u hj
        have hju:(j=0∧u=.string x.name)∨(j=1∧u=.string vl):=by
         match j,hj with
         | 0,hj=>simp[Atr.cells] at hj;exact .inl ⟨rfl,hj.symm⟩
         | 1,hj=>simp[Atr.cells] at hj;exact .inr ⟨rfl,hj.symm⟩
         | n+2,hj=>simp[Atr.cells] at hj
        rcases hju with ⟨rfl,rfl⟩|⟨rfl,rfl⟩ <;> go_simp
       ·intro v' w6 hown6 hx6
        have hne:∀ b,(Value.slice oa O.length oc).ownBlock=some b→w.heap.size+1≤b:=fun b hb=>(hown5.blk b hb).1
        have t0:=hx6.keep (Z1 g0 _) (fun e=>by have:=hne _ e;omega)
        have t1:=hx6.keep (Z1 g1 _) (fun e=>by have:=hne _ e;omega)
        have hB6:Below w.heap.size w w6:=Ext.new (hB5.alloc (by omega) _) hx6 (fun b hb _ e=>by have:=hne _ e;omega) (by simp;omega)
        obtain ⟨g6,cp6,rfl,hg6⟩:∃ g c,v'=.slice (some ⟨g,0,none⟩) (O.length+1) c∧w.heap.size+1≤g:=by
         rcases hown6.eq_slice with ⟨_,h⟩|⟨g,c,h,h2,_⟩
         ·simp at h
         ·exact ⟨g,c,by simpa using h,h2⟩
        clear hx6 g0 g1 g4 hown5 hB5 hne
        clear q0 q1 HC HSP HW HJ HNB
        have hins:O++[⟨x.name,vl⟩]=Ya O ⟨x.name,vl⟩ O.length:=by simp[Ya]
        rw[hins] at hown6
        clear hins
        go_wp2_with fail
        go_loopg [12] O.length (fun g kk wz=>∃ j:Nat,g=j∧j≤O.length∧kk=.int .i64 j∧Hid (∀ y∈O.drop j,x.name.toList<y.name.toList)∧Own Atr.cells 2 73 (w.heap.size+1) wz (.slice (some ⟨g6,0,none⟩) (O.length+1) cp6) (Ya O ⟨x.name,vl⟩ j)∧wz.cell? ⟨w.heap.size,0,none⟩=some (.int .i64 bn)∧wz.cell? ⟨w.heap.size,1,none⟩=some (.int .i64 br)∧Below w.heap.size w wz)
        case atStart=>exact ⟨O.length,rfl,Nat.le_refl _,by go_num,fun y hy=>by simp at hy,hown6,t0,t1,hB6⟩
        case round =>
         obtain ⟨j,hjg,hj,rfl,hdrop,hown7,r0,r1,hB7⟩:=hrel
         have HJG:=Lib.hid hjg
         clear hjg
         obtain ⟨-,hcap7,hmax7,hg7,hcells7⟩:=Vx hown7
         unfold maxLen at hmax7
         cases j with
         | zero =>
          clear hcells7
          go_wp2_with fail
          go_quiet (fail)
          go_wp2_with fail
          go_roundg (L.length - (k+1))
          case measure=>rw[HG.out];omega
          case rel =>
           refine ⟨k+1,_,rfl,hlt,by go_num,?_,hgath.out.ins HX.out HE.out (j:=0) (Nat.zero_le _) hdrop.out (fun y hy=>by simp at hy),?_,r0,r1,below_drewN hB7 _⟩
           ·rw[V0 _ _ _ (Nat.zero_le _)];omega
           ·rw[HVL.out];exact hown7
         | succ j =>
          obtain ⟨c,hc⟩:∃ c,O[j]?=some c:=⟨_,List.getElem?_eq_getElem hj⟩
          obtain ⟨s0,s1,s2,s3⟩:=hcells7 (j+1) _ (Ui O _ (j+1) hj)
          obtain ⟨s4,s5,s6,s7⟩:=hcells7 j c ((WN O _ j hj).trans hc)
          simp only at s0 s1
          have HC:=Lib.hid hc
          have hne:¬ g6=wr.heap.size:=by omega
          clear hcells7 hc
          by_cases hcl:x.name.toList<c.name.toList
          ·have hcl':Op.bytesLess x.name.toList c.name.toList=true:=by rw[bytesLess_eq];simpa using hcl
           have HCL:=Lib.hid hcl
           clear hcl
           go_wp2_with fail
           go_quiet (fail)
           have hbq:Below wr.heap.size wr (wr.drewN nq):=below_drewN (Below.refl _ _) _
           have hown8:=hown7.ext (Ext.of_below (S:=fun _=>False) hbq) (fun _ _ h=>h)
           have r0':=Z0 hbq r0
           have r1':=Z0 hbq r1
           have hB8:Below w.heap.size w (wr.drewN nq):=below_drewN hB7 _
           clear hbq s0 s1 s2 s3 s4 s5 s6 s7 hg7 hne r0 r1
           generalize wr.drewN nq=wq at *
           obtain ⟨-,-,-,hg7,hcells7⟩:=Vx hown8
           obtain ⟨s0,s1,s2,s3⟩:=hcells7 (j+1) _ (Ui O _ (j+1) hj)
           obtain ⟨s4,s5,s6,s7⟩:=hcells7 j c ((WN O _ j hj).trans HC.out)
           simp only at s0 s1
           have hne:¬ g6=wq.heap.size:=by omega
           clear hcells7
           go_wp2_with fail
           go_roundg j
           case measure=>rw[HJG.out];omega
           case rel =>
            have hs8:=hB8.size
            refine ⟨j,rfl,by omega,by go_num,?_,(Q5 hown8 HC.out).alloc _,?_,?_,?_⟩
            ·intro y hy
             obtain ⟨hj',hc'⟩:=List.getElem?_eq_some_iff.1 HC.out
             rw[List.drop_eq_getElem_cons hj',hc'] at hy
             rcases List.mem_cons.1 hy with rfl|hy
             ·exact HCL.out
             ·exact hdrop.out y hy
            ·exact Z1 ((((((Ext.refl (·=g6) wq).setCell (p:=⟨g6,(j+1)*2,none⟩) (.inr rfl) _).setCell (p:=⟨g6,(j+1)*2+1,none⟩) (.inr rfl) _).setCell (p:=⟨g6,j*2,none⟩) (.inr rfl) _).setCell (p:=⟨g6,j*2+1,none⟩) (.inr rfl) _).keep r0' (by omega)) _
            ·exact Z1 ((((((Ext.refl (·=g6) wq).setCell (p:=⟨g6,(j+1)*2,none⟩) (.inr rfl) _).setCell (p:=⟨g6,(j+1)*2+1,none⟩) (.inr rfl) _).setCell (p:=⟨g6,j*2,none⟩) (.inr rfl) _).setCell (p:=⟨g6,j*2+1,none⟩) (.inr rfl) _).keep r1' (by omega)) _
            ·exact ((((hB8.setCell (by simp;omega) _).setCell (by simp;omega) _).setCell (by simp;omega) _).setCell (by simp;omega) _).alloc (by simp;omega) _
          ·have hcl':Op.bytesLess x.name.toList c.name.toList=false:=by rw[bytesLess_eq];simpa using hcl
           have HCL:=Lib.hid hcl
           clear hcl
           go_wp2_with fail
           go_quiet (fail)
           go_wp2_with fail
           go_roundg (L.length - (k+1))
           case measure=>rw[HG.out];omega
           case rel =>
            refine ⟨k+1,_,rfl,hlt,by go_num,?_,hgath.out.ins HX.out HE.out (j:=j+1) hj hdrop.out ?_,?_,r0,r1,below_drewN hB7 _⟩
            ·rw[V0 _ _ _ hj];omega
            ·have hcx:c.name.toList<x.name.toList:=by
              refine Classical.byContradiction fun h=>HLN.out c (List.mem_of_getElem? HC.out) (WE _ _ h HCL.out)
             intro y hy
             obtain ⟨hj',hc'⟩:=List.getElem?_eq_some_iff.1 HC.out
             rw[List.take_succ_eq_append_getElem hj',hc'] at hy
             rcases List.mem_append.1 hy with hy|hy
             ·have hp:=hgath.out.rising
              rw[←List.take_append_drop j O,List.pairwise_append] at hp
              exact List.lt_trans (hp.2.2 y hy c (by rw[List.drop_eq_getElem_cons hj',hc'];simp)) hcx
             ·rw[List.mem_singleton.1 hy];exact hcx
            ·rw[HVL.out];exact hown7
   ·have HA:=Lib.hid hbk
    by_cases e1:x.blk.n=bn
    ·have e2:¬ x.blk.r=br:=fun e2=>hbk (S2 e1 e2)
     clear hbk
     go_wp2_with fail
     go_loopg [8,9] O.length (fun g nw kk wy=>∃ j:Nat,g=O.length - j∧j≤O.length∧kk=.int .i64 j∧nw=.bool false∧Below W1.heap.size W1 wy)
     case atStart=>exact ⟨0,rfl,Nat.zero_le _,rfl,rfl,by rw[HW.out];simp only[e1];exact Below.refl _ _⟩
     case round =>
      obtain ⟨j,hj0,hj,rfl,rfl,hY⟩:=hrel
      have HJ:=Lib.hid hj0
      clear hj0
      by_cases hjl:j<O.length
      ·go_wp2_with fail
       go_quiet (fail)
       go_wp2_with fail
       go_roundg (O.length - (j+1))
       case measure=>rw[HJ.out];omega
       case rel=>exact ⟨j+1,rfl,hjl,by go_num,rfl,below_drewN hY _⟩
      ·go_wp2_with fail
       go_roundg (L.length - (k+1))
       case measure=>rw[HG.out];omega
       case rel=>exact ⟨k+1,O,rfl,hlt,by go_num,by omega,hgath.out.skip HX.out (.inl HA.out),hown1.ext (Ext.of_below (S:=fun _=>False) hY) (fun _ _ h=>h),Z0 hY p0,Z0 hY p1,hB1.trans (hY.mono hB1.size)⟩
    ·clear hbk
     go_wp2_with fail
     go_loopg [8,9] O.length (fun g nw kk wy=>∃ j:Nat,g=O.length - j∧j≤O.length∧kk=.int .i64 j∧nw=.bool false∧Below W1.heap.size W1 wy)
     case atStart=>exact ⟨0,rfl,Nat.zero_le _,rfl,rfl,by rw[HW.out];exact Below.refl _ _⟩
     case round =>
      obtain ⟨j,hj0,hj,rfl,rfl,hY⟩:=hrel
      have HJ:=Lib.hid hj0
      clear hj0
      by_cases hjl:j<O.length
      ·go_wp2_with fail
       go_quiet (fail)
       go_wp2_with fail
       go_roundg (O.length - (j+1))
       case measure=>rw[HJ.out];omega
       case rel=>exact ⟨j+1,rfl,hjl,by go_num,rfl,below_drewN hY _⟩
      ·go_wp2_with fail
       go_roundg (L.length - (k+1))
       case measure=>rw[HG.out];omega
       case rel=>exact ⟨k+1,O,rfl,hlt,by go_num,by omega,hgath.out.skip HX.out (.inl HA.out),hown1.ext (Ext.of_below (S:=fun _=>False) hY) (fun _ _ h=>h),Z0 hY p0,Z0 hY p1,hB1.trans (hY.mono hB1.size)⟩
  ·obtain rfl:k=L.length:=by omega
   go_wp2_with fail
   go_ret
   exact ⟨_,O,rfl,hown.mono (by omega),hgath.out,hB⟩
structure Acc (L:List Z8):Prop where
 right:∀ x∈L,Z7 x.at_=true
 one:Z14 L
theorem Rr (p:Pl) (L:List Z8):(∀ x∈L,Z7 x.at_=true)→∀ x,Zz L p=some x→Ws L p x:=by
 refine WB (p:=fun L=>(∀ x∈L,Z7 x.at_=true)→∀ x,Zz L p=some x→Ws L p x) ?_ ?_ L
 ·intro _ x h;cases h
 ·intro L y ih hr x h
  have hr':∀ x∈L,Z7 x.at_=true:=fun x hx=>hr x (by simp[hx])
  have ih:=ih hr'
  rw[WH,Xg] at h
  split at h
  ·rename_i hc
   cases h
   refine ⟨y,by simp,hr y (by simp),hc.1,rfl,fun z hz rz pz hlt=>?_⟩
   rcases List.mem_append.1 hz with hz|hz
   ·obtain ⟨u,hu⟩:=Option.isSome_iff_exists.1 ((Vv hr' p).2 ⟨z,hz,pz⟩)
    obtain ⟨v,hv,rv,pv,rfl,mv⟩:=ih u hu
    rw[hu] at hc
    exact mv z hz rz pz (ZC ((T4 _ _).1 hc.2) hlt)
   ·rw[List.mem_singleton.1 hz] at hlt;exact Zm _ hlt
  ·rename_i hc
   obtain ⟨v,hv,rv,pv,rfl,mv⟩:=ih x h
   refine ⟨v,by simp[hv],rv,pv,rfl,fun z hz rz pz hlt=>?_⟩
   rcases List.mem_append.1 hz with hz|hz
   ·exact mv z hz rz pz hlt
   ·rw[List.mem_singleton.1 hz] at hlt pz
    rw[h] at hc
    exact hc ⟨pz,(T4 _ _).2 hlt⟩
theorem Z3u {L:List Z8} (h:Acc L) (p:Pl):Z3 (Zg L).1 p=Zz L p:=by
 have I:=Z1X L h.one
 cases hb:Zz L p with
 | some x=>exact (I.vals p x).2 (Rr p L h.right x hb)
 | none =>
  cases ha:Z3 (Zg L).1 p with
  | none=>rfl
  | some x =>
   obtain ⟨y,hy,_,py,_⟩:=(I.vals p x).1 ha
   have:=(Vv h.right p).2 ⟨y,hy,py⟩
   rw[hb] at this
   cases this
theorem Z3B {L:List Z8} (h:Acc L) (a:St):Yi (Zg L).2 a=YR L a:=by
 have I:=Z1X L h.one
 unfold Yi YR
 have e:((Z3 (Zg L).2 a).getD false=true)↔XM L a=true:=by
  rw[I.ats a,XM,List.any_eq_true]
  constructor
  ·rintro ⟨y,hy,_,e⟩;exact ⟨y,hy,by simp[e]⟩
  ·rintro ⟨y,hy,e⟩;exact ⟨y,hy,h.right y hy,by simpa using e⟩
 by_cases hh:XM L a=true
 ·rw[if_pos (e.2 hh),if_pos hh]
 ·rw[if_neg (fun x=>hh (e.1 x)),if_neg hh]
theorem Z2Z {L:List Z8} (h:Acc L) (x:Z8):Acc (Wp L x)∧Zg (Wp L x)=Wc (Zg L) x:=by
 have hc:=Z3B h x.at_
 unfold Wp
 split
 ·rename_i h0
  refine ⟨⟨fun y hy=>?_,fun y hy z hz e=>?_⟩,XD L x⟩
  ·rcases List.mem_append.1 hy with hy|hy
   ·exact h.right y hy
   ·rw[List.mem_singleton.1 hy]
    unfold YR at h0
    split at h0
    ·omega
    ·rename_i hr;simpa using hr
  ·have hno:∀ u∈L,u.at_≠x.at_:=fun u hu e=>by
    have hh:XM L x.at_=true:=by rw[XM,List.any_eq_true];exact ⟨u,hu,by simp[e]⟩
    unfold YR at h0
    rw[hh] at h0
    split at h0 <;> simp at h0
   rcases List.mem_append.1 hy with hy|hy <;> rcases List.mem_append.1 hz with hz|hz
   ·exact h.one y hy z hz e
   ·rw[List.mem_singleton.1 hz] at e;exact absurd e (hno y hy)
   ·rw[List.mem_singleton.1 hy] at e;exact absurd e.symm (hno z hz)
   ·rw[List.mem_singleton.1 hy,List.mem_singleton.1 hz]
 ·rename_i h0
  rw[←hc] at h0
  refine ⟨h,?_⟩
  unfold Wc YI Wk
  rw[if_neg (fun e=>h0 e.1),if_neg h0]
noncomputable def ZQ (mv:List RMv):List (St × Ch):=mv.foldl (fun c m=>WR c m.at_ m.ch) []
theorem Z0u {mv:List RMv} {k:Nat} {m:RMv} (h:mv[k]?=some m):ZQ (mv.take (k+1))=WR (ZQ (mv.take k)) m.at_ m.ch:=by
 unfold ZQ
 rw[List.take_add_one,h,Option.toList_some,List.foldl_append]
 rfl
theorem Z1g {p:List (St × Ch)→Prop} (h0:p []) (h1:∀ c m,p c→p (WR c m.at_ (RMv.ch m))) (mv:List RMv):p (ZQ mv):=by
 unfold ZQ
 have:∀ (mv:List RMv) c,p c→p (mv.foldl (fun c m=>WR c m.at_ m.ch) c):=fun mv=>by
  induction mv with
  | nil=>exact fun c h=>h
  | cons m mv ih=>exact fun c h=>ih _ (h1 c m h)
 exact this mv [] h0
theorem Z2z (c:List (St × Ch)) (x:St × Ch):(Vu c x).length=c.length+1:=by
 induction c with
 | nil=>rfl
 | cons y c ih=>unfold Vu;split <;> simp[ih]
theorem Z2g (c:List (St × Ch)) (a:St) (x:Ch):(WR c a x).length≤c.length+1:=by
 unfold WR
 split
 ·rw[Z2z];exact Nat.le_refl _
 ·omega
theorem Sv (mv:List RMv):(ZQ mv).length≤mv.length:=by
 have:∀ (mv:List RMv) (c:List (St × Ch)),(mv.foldl (fun c m=>WR c m.at_ m.ch) c).length≤c.length+mv.length:=fun mv=>by
  induction mv with
  | nil=>intro c;simp
  | cons m mv ih =>
   intro c
   rw[List.foldl_cons,List.length_cons]
   have h1:=ih (WR c m.at_ m.ch)
   have h2:=Z2g c m.at_ m.ch
   omega
 have:=this mv []
 simpa [ZQ] using this
theorem Z0Q {s:St} (h:Z7 s=true):s≠⟨0,0⟩:=by
 rintro rfl
 revert h
 decide
theorem Qx (mv:List RMv):∀ x∈ZQ mv,x.2.block≠⟨0,0⟩:=by
 refine Z1g (p:=fun c=>∀ x∈c,x.2.block≠⟨0,0⟩) (fun x h=>by cases h) (fun c m h=>?_) mv
 unfold WR
 split
 ·rename_i hc
  intro x hx
  rcases Tt.1 hx with rfl|hx
  ·show m.block≠⟨0,0⟩
   unfold Yu at hc
   split at hc
   ·rename_i hg
    unfold Wb at hg
    simp only[Bool.and_eq_true] at hg
    exact Z0Q hg.1.2
   ·omega
  ·exact h x hx
 ·exact h
theorem RZ {c:List (St × Ch)} {k:St} {x:Ch} (h:Y1 c k=some x):x∈c.map (·.2):=by
 rcases Tq _ _ _ _ h with m|m
 ·exact m
 ·cases m
theorem VN (mv:List RMv):Y1 (ZQ mv) ⟨0,0⟩=none:=by
 cases h:Y1 (ZQ mv) ⟨0,0⟩ with
 | none=>rfl
 | some x =>
  obtain ⟨y,hy,rfl⟩:=List.mem_map.1 (RZ h)
  exact absurd (YV _ _ _ h) (Qx mv y hy)
theorem Z1Z {c:List (St × Ch)} {A:List Ch} (h:Zo (Y1 c) A):A.length≤c.length:=by
 have hn:A.Nodup:=h.2.imp (fun {a b} h e=>by rw[e] at h;exact Zm _ h)
 have:=hn.length_le_of_subset (l₂:=c.map (·.2)) (fun x hx=>RZ ((h.1 x).1 hx))
 rwa [List.length_map] at this
def X5 (ws:List Z8):List Z8:=ws.foldl Wp []
theorem Z0S {ws:List Z8} {k:Nat} {x:Z8} (h:ws[k]?=some x):X5 (ws.take (k+1))=Wp (X5 (ws.take k)) x:=by
 unfold X5
 rw[List.take_add_one,h,Option.toList_some,List.foldl_append]
 rfl
theorem T5 {ws:List Z8} {k:Nat} {x:Z8} (h:ws[k]?=some x):Zg (ws.take (k+1))=Wc (Zg (ws.take k)) x:=by
 rw[List.take_add_one,h,Option.toList_some,XD]
theorem Z20 (ws:List Z8):Acc (X5 ws)∧Zg (X5 ws)=Zg ws:=by
 refine WB (p:=fun ws=>Acc (X5 ws)∧Zg (X5 ws)=Zg ws) ?_ ?_ ws
 ·exact ⟨⟨fun x h=>(by cases h),fun y h=>(by cases h)⟩,rfl⟩
 ·intro ws x ⟨h1,h2⟩
  have e:X5 (ws++[x])=Wp (X5 ws) x:=by unfold X5;rw[List.foldl_append];rfl
  obtain ⟨h3,h4⟩:=Z2Z h1 x
  rw[e,XD,←h2]
  exact ⟨h3,h4⟩
theorem SF (ws:List Z8):(X5 ws).length≤ws.length:=by
 refine WB (p:=fun ws=>(X5 ws).length≤ws.length) ?_ ?_ ws
 ·exact Nat.le_refl _
 ·intro ws x h
  have e:X5 (ws++[x])=Wp (X5 ws) x:=by unfold X5;rw[List.foldl_append];rfl
  rw[e,List.length_append]
  unfold Wp
  split
  ·rw[List.length_append];simpa using h
  ·simp;omega
theorem Z2B {K V:Type} [DecidableEq K] (l:List (K × V)) (k:K) (v:V):(Zw l k v).length≤l.length+1:=by
 induction l with
 | nil=>simp[Zw]
 | cons p l ih =>
  obtain ⟨a,b⟩:=p
  unfold Zw
  split <;> simp <;> omega
theorem Uf (ws:List Z8):(Zg ws).1.length≤ws.length:=by
 refine WB (p:=fun ws=>(Zg ws).1.length≤ws.length) ?_ ?_ ws
 ·exact Nat.le_refl _
 ·intro ws x h
  rw[XD,List.length_append,List.length_singleton]
  show (YI _ _ _ _ _).length≤_
  unfold YI
  split
  ·have:=Z2B (Zg ws).1 x.pl (⟨x.at_,x.value⟩:Wr)
   omega
  ·omega
noncomputable def Xl (vs:List (Pl × Wr)) (u:St):List Atr:=@dite _ (∃ l,XE vs u l) (Classical.propDecidable _) (fun h=>Classical.choose h) (fun _=>[])
theorem UY {vs:List (Pl × Wr)} {u:St} {l:List Atr} (h:XE vs u l):Xl vs u=l:=by
 have h1:∃ l,XE vs u l:=⟨l,h⟩
 unfold Xl
 rw[dif_pos h1]
 exact (Classical.choose_spec h1).unique h (fun _=>rfl)
structure El where
 id:St
 ch:Int
 gone:Bool
def El.cells (x:El):List Value:=[.int .i64 x.id.n,.int .i64 x.id.r,.int .i64 x.ch,.bool x.gone]
structure OpD where
 id:St
 d0:Int
 d1:Int
 d2:Int
 d3:Int
 d4:Int
 d5:Int
 d6:Int
 d7:Int
 kind:Int
 ref:St
 side:Int
 ch:Int
 under:St
 key:ByteArray
 name:ByteArray
 value:ByteArray
 fr:St
 fa:Bool
 tr:St
 ta:Bool
def OpD.cells (x:OpD):List Value:=[.int .i64 x.id.n,.int .i64 x.id.r,.int .i64 x.d0,.int .i64 x.d1,.int .i64 x.d2,.int .i64 x.d3,.int .i64 x.d4,.int .i64 x.d5,.int .i64 x.d6,.int .i64 x.d7,.int .i64 x.kind,.int .i64 x.ref.n,.int .i64 x.ref.r,.int .i64 x.side,.int .i64 x.ch,.int .i64 x.under.n,.int .i64 x.under.r,.string x.key,.string x.name,.string x.value,.int .i64 x.fr.n,.int .i64 x.fr.r,.bool x.fa,.int .i64 x.tr.n,.int .i64 x.tr.r,.bool x.ta]
structure Zb where
 op:OpD
 lo:Int
 hi:Int
def Zb.cells (x:Zb):List Value:=[.int .i64 x.op.id.n,.int .i64 x.op.id.r,.int .i64 x.op.d0,.int .i64 x.op.d1,.int .i64 x.op.d2,.int .i64 x.op.d3,.int .i64 x.op.d4,.int .i64 x.op.d5,.int .i64 x.op.d6,.int .i64 x.op.d7,.int .i64 x.op.kind,.int .i64 x.op.ref.n,.int .i64 x.op.ref.r,.int .i64 x.op.side,.int .i64 x.op.ch,.int .i64 x.op.under.n,.int .i64 x.op.under.r,.string x.op.key,.string x.op.name,.string x.op.value,.int .i64 x.op.fr.n,.int .i64 x.op.fr.r,.bool x.op.fa,.int .i64 x.op.tr.n,.int .i64 x.op.tr.r,.bool x.op.ta,.int .i64 x.lo,.int .i64 x.hi]
theorem Zb.len (x:Zb):x.cells.length=28:=rfl
theorem OpD.len (x:OpD):x.cells.length=26:=rfl
theorem OpD.one (x:OpD):∀ u∈x.cells,u.oneCell'=true:=by
 intro u hu
 simp only[OpD.cells,List.mem_cons,List.not_mem_nil,or_false] at hu
 rcases hu with rfl|rfl|rfl|rfl|rfl|rfl|rfl|rfl|rfl|rfl|rfl|rfl|rfl|rfl|rfl|rfl|rfl|rfl|rfl|rfl|rfl|rfl|rfl|rfl|rfl|rfl <;> rfl
theorem Zb.one (x:Zb):∀ u∈x.cells,u.oneCell'=true:=by
 intro u hu
 simp only[Zb.cells,List.mem_cons,List.not_mem_nil,or_false] at hu
 rcases hu with rfl|rfl|rfl|rfl|rfl|rfl|rfl|rfl|rfl|rfl|rfl|rfl|rfl|rfl|rfl|rfl|rfl|rfl|rfl|rfl|rfl|rfl|rfl|rfl|rfl|rfl|rfl|rfl <;> rfl
def Y3 (x y:Zb):Int:=Yd x.op.id y.op.id
theorem Vg (x y:Zb) (w:World) :
  Calls Tryz.prog 98 #[.agg x.cells.toArray,.agg y.cells.toArray] w
   fun e w'=>e=.returned (.int .i64 (Y3 x y))∧Below w.heap.size w w':=by
 unfold Zb.cells
 go_enter Tryz.func98,Tryz.ntmps98
 go_wp2_with fail
 refine (VQ _ _ _ _ _).mono ?_
 rintro e w1 ⟨rfl,b1⟩
 go_wp2_with fail
 go_ret
 exact ⟨rfl,(((Below.refl _ _).alloc (Nat.le_refl _) _).alloc (by simp) _).trans (b1.mono (by simp <;> omega))⟩
def Yg (x:El):Bool:=decide (x.ch=0) && !x.gone
structure Spn where
 blk:St
 lo:Nat
 hi:Nat
def Spn.cells (s:Spn):List Value:=[.int .i64 s.blk.n,.int .i64 s.blk.r,.int .i64 s.lo,.int .i64 s.hi]
def Spn.val (s:Spn):Value:=.agg #[.int .i64 s.blk.n,.int .i64 s.blk.r,.int .i64 s.lo,.int .i64 s.hi]
theorem Spn.len (s:Spn):s.cells.length=4:=rfl
theorem Spn.one (x:Spn):∀ u∈x.cells,u.oneCell'=true:=by
 intro u hu
 simp only[Spn.cells,List.mem_cons,List.not_mem_nil,or_false] at hu
 rcases hu with rfl|rfl|rfl|rfl <;> rfl
def cur (l:List El):Nat→List Spn × St × Nat
 | 0=>([],⟨0,0⟩,0)
 | n+1=>match l[n]? with
  | some x=>if Yg x=true then ((cur l n).1++[⟨(cur l n).2.1,(cur l n).2.2,n⟩],x.id,n+1) else cur l n
  | none=>cur l n
def ZY (l:List El):List Spn:=(cur l l.length).1++[⟨(cur l l.length).2.1,(cur l l.length).2.2,l.length⟩]
theorem T1 {l:List El} {n:Nat} {x:El} (hx:l[n]?=some x) (hb:Yg x=true):cur l (n+1)=((cur l n).1++[⟨(cur l n).2.1,(cur l n).2.2,n⟩],x.id,n+1):=by
 rw[cur,hx];simp only[hb,if_true]
theorem UZ {l:List El} {n:Nat} {x:El} (hx:l[n]?=some x) (hb:Yg x=false):cur l (n+1)=cur l n:=by
 rw[cur,hx];simp[hb]
theorem RI (l:List El):∀ n,(cur l n).2.2≤n∧(cur l n).1.length≤n∧∀ s∈(cur l n).1,s.lo≤s.hi∧s.hi≤n
 | 0=>by simp[cur]
 | n+1=>by
  obtain ⟨h1,h2,h3⟩:=RI l n
  rw[cur]
  split
  ·split
   ·refine ⟨Nat.le_refl _,by simp;omega,fun s hs=>?_⟩
    rw[List.mem_append,List.mem_singleton] at hs
    rcases hs with hs|rfl
    ·have:=h3 s hs;omega
    ·exact ⟨h1,Nat.le_succ _⟩
   ·exact ⟨by omega,by omega,fun s hs=>by have:=h3 s hs;omega⟩
  ·exact ⟨by omega,by omega,fun s hs=>by have:=h3 s hs;omega⟩
theorem RX (l:List El):∀ n,n≤l.length→(cur l n).1.map Spn.blk++[(cur l n).2.1]=⟨0,0⟩ :: ((l.take n).filter Yg).map El.id
 | 0,_=>by simp[cur]
 | n+1,hn=>by
  have ih:=RX l n (by omega)
  obtain ⟨x,hx⟩:∃ x,l[n]?=some x:=⟨_,List.getElem?_eq_getElem (by omega)⟩
  have ht:l.take (n+1)=l.take n++[x]:=by rw[List.take_add_one,hx];rfl
  rw[ht,List.filter_append,List.map_append,←List.cons_append,←ih]
  cases hb:Yg x with
  | true=>rw[T1 hx hb];simp[hb]
  | false=>rw[UZ hx hb];simp[hb]
theorem QT (l:List El):(ZY l).map Spn.blk=⟨0,0⟩ :: (l.filter Yg).map El.id:=by
 have:=RX l l.length (Nat.le_refl _)
 rw[List.take_length] at this
 rw[ZY,List.map_append,←this]
 rfl
theorem UP (l:List El):(ZY l).length≤l.length+1:=by
 obtain ⟨h1,h2,h3⟩:=RI l l.length
 rw[ZY,List.length_append,List.length_singleton]
 omega
theorem Xq (l:List El):∃ n r,ZY l=⟨⟨0,0⟩,0,n⟩ :: r:=by
 have h0:∀ n,(∃ m r,(cur l n).1=⟨⟨0,0⟩,0,m⟩ :: r)∨((cur l n).1=[]∧(cur l n).2=(⟨0,0⟩,0)):=fun n=>by
  induction n with
  | zero=>exact .inr ⟨rfl,rfl⟩
  | succ n ih =>
   rw[cur]
   split
   ·split
    ·refine .inl ?_
     rcases ih with ⟨m,r,e⟩|⟨e,e2⟩
     ·exact ⟨m,_,by rw[e];rfl⟩
     ·exact ⟨n,[],by rw[e,e2];rfl⟩
    ·exact ih
   ·exact ih
 rcases h0 l.length with ⟨m,r,e⟩|⟨e,e2⟩
 ·exact ⟨m,r++_,by rw[ZY,e];rfl⟩
 ·exact ⟨l.length,[],by rw[ZY,e,e2];rfl⟩
def ZJ (l:List El):List (St × Spn):=(ZY l).tail.map fun s=>(s.blk,s)
def YD (l:List El) (b:St):Option Spn:=Z3 (ZJ l) b
def X6 (l:List El) (b:St):Bool:=(YD l b).isSome
def XO (l:List El):Prop:=l.Pairwise (fun a b=>a.id≠b.id)
theorem S0 (l:List El):(ZJ l).map (·.1)=(l.filter Yg).map El.id:=by
 have:=QT l
 obtain ⟨n,r,e⟩:=Xq l
 rw[ZJ,List.map_map]
 rw[e] at this ⊢
 exact (List.cons.inj this).2
theorem Tg {l:List El} (h:XO l):((ZJ l).map (·.1)).Nodup:=by
 rw[S0]
 exact List.pairwise_map.2 (h.filter _)
theorem VS {K V:Type} [DecidableEq K] (l:List (K × V)) (k:K):(Z3 l k).isSome=true↔k∈l.map (·.1):=by
 induction l with
 | nil=>simp[Z3]
 | cons p r ih =>
  obtain ⟨a,b⟩:=p
  simp only[Z3]
  split
  ·rename_i e;simp[e]
  ·rename_i e;rw[ih];simp[Ne.symm e]
theorem V8 {l:List El} {b:St}:X6 l b=true↔∃ x∈l,Yg x=true∧x.id=b:=by
 rw[X6,YD,VS,S0,List.mem_map]
 constructor
 ·rintro ⟨x,hx,e⟩;rw[List.mem_filter] at hx;exact ⟨x,hx.1,hx.2,e⟩
 ·rintro ⟨x,h1,h2,h3⟩;exact ⟨x,List.mem_filter.2 ⟨h1,h2⟩,h3⟩
theorem Z0g {l:List El} {b:St} {s:Spn} (h:YD l b=some s):s∈ZY l∧s.blk=b:=by
 have:(b,s)∈ZJ l:=by
  unfold YD at h
  generalize ZJ l=L at h
  induction L with
  | nil=>cases h
  | cons p r ih =>
   obtain ⟨k',v'⟩:=p
   simp only[Z3] at h
   split at h
   ·rename_i e;subst e;cases h;exact List.mem_cons_self ..
   ·exact List.mem_cons_of_mem _ (ih h)
 obtain ⟨t,ht,e⟩:=List.mem_map.1 this
 simp only[Prod.mk.injEq] at e
 obtain ⟨rfl,rfl⟩:=e
 exact ⟨List.mem_of_mem_tail ht,rfl⟩
theorem Rj (x:El) (w:World):Calls Tryz.prog 92 #[.agg #[.int .i64 x.id.n,.int .i64 x.id.r,.int .i64 x.ch,.bool x.gone]] w fun e w'=>e=.returned (.bool (Yg x))∧Below w.heap.size w w':=by
 by_cases hc:x.ch=0
 ·go_enter Tryz.func92,Tryz.ntmps92
  go_wp2_with fail
  go_ret
  exact ⟨by simp[Yg,hc],(Below.refl _ _).alloc (Nat.le_refl _) _⟩
 ·go_enter Tryz.func92,Tryz.ntmps92
  go_wp2_with fail
  go_ret
  exact ⟨by simp[Yg,hc],(Below.refl _ _).alloc (Nat.le_refl _) _⟩
theorem TM (x:El) (w:World):Calls Tryz.prog 58 #[.agg #[.int .i64 x.id.n,.int .i64 x.id.r,.int .i64 x.ch,.bool x.gone]] w fun e w'=>e=.returned (.bool (Yg x))∧Below w.heap.size w w':=by
 by_cases hc:x.ch=0
 ·go_enter Tryz.func58,Tryz.ntmps58
  go_wp2_with fail
  go_ret
  exact ⟨by simp[Yg,hc],(Below.refl _ _).alloc (Nat.le_refl _) _⟩
 ·go_enter Tryz.func58,Tryz.ntmps58
  go_wp2_with fail
  go_ret
  exact ⟨by simp[Yg,hc],(Below.refl _ _).alloc (Nat.le_refl _) _⟩
theorem Z3i {s:St} {an ar:Int} (h:s≠⟨an,ar⟩) (e:s.n=an):¬ s.r=ar:=fun e2=>h (by
 obtain ⟨a,b⟩:=s
 simp only at e e2
 rw[e,e2])
theorem Z2j {l:List El} {b:St} {k:Nat} {x:El} (hx:l[k]?=some x) (hb:Yg x=true) (he:x.id=b):X6 l b=true:=V8.2 ⟨x,List.mem_of_getElem? hx,hb,he⟩
theorem Z3r {l:List El} {b:St} (h:∀ (j:Nat) (y:El),l[j]?=some y→Yg y=true→y.id≠b):X6 l b=false:=by
 cases e:X6 l b with
 | false=>rfl
 | true =>
  obtain ⟨x,h1,h2,h3⟩:=V8.1 e
  obtain ⟨j,hj⟩:=List.getElem?_of_mem h1
  exact absurd h3 (h j x hj h2)
theorem SH {l:List El} {b:St} {k:Nat} {x:El} (h:∀ (j:Nat) (y:El),j<k→l[j]?=some y→Yg y=true→y.id≠b) (hx:l[k]?=some x) (hn:Yg x=true→x.id≠b):∀ (j:Nat) (y:El),j<k+1→l[j]?=some y→Yg y=true→y.id≠b:=fun j y hj hy=>by
 by_cases e:j=k
 ·subst e;rw[hx] at hy;cases hy;exact hn
 ·exact h j y (by omega) hy
theorem Z1h (v:Value) (l:List El) (bn br:Int) (w:World) (hv:Z5 El.cells 4 w v l) :
  Calls Tryz.prog 40 #[v,.agg #[.int .i64 bn,.int .i64 br]] w fun e w'=>e=.returned (.bool (X6 l ⟨bn,br⟩))∧Below w.heap.size w w':=by
 obtain ⟨a,cap,rfl,hcap,hmax,hcs⟩:=hv
 unfold maxLen at hmax
 have hB0:Below w.heap.size w (w.alloc (.cells #[.int .i64 bn,.int .i64 br] 23)):=(Below.refl _ _).alloc (Nat.le_refl _) _
 have q0:(w.alloc (.cells #[.int .i64 bn,.int .i64 br] 23)).cell? ⟨w.heap.size,0,none⟩=some (.int .i64 bn):=by go_simp
 have q1:(w.alloc (.cells #[.int .i64 bn,.int .i64 br] 23)).cell? ⟨w.heap.size,1,none⟩=some (.int .i64 br):=by go_simp
 have hw1:(w.alloc (.cells #[.int .i64 bn,.int .i64 br] 23)).heap.size=w.heap.size+1:=by simp
 go_enter Tryz.func40,Tryz.ntmps40
 go_upto_region 1 with fail
 generalize w.alloc (.cells #[.int .i64 bn,.int .i64 br] 23)=w1 at *
 go_wp2_with fail
 go_loopg [5] l.length (fun g i wx=>∃ k:Nat,g=l.length - k∧k≤l.length∧i=.int .i64 k∧Hid (∀ (j:Nat) (y:El),j<k→l[j]?=some y→Yg y=true→y.id≠⟨bn,br⟩)∧Below w1.heap.size w1 wx)
 case atStart=>exact ⟨0,rfl,Nat.zero_le _,rfl,Jh (fun j y hj=>absurd hj (by omega)),Below.refl _ _⟩
 case round =>
  obtain ⟨k,hg,hk,rfl,HP,hB⟩:=hrel
  have HG:=Lib.hid hg
  clear hg
  by_cases hlt:k<l.length
  ·obtain ⟨x,hx⟩:∃ x,l[k]?=some x:=⟨_,List.getElem?_eq_getElem hlt⟩
   obtain ⟨b,o,rfl,hc⟩:=hcs (by intro e;rw[e] at hlt;simp at hlt)
   have hWB:Below w.heap.size w wr:=hB0.trans (hB.mono (by omega))
   have x0:wr.cell? ⟨b,o+k*4,none⟩=some (.int .i64 x.id.n):=Z0 hWB (hc k x hx 0 _ rfl)
   have x1:wr.cell? ⟨b,o+k*4+1,none⟩=some (.int .i64 x.id.r):=Z0 hWB (hc k x hx 1 _ rfl)
   have x2:wr.cell? ⟨b,o+k*4+2,none⟩=some (.int .i64 x.ch):=Z0 hWB (hc k x hx 2 _ rfl)
   have x3:wr.cell? ⟨b,o+k*4+3,none⟩=some (.bool x.gone):=Z0 hWB (hc k x hx 3 _ rfl)
   have p0:=Z0 hB q0
   have p1:=Z0 hB q1
   have HX:=Lib.hid hx
   have HW:=Lib.hid hWB
   have HBB:=Lib.hid hB
   have HC:=Lib.hid hcs
   have hkk:(k:Int)<(l.length:Int):=by omega
   have hk0:(0:Int)≤(k:Int):=by omega
   clear hx hWB hB hcs hc q0 q1
   go_wp2_with fail
   refine (TM x _).mono ?_
   rintro e w2 ⟨rfl,b2⟩
   have y0:=Z0 b2 x0
   have y1:=Z0 b2 x1
   have r0:=Z0 b2 p0
   have r1:=Z0 b2 p1
   have HW2:=Jh (HW.out.trans (b2.mono HW.out.size))
   have HB2:=Jh (HBB.out.trans (b2.mono HBB.out.size))
   clear x0 x1 x2 x3 p0 p1 b2
   cases hb:Yg x with
   | false =>
    have HN:=Jh (SH HP.out HX.out (b:=⟨bn,br⟩) (by rw[hb];simp))
    clear hb
    go_wp2_with fail
    go_quiet (fail)
    go_wp2_with fail
    go_roundg (l.length - (k+1))
    case measure=>rw[HG.out];omega
    case rel=>exact ⟨k+1,rfl,hlt,by go_num,HN,below_drewN HB2.out _⟩
   | true =>
    by_cases he:x.id=⟨bn,br⟩
    ·have HR:=Jh (Z2j HX.out hb he)
     have e1:x.id.n=bn:=by rw[he]
     have e2:x.id.r=br:=by rw[he]
     rw[e1] at y0
     rw[e2] at y1
     clear he e1 e2 hb
     go_wp2_with fail
     go_region_held3 (fun W=>W.cell? ⟨b,o+k*4,none⟩=some (.int .i64 bn)∧W.cell? ⟨b,o+k*4+1,none⟩=some (.int .i64 br)∧W.cell? ⟨w.heap.size,0,none⟩=some (.int .i64 bn)∧W.cell? ⟨w.heap.size,1,none⟩=some (.int .i64 br)) (exact ⟨y0,y1,r0,r1⟩) (fail)
     go_wp2_with fail
     go_ret
     exact ⟨by rw[HR.out];rfl,HW2.out.drew⟩
    ·have HN:=Jh (SH HP.out HX.out (b:=⟨bn,br⟩) (fun _=>he))
     have he':=Z3i he
     clear he hb
     by_cases e1:x.id.n=bn
     ·have e2:=he' e1
      rw[e1] at y0
      clear e1 he'
      go_wp2_with fail
      go_region_held3 (fun W=>W.cell? ⟨b,o+k*4,none⟩=some (.int .i64 bn)∧W.cell? ⟨b,o+k*4+1,none⟩=some (.int .i64 x.id.r)∧W.cell? ⟨w.heap.size,0,none⟩=some (.int .i64 bn)∧W.cell? ⟨w.heap.size,1,none⟩=some (.int .i64 br)) (exact ⟨y0,y1,r0,r1⟩) (fail)
      go_wp2_with fail
      go_roundg (l.length - (k+1))
      case measure=>rw[HG.out];omega
      case rel=>exact ⟨k+1,rfl,hlt,by go_num,HN,HB2.out.drew⟩
     ·clear he'
      go_wp2_with fail
      go_region_held3 (fun W=>W.cell? ⟨b,o+k*4,none⟩=some (.int .i64 x.id.n)∧W.cell? ⟨b,o+k*4+1,none⟩=some (.int .i64 x.id.r)∧W.cell? ⟨w.heap.size,0,none⟩=some (.int .i64 bn)∧W.cell? ⟨w.heap.size,1,none⟩=some (.int .i64 br)) (exact ⟨y0,y1,r0,r1⟩) (fail)
      go_wp2_with fail
      go_roundg (l.length - (k+1))
      case measure=>rw[HG.out];omega
      case rel=>exact ⟨k+1,rfl,hlt,by go_num,HN,HB2.out.drew⟩
  ·obtain rfl:k=l.length:=by omega
   have HR:=Jh (Z3r (b:=⟨bn,br⟩) (fun j y hy=>HP.out j y (List.getElem?_eq_some_iff.1 hy).1 hy))
   have HW:=Jh (hB0.trans (hB.mono (by omega)))
   have hkk:¬ (l.length:Int)<(l.length:Int):=by omega
   clear hlt hk
   go_wp2_with fail
   go_ret
   exact ⟨by rw[HR.out];rfl,HW.out⟩
end Go.Proofs.YtlgipkemoldckaaGreatDoor
