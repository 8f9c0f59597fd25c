/- ViewBuilds, part 2 of what the proof leans on (made short by a program). -/
import Derived.Test.YtlgipkemoldckaaGreatDoorVbZ1
import Derived.StillTailTactics
set_option linter.unusedSimpArgs false
set_option linter.unusedVariables false
set_option linter.unusedSectionVars false
set_option maxRecDepth 20000
set_option maxHeartbeats 30000000
namespace Go.Proofs.YtlgipkemoldckaaGreatDoor
open Go.RowKit
structure SlK where
 a:Option Addr
 n:Nat
 cap:Nat
theorem UN (W:World) (x:Ch):∀ j u,(Ch.cells x)[j]?=some u→(W.alloc (.cells #[.int .i64 x.block.n,.int .i64 x.block.r,.int .i64 x.under.n,.int .i64 x.under.r,.string x.key] 53)).cell? ⟨W.heap.size,j,none⟩=some u:=by
 intro j u hj
 rw[World.cell?_alloc_at _ _ _ _ rfl,←hj,Ch.cells]
 simp
theorem Ch.one (p:Ch):∀ u∈p.cells,u.oneCell'=true:=by
 intro u hu
 simp only[Ch.cells,List.mem_cons,List.not_mem_nil,or_false] at hu
 rcases hu with rfl|rfl|rfl|rfl|rfl <;> rfl
theorem Ch.len (p:Ch):p.cells.length=5:=rfl
theorem StC.one (p:St):∀ u∈St.cells p,u.oneCell'=true:=by
 intro u hu
 simp only[St.cells,List.mem_cons,List.not_mem_nil,or_false] at hu
 rcases hu with rfl|rfl <;> rfl
theorem StC.len (p:St):(St.cells p).length=2:=rfl
theorem Ry (W:World) (x:St):∀ j u,(St.cells x)[j]?=some u→(W.alloc (.cells #[.int .i64 x.n,.int .i64 x.r] 23)).cell? ⟨W.heap.size,j,none⟩=some u:=by
 intro j u hj
 rw[World.cell?_alloc_at _ _ _ _ rfl,←hj,St.cells]
 simp
theorem Z05 {x:Ch} {bn br:Int} (h:x.under≠⟨bn,br⟩) (e:x.under.n=bn):¬ x.under.r=br:=fun e2=>h (by
 obtain ⟨b,⟨n,r⟩,k⟩:=x
 simp only at e e2
 rw[e,e2])
def Z1J (w:World) (hh:Zi) (u:St) (e:Ending) (w':World):Prop:=∃ v' K,e=.returned v'∧Own St.cells 2 23 w.heap.size w' v' (K.map Ch.block)∧WF hh u K∧Below w.heap.size w w'
theorem TV (v:Value) (l:List Ch) (un ur:Int) (w:World) (h:Z4 Ch.cells 5 w v l) (hl:l.length≤1000) {hh:Zi} (ha:Zm hh l) :
  Calls Tryz.prog 84 #[v,.agg #[.int .i64 un,.int .i64 ur]] w fun e w'=>Z1J w hh ⟨un,ur⟩ e w':=by
 obtain ⟨a,cap,rfl,hcap,hmax,_⟩:=id h
 unfold maxLen at hmax
 obtain ⟨i0,hi,hz0,hz1,hz2⟩:=info_parts Xr
 obtain ⟨i1,hi1,hy0,hy1,hy2⟩:=info_parts Z0U
 have q0:(w.alloc (.cells #[.int .i64 un,.int .i64 ur] 23)).cell? ⟨w.heap.size,0,none⟩=some (.int .i64 un):=by go_simp
 have q1:(w.alloc (.cells #[.int .i64 un,.int .i64 ur] 23)).cell? ⟨w.heap.size,1,none⟩=some (.int .i64 ur):=by go_simp
 have hB0:Below w.heap.size w (w.alloc (.cells #[.int .i64 un,.int .i64 ur] 23)):=(Below.refl _ _).alloc (Nat.le_refl _) _
 have HH:=Jh (h.below hB0)
 have HB0:=Lib.hid hB0
 have HA:=Lib.hid ha
 clear h hB0 ha
 go_enter Tryz.func84,Tryz.ntmps84
 go_upto_block 0 with fail
 generalize w.alloc (.cells #[.int .i64 un,.int .i64 ur] 23)=w1 at *
 go_wp2_with fail
 go_loopg [5,6] l.length (fun g vv iv wr=>∃ (k:Nat) (s:SlK) (M:List Ch),g=l.length - k∧k≤l.length∧vv=.slice s.a s.n s.cap∧iv=.int .i64 k∧Hid (YD hh ⟨un,ur⟩ l k M∧Own Ch.cells 5 53 w1.heap.size wr (.slice s.a s.n s.cap) M∧Below w1.heap.size w1 wr))
 case atStart=>exact ⟨0,⟨none,0,0⟩,[],by omega,by omega,rfl,rfl,Lib.hid ⟨Rh _ _ _,Own.nil,Below.refl _ _⟩⟩
 case round =>
  obtain ⟨k,⟨sa,sn,sc⟩,M,hg,hk,rfl,rfl,hU⟩:=hrel
  dsimp only at hU ⊢
  have HGG:=Lib.hid hg
  clear hg
  by_cases hkl:k<l.length
  ·obtain ⟨x,hx⟩:∃ x,l[k]?=some x:=⟨_,List.getElem?_eq_getElem hkl⟩
   obtain ⟨b,o,c1,e1,h1⟩:=(HH.out.below hU.out.2.2).dcells (by intro e;rw[e] at hkl;simp at hkl)
   cases e1
   obtain ⟨-,-,x2,x3,-⟩:=h1 k x hx
   have q0':=Z0 hU.out.2.2 q0
   have q1':=Z0 hU.out.2.2 q1
   have HX:=Lib.hid hx
   have HD:Hid (∀ n,Own Ch.cells 5 53 w1.heap.size (wr.drewN n) (.slice sa sn sc) M∧Below w1.heap.size w1 (wr.drewN n)):=Jh (fun n=>⟨hU.out.2.1,below_drewN hU.out.2.2 n⟩)
   have HUT:=Lib.hid hU.out.1
   have hkk:(k:Int)<(l.length:Int):=by omega
   clear h1 hx hU
   by_cases hb:x.under=⟨un,ur⟩
   ·have e1:x.under.n=un:=by rw[hb]
    have e2:x.under.r=ur:=by rw[hb]
    have HBU:=Lib.hid hb
    rw[e1] at x2
    rw[e2] at x3
    clear hb e1 e2
    go_wp2_with fail
    go_quiet (fail)
    have hD:=HD.out nq
    generalize wr.drewN nq=wx at *
    clear HD x2 x3 q0' q1'
    obtain ⟨b2,o2,c2,e2,h2⟩:=(HH.out.below hD.2).dcells (by intro e;rw[e] at hkl;simp at hkl)
    cases e2
    obtain ⟨x0,x1,x2,x3,x4⟩:=h2 k x HX.out
    have hml:=HUT.out.len (by omega)
    have hsz:=hD.2.size
    obtain ⟨hsn,-,-⟩:=hD.1.slice Ch.len |> fun h=>(by obtain ⟨_,_,e,_⟩:=h;cases e;exact ⟨rfl,trivial,trivial⟩:sn=M.length∧True∧True)
    subst hsn
    clear h2
    go_wp2_with (at_builtin;refine Zo rfl _ _ _ rfl i0 _ 48 Tryz.underlying48 hi hz0 hz1 hz2 rfl (by omega) Ch.len Ch.one rfl (hD.1.alloc _) x wx.heap.size 1 rfl (UN _ x) (by unfold maxLen;omega) (by omega) (by simp;omega) ?_)
    intro v' w3 hown3 hx3
    obtain ⟨g3,c3,e3⟩:∃ g3 c3,v'=.slice (some ⟨g3,0,none⟩) (M++[x]).length c3:=by
     rcases hown3.eq_slice with ⟨_,e⟩|⟨g,c,e,_⟩
     ·simp at e
     ·exact ⟨g,c,e⟩
    subst e3
    have hB3:=Ext.new (hD.2.alloc hD.2.size (.cells #[.int .i64 x.block.n,.int .i64 x.block.r,.int .i64 x.under.n,.int .i64 x.under.r,.string x.key] 53)) hx3 (fun i hi _ e=>by have:=(hD.1.blk i e).1;omega) (by simp;omega)
    obtain ⟨-,hc3,hm3⟩:=hown3.lenI Ch.len
    have hins:=Vb HUT.out.ord x
    obtain ⟨mm,hmm⟩:=Je (M.length)
    have hlm:(M++[x]).length=mm+1:=by simp[hmm]
    rw[hmm] at hins hml
    rw[hlm] at hown3 hc3 ⊢
    have HI0:Hid (W5 Yx (M++[x]) (M++[x]) mm∧Own Ch.cells 5 53 w1.heap.size w3 (.slice (some ⟨g3,0,none⟩) (mm+1) c3) (M++[x])∧Below w1.heap.size w1 w3):=Lib.hid ⟨hins,hown3,hB3⟩
    have HND:Hid ((M++[x]).Nodup):=Jh (by
     rw[List.nodup_append]
     refine ⟨HUT.out.ord.imp (fun {a b} h e=>by rw[e] at h;exact XO _ h),by simp,fun a ha b hb e=>?_⟩
     rw[List.mem_singleton] at hb
     subst hb
     have:=HUT.out.later HA.out HX.out ha
     rw[e] at this
     exact Zl _ this)
    have HMM:=Lib.hid hmm
    have HLM:=Lib.hid hlm
    clear hown3 hx3 hB3 hins hD hmm hlm x0 x1 x2 x3 x4
    obtain ⟨m,hm⟩:=Je (mm+1)
    have hm1:(m:Int) - 1=(mm:Int):=by omega
    rw[hm] at HI0 HLM hc3 ⊢
    have HM:=Lib.hid hm
    have hmb:m≤1001:=by omega
    go_wp2_with fail
    go_loopg [7] mm (fun g jv wr=>∃ (j:Nat) (zs:List Ch),g=j∧j≤mm∧jv=.int .i64 j∧zs.length=m∧Hid (zs[j]?=some x)∧Hid (W5 Yx (M++[x]) zs j∧Own Ch.cells 5 53 w1.heap.size wr (.slice (some ⟨g3,0,none⟩) m c3) zs∧Below w1.heap.size w1 wr))
    case atStart=>exact ⟨mm,_,rfl,by omega,by simp,HLM.out,Jh (by rw[List.getElem?_append_right (by rw[HMM.out];omega),HMM.out,Nat.sub_self];rfl),HI0⟩
    case round =>
     obtain ⟨j,zs,hg,hj,rfl,hzl,hzx,hV⟩:=hrel
     have HGJ:=Lib.hid hg
     clear hg
     have hdone:zs.Pairwise Yx→Hid (YD hh ⟨un,ur⟩ l (k+1) zs):=fun h=>Jh (HUT.out.put HX.out HBU.out hV.out.1.perm h)
     have HV2:Hid (∀ n,Own Ch.cells 5 53 w1.heap.size (wr.drewN n) (.slice (some ⟨g3,0,none⟩) m c3) zs∧Below w1.heap.size w1 (wr.drewN n)):=Jh (fun n=>⟨hV.out.2.1,below_drewN hV.out.2.2 n⟩)
     by_cases hj0:0<j
     ·obtain ⟨p,hp⟩:∃ p,zs[j]?=some p:=⟨_,List.getElem?_eq_getElem (by omega)⟩
      obtain ⟨q,hq⟩:∃ q,zs[j - 1]?=some q:=⟨_,List.getElem?_eq_getElem (by omega)⟩
      have ho:=hV.out.2.1
      have p4:=ho.cellI (j:=4) Ch.len hp rfl
      have q4:=ho.cellI (j:=4) Ch.len hq rfl
      have hj1:(0:Int)<(j:Int):=by omega
      have hjz:((j - 1:Nat):Int)=(j:Int) - 1:=by omega
      by_cases hlt:YZ p<YZ q
      ·have hb:Op.bytesLess p.key.toList q.key.toList=true:=by rw[bytesLess_eq];simpa [YZ] using hlt
       have HSW:=Jh (hV.out.1.swap hj0 hp hq (.inl hlt))
       have HPQ:=Jh (And.intro hp hq)
       clear hV ho hp hq hdone hlt
       go_upto_region 8 with fail
       go_quiet (fail)
       have hV3:=HV2.out nq
       generalize wr.drewN nq=wx at *
       clear HV2 p4 q4 hb
       obtain ⟨ho,hbx⟩:=hV3
       have p0:=ho.cellI (j:=0) Ch.len HPQ.out.1 rfl
       have p1:=ho.cellI (j:=1) Ch.len HPQ.out.1 rfl
       have p2:=ho.cellI (j:=2) Ch.len HPQ.out.1 rfl
       have p3:=ho.cellI (j:=3) Ch.len HPQ.out.1 rfl
       have p4:=ho.cellI (j:=4) Ch.len HPQ.out.1 rfl
       simp only[Nat.add_zero] at p0
       have hgb:=ho.blk g3 rfl
       have hoy:=ho.alloc (.cells #[.int .i64 p.block.n,.int .i64 p.block.r,.int .i64 p.under.n,.int .i64 p.under.r,.string p.key] 53)
       have hby:=hbx.alloc hbx.size (.cells #[.int .i64 p.block.n,.int .i64 p.block.r,.int .i64 p.under.n,.int .i64 p.under.r,.string p.key] 53)
       have z0:(wx.alloc (.cells #[.int .i64 p.block.n,.int .i64 p.block.r,.int .i64 p.under.n,.int .i64 p.under.r,.string p.key] 53)).cell? ⟨wx.heap.size,0,none⟩=some (.int .i64 p.block.n):=by go_simp
       have z1:(wx.alloc (.cells #[.int .i64 p.block.n,.int .i64 p.block.r,.int .i64 p.under.n,.int .i64 p.under.r,.string p.key] 53)).cell? ⟨wx.heap.size,1,none⟩=some (.int .i64 p.block.r):=by go_simp
       have z2:(wx.alloc (.cells #[.int .i64 p.block.n,.int .i64 p.block.r,.int .i64 p.under.n,.int .i64 p.under.r,.string p.key] 53)).cell? ⟨wx.heap.size,2,none⟩=some (.int .i64 p.under.n):=by go_simp
       have z3:(wx.alloc (.cells #[.int .i64 p.block.n,.int .i64 p.block.r,.int .i64 p.under.n,.int .i64 p.under.r,.string p.key] 53)).cell? ⟨wx.heap.size,3,none⟩=some (.int .i64 p.under.r):=by go_simp
       have z4:(wx.alloc (.cells #[.int .i64 p.block.n,.int .i64 p.block.r,.int .i64 p.under.n,.int .i64 p.under.r,.string p.key] 53)).cell? ⟨wx.heap.size,4,none⟩=some (.string p.key):=by go_simp
       have HOY:=Jh (And.intro hoy hby)
       clear hoy hby
       go_upto_region 11 with fail
       generalize wx.alloc (.cells #[.int .i64 p.block.n,.int .i64 p.block.r,.int .i64 p.under.n,.int .i64 p.under.r,.string p.key] 53)=wy at *
       clear p0 p1 p2 p3 p4
       obtain ⟨hoy,hby⟩:=HOY.out
       have q0:=hoy.cellI (j:=0) Ch.len HPQ.out.2 rfl
       have f0:=hoy.freeI (j*5)
       have r0:=hoy.cellI (j:=0) Ch.len HPQ.out.1 rfl
       have q1:=hoy.cellI (j:=1) Ch.len HPQ.out.2 rfl
       have f1:=hoy.freeI (j*5+1)
       have r1:=hoy.cellI (j:=1) Ch.len HPQ.out.1 rfl
       have q2:=hoy.cellI (j:=2) Ch.len HPQ.out.2 rfl
       have f2:=hoy.freeI (j*5+2)
       have r2:=hoy.cellI (j:=2) Ch.len HPQ.out.1 rfl
       have q3:=hoy.cellI (j:=3) Ch.len HPQ.out.2 rfl
       have f3:=hoy.freeI (j*5+3)
       have r3:=hoy.cellI (j:=3) Ch.len HPQ.out.1 rfl
       have q4:=hoy.cellI (j:=4) Ch.len HPQ.out.2 rfl
       have f4:=hoy.freeI (j*5+4)
       have r4:=hoy.cellI (j:=4) Ch.len HPQ.out.1 rfl
       simp only[Nat.add_zero] at q0 r0
       have ho1:Own Ch.cells 5 53 w1.heap.size (((((wy.setCell ⟨g3,j*5,none⟩ (.int .i64 q.block.n)).setCell ⟨g3,j*5+1,none⟩ (.int .i64 q.block.r)).setCell ⟨g3,j*5+2,none⟩ (.int .i64 q.under.n)).setCell ⟨g3,j*5+3,none⟩ (.int .i64 q.under.r)).setCell ⟨g3,j*5+4,none⟩ (.string q.key)) (.slice (some ⟨g3,0,none⟩) m c3) (zs.set j q):=X9 (y:=q) Ch.len (by omega) hzl hoy HPQ.out.1
       have hb1:Below w1.heap.size _ (((((wy.setCell ⟨g3,j*5,none⟩ (.int .i64 q.block.n)).setCell ⟨g3,j*5+1,none⟩ (.int .i64 q.block.r)).setCell ⟨g3,j*5+2,none⟩ (.int .i64 q.under.n)).setCell ⟨g3,j*5+3,none⟩ (.int .i64 q.under.r)).setCell ⟨g3,j*5+4,none⟩ (.string q.key)):=(((((hby.setCell hgb.1 _).setCell hgb.1 _).setCell hgb.1 _).setCell hgb.1 _).setCell hgb.1 _)
       have hx1:Ext (·=g3) wy (((((wy.setCell ⟨g3,j*5,none⟩ (.int .i64 q.block.n)).setCell ⟨g3,j*5+1,none⟩ (.int .i64 q.block.r)).setCell ⟨g3,j*5+2,none⟩ (.int .i64 q.under.n)).setCell ⟨g3,j*5+3,none⟩ (.int .i64 q.under.r)).setCell ⟨g3,j*5+4,none⟩ (.string q.key)):=YW (o:=j*5) (Ch.cells q) 0 wy
       have hne:¬ wx.heap.size=g3:=by omega
       replace z0:=hx1.keep z0 hne
       replace z1:=hx1.keep z1 hne
       replace z2:=hx1.keep z2 hne
       replace z3:=hx1.keep z3 hne
       replace z4:=hx1.keep z4 hne
       have HO1:=Jh (And.intro ho1 hb1)
       clear ho1 hb1 hx1 hoy hby HOY
       have HZ0:=Lib.hid z0
       have HZ1:=Lib.hid z1
       have HZ2:=Lib.hid z2
       have HZ3:=Lib.hid z3
       have HZ4:=Lib.hid z4
       clear z0 z1 z2 z3 z4
       go_upto_region 12 with fail
       generalize (((((wy.setCell ⟨g3,j*5,none⟩ (.int .i64 q.block.n)).setCell ⟨g3,j*5+1,none⟩ (.int .i64 q.block.r)).setCell ⟨g3,j*5+2,none⟩ (.int .i64 q.under.n)).setCell ⟨g3,j*5+3,none⟩ (.int .i64 q.under.r)).setCell ⟨g3,j*5+4,none⟩ (.string q.key))=wz at *
       clear q0 f0 r0 q1 f1 r1 q2 f2 r2 q3 f3 r3 q4 f4 r4
       obtain ⟨ho1,hb1⟩:=HO1.out
       have z0:=HZ0.out
       have z1:=HZ1.out
       have z2:=HZ2.out
       have z3:=HZ3.out
       have z4:=HZ4.out
       have f0:=ho1.freeI ((j - 1)*5)
       have f1:=ho1.freeI ((j - 1)*5+1)
       have f2:=ho1.freeI ((j - 1)*5+2)
       have f3:=ho1.freeI ((j - 1)*5+3)
       have f4:=ho1.freeI ((j - 1)*5+4)
       have hq1:(zs.set j q)[j - 1]?=some q:=by rw[List.getElem?_set,if_neg (by omega)];exact HPQ.out.2
       have e0:=ho1.cellI (j:=0) Ch.len hq1 rfl
       have e1:=ho1.cellI (j:=1) Ch.len hq1 rfl
       have e2:=ho1.cellI (j:=2) Ch.len hq1 rfl
       have e3:=ho1.cellI (j:=3) Ch.len hq1 rfl
       have e4:=ho1.cellI (j:=4) Ch.len hq1 rfl
       simp only[Nat.add_zero] at e0
       have ho2:Own Ch.cells 5 53 w1.heap.size (((((wz.setCell ⟨g3,(j - 1)*5,none⟩ (.int .i64 p.block.n)).setCell ⟨g3,(j - 1)*5+1,none⟩ (.int .i64 p.block.r)).setCell ⟨g3,(j - 1)*5+2,none⟩ (.int .i64 p.under.n)).setCell ⟨g3,(j - 1)*5+3,none⟩ (.int .i64 p.under.r)).setCell ⟨g3,(j - 1)*5+4,none⟩ (.string p.key)) (.slice (some ⟨g3,0,none⟩) m c3) (YG zs j p q):=X9 (y:=p) Ch.len (by omega) (by rw[List.length_set];exact hzl) ho1 hq1
       have hb2:Below w1.heap.size _ (((((wz.setCell ⟨g3,(j - 1)*5,none⟩ (.int .i64 p.block.n)).setCell ⟨g3,(j - 1)*5+1,none⟩ (.int .i64 p.block.r)).setCell ⟨g3,(j - 1)*5+2,none⟩ (.int .i64 p.under.n)).setCell ⟨g3,(j - 1)*5+3,none⟩ (.int .i64 p.under.r)).setCell ⟨g3,(j - 1)*5+4,none⟩ (.string p.key)):=(((((hb1.setCell hgb.1 _).setCell hgb.1 _).setCell hgb.1 _).setCell hgb.1 _).setCell hgb.1 _)
       clear ho1 hb1 hq1 HO1 HZ0 HZ1 HZ2 HZ3 HZ4
       have HN:=Jh (And.intro HSW.out (And.intro ho2 hb2))
       clear ho2 hb2 ho hbx hgb hne
       go_wp2_with fail
       go_roundg (j - 1)
       case measure=>rw[HGJ.out];omega
       case rel=>exact ⟨j - 1,_,rfl,by omega,by simp;omega,by rw[VI];exact hzl,Jh (by rw[Xq zs hj0 HPQ.out.1 HPQ.out.2,if_pos rfl,←HPQ.out.1,hzx.out]),HN⟩
      ·have hb:Op.bytesLess p.key.toList q.key.toList=false:=by rw[bytesLess_eq];simpa [YZ] using hlt
       have HN0:=hdone (hV.out.1.stands (fun _ _ _ a b=>WR a b) (fun x' y' _ hx' hy'=>by
        rw[hp] at hx';rw[hq] at hy';cases hx';cases hy'
        have hpx:p=x:=by have:=hzx.out;rw[hp] at this;exact Option.some.inj this
        have hqM:q∈M:=by
         have h1:=hV.out.1.perm.mem_iff.1 (List.mem_of_getElem? hq)
         rcases List.mem_append.1 h1 with h1|h1
         ·exact h1
         ·have hnd:=hV.out.1.perm.nodup_iff.2 HND.out
          rw[List.mem_singleton.1 h1,←hpx] at hq
          exact absurd rfl (YX.1 hnd (j - 1) j p p (by omega) hq hp)
        have hlater:=HUT.out.later HA.out HX.out hqM
        rw[←hpx] at hlater
        rcases T4 p q with t|t|t
        ·rcases t with t|⟨t,t2⟩
         ·exact absurd t hlt
         ·exact absurd (ZC t2 hlater) (Zl _)
        ·rw[t] at hlater;exact absurd hlater (Zl _)
        ·exact t))
       clear hV ho hp hq hdone hlt
       go_upto_region 8 with fail
       go_quiet (fail)
       have HN1:=Jh (And.intro HN0.out (HV2.out nq))
       go_wp2_with fail
       go_roundg (l.length - (k+1))
       case measure=>rw[HGG.out];omega
       case rel=>exact ⟨k+1,⟨_,_,_⟩,zs,rfl,by omega,rfl,by simp,HN1⟩
     ·have HN0:=hdone (hV.out.1.stands (fun _ _ _ a b=>WR a b) (fun x y h0 _ _=>absurd h0 hj0))
      have hj1:¬ (0:Int)<(j:Int):=by omega
      clear hV hdone
      go_upto_region 8 with fail
      go_quiet (fail)
      have HN1:=Jh (And.intro HN0.out (HV2.out nq))
      go_wp2_with fail
      go_roundg (l.length - (k+1))
      case measure=>rw[HGG.out];omega
      case rel=>exact ⟨k+1,⟨_,_,_⟩,zs,rfl,by omega,rfl,by simp,HN1⟩
   ·have hor:(¬ x.under.n=un)∨(x.under.n=un∧¬ x.under.r=ur):=by
     by_cases e1:x.under.n=un
     ·exact .inr ⟨e1,Z05 hb e1⟩
     ·exact .inl e1
    have HUT2:=Jh (HUT.out.skip HX.out hb)
    clear hb
    rcases hor with e1|⟨e1,e2⟩
    ·go_wp2_with fail
     go_quiet (fail)
     have HN1:=Jh (And.intro HUT2.out (HD.out nq))
     go_wp2_with fail
     go_roundg (l.length - (k+1))
     case measure=>rw[HGG.out];omega
     case rel=>exact ⟨k+1,⟨_,_,_⟩,M,rfl,by omega,rfl,by simp,HN1⟩
    ·rw[e1] at x2
     clear e1
     go_wp2_with fail
     go_quiet (fail)
     have HN1:=Jh (And.intro HUT2.out (HD.out nq))
     go_wp2_with fail
     go_roundg (l.length - (k+1))
     case measure=>rw[HGG.out];omega
     case rel=>exact ⟨k+1,⟨_,_,_⟩,M,rfl,by omega,rfl,by simp,HN1⟩
  ·obtain rfl:k=l.length:=by omega
   have hK:=hU.out.1.all HA.out
   have hml:=hU.out.1.len (Nat.le_refl _)
   obtain ⟨hsn,hc3,hm3⟩:=(hU.out.2.1.slice Ch.len) |> fun h=>(by obtain ⟨_,_,e,h2,h3,_⟩:=h;cases e;exact ⟨rfl,h2,h3⟩:sn=M.length∧M.length≤sc∧sc≤maxLen)
   subst hsn
   unfold maxLen at hm3
   obtain ⟨wm,hwm⟩:∃ wm,wm=wr:=⟨_,rfl⟩
   subst hwm
   have HK:=Jh (And.intro hK hU.out.2)
   have hwz:=hU.out.2.2.size
   have hkk:¬ (l.length:Int)<(l.length:Int):=by omega
   clear hU hK hk hkl
   go_wp2_with fail
   go_loopg [9,10] M.length (fun g vv iv wr=>∃ (j:Nat) (s:SlK),g=M.length - j∧j≤M.length∧vv=.slice s.a s.n s.cap∧iv=.int .i64 j∧Hid (Own St.cells 2 23 wm.heap.size wr (.slice s.a s.n s.cap) ((M.take j).map Ch.block)∧Below wm.heap.size wm wr))
   case atStart=>exact ⟨0,⟨none,0,0⟩,by omega,by omega,rfl,rfl,Lib.hid ⟨Own.nil,Below.refl _ _⟩⟩
   case round =>
    obtain ⟨j,⟨ta,tn,tc⟩,hg,hj,rfl,rfl,hV⟩:=hrel
    dsimp only at hV ⊢
    have HGJ:=Lib.hid hg
    clear hg
    by_cases hjl:j<M.length
    ·obtain ⟨y,hy⟩:∃ y,M[j]?=some y:=⟨_,List.getElem?_eq_getElem hjl⟩
     obtain ⟨b,o,c9,e9,h9⟩:=((HK.out.2.1.slice Ch.len).below hV.out.2).dcells (by intro e;rw[e] at hjl;simp at hjl)
     cases e9
     obtain ⟨y0,y1,-,-,-⟩:=h9 j y hy
     have hst:=hV.out.2.size
     have htk:(M.take (j+1)).map Ch.block=(M.take j).map Ch.block++[y.block]:=by rw[List.take_add_one,hy];simp
     have HTK:=Lib.hid htk
     have htl:((M.take j).map Ch.block).length=j:=by rw[List.length_map,List.length_take];omega
     clear hy h9 htk
     go_wp2_with (at_builtin;refine Zo rfl _ _ _ rfl i1 _ 16 Tryz.underlying43 hi1 hy0 hy1 hy2 rfl (by omega) StC.len StC.one rfl (hV.out.1.alloc _) y.block wr.heap.size 1 rfl (Ry _ y.block) (by unfold maxLen;omega) (by omega) (by simp;omega) ?_)
     intro v' w3 hown3 hx3
     obtain ⟨⟨ua,un',uc⟩,e3⟩:∃ s:SlK,v'=.slice s.a s.n s.cap:=by
      rcases hown3.eq_slice with ⟨e,_⟩|⟨g,c,e,_⟩
      ·exact ⟨⟨_,_,_⟩,e⟩
      ·exact ⟨⟨_,_,_⟩,e⟩
     dsimp only at e3
     subst e3
     have hB3:=Ext.new (hV.out.2.alloc hV.out.2.size (.cells #[.int .i64 y.block.n,.int .i64 y.block.r] 23)) hx3 (fun i hi _ e=>by have:=(hV.out.1.blk i e).1;omega) (by simp;omega)
     have HN:Hid (Own St.cells 2 23 wm.heap.size w3 (.slice ua un' uc) ((M.take (j+1)).map Ch.block)∧Below wm.heap.size wm w3):=Lib.hid ⟨by rw[HTK.out,List.map_take];exact hown3,hB3⟩
     clear hown3 hx3 hB3 hV
     go_wp2_with fail
     go_roundg (M.length - (j+1))
     case measure=>rw[HGJ.out];omega
     case rel=>exact ⟨j+1,⟨ua,un',uc⟩,rfl,by omega,rfl,by simp,HN⟩
    ·obtain rfl:j=M.length:=by omega
     have hjj:¬ (M.length:Int)<(M.length:Int):=by omega
     have hV1:=hV.out.1
     rw[List.take_length] at hV1
     have hw:=HB0.out.trans ((HK.out.2.2.trans (hV.out.2.mono HK.out.2.2.size)).mono HB0.out.size)
     have HN:=Jh (And.intro (hV1.mono (Nat.le_trans HB0.out.size hwz)) hw)
     clear hV hV1 hw hjl
     go_wp2_with fail
     go_ret
     exact ⟨_,M,rfl,HN.out.1,HK.out.1,HN.out.2⟩
def btc (b:Bool):List Value:=[.bool b]
theorem TZ (b:Bool):(btc b).length=1:=rfl
theorem QD (b:Bool):∀ u∈btc b,u.oneCell'=true:=by
 intro u hu
 simp only[btc,List.mem_cons,List.not_mem_nil,or_false] at hu
 subst hu
 rfl
theorem Qx (W:World) (b:Bool):∀ j u,(btc b)[j]?=some u→(W.alloc (.cells #[.bool b] 4)).cell? ⟨W.heap.size,j,none⟩=some u:=by
 intro j u hj
 rw[World.cell?_alloc_at _ _ _ _ rfl,←hj,btc]
 simp
theorem Z1T:(Tryz.prog.info? 4).map (fun i=>(i.zero,i.size,i.bytes))=some (some (.bool false),1,1):=by kernel_rfl
theorem VF {α β:Type} {ea:α→List Value} {eb:β→List Value} {k k2:Nat} {e e2:TypeId} {B B2:Nat} {w:World} {v v2:Value} {l:List α} {l2:List β} (h:Own ea k e B w v l) (h2:Own eb k2 e2 B2 w v2 l2) (hne:e≠e2):∀ b,v.ownBlock=some b→¬ v2.ownBlock=some b:=fun b hb hb2=>by
 obtain ⟨c,hc⟩:=h.tag hb
 obtain ⟨c2,hc2⟩:=h2.tag hb2
 rw[hc] at hc2
 cases hc2
 exact hne rfl
def YF (B:Nat) (w:World) (rb:Nat) (v:Value) (L:List RMv):Prop :=
 w.heap[rb]?=some (.cells #[v] 85 (0,0))∧Own RMv.cells 7 88 B w v L∧B≤rb
theorem YF.below {B:Nat} {w w':World} {rb:Nat} {v:Value} {L:List RMv} (h:YF B w rb v L) (hb:Below w.heap.size w w'):YF B w' rb v L :=
 ⟨(hb.block rb (Array.getElem?_eq_some_iff.1 h.1).1).trans h.1,h.2.1.ext (Ext.of_below (S:=fun _=>False) hb) (fun _ _ h=>h),h.2.2⟩
theorem YF.c0 {B:Nat} {w:World} {rb:Nat} {v:Value} {L:List RMv} (h:YF B w rb v L):w.cell? ⟨rb,0,none⟩=some v:=by simp[World.cell?,h.1]
def Z18 (w:World) (c:List (St × Ch)) (e:Ending) (w':World):Prop :=
 ∃ v1 v2 A,e=.returned (.tuple #[v1,v2])∧Own Ch.cells 5 53 w.heap.size w' v1 A∧Zm (Y3 c) A∧Own btc 1 4 w.heap.size w' v2 (Xn c)∧Below w.heap.size w w'
structure WE (w:World) (c:List (St × Ch)) (wr:World) (k:Nat) (v1 v2:Value) (A:List Ch):Prop where
 all:Zm (Y3 (c.take k)) A
 own:Own Ch.cells 5 53 w.heap.size wr v1 A
 took:Own btc 1 4 w.heap.size wr v2 (Xn (c.take k))
 frame:Below w.heap.size w wr
theorem WE.below {w:World} {c:List (St × Ch)} {wr w':World} {k:Nat} {v1 v2:Value} {A:List Ch} (h:WE w c wr k v1 v2 A) (hb:Below wr.heap.size wr w'):WE w c w' k v1 v2 A :=
 ⟨h.all,h.own.ext (Ext.of_below (S:=fun _=>False) hb) (fun _ _ h=>h),h.took.ext (Ext.of_below (S:=fun _=>False) hb) (fun _ _ h=>h),h.frame.trans (hb.mono h.frame.size)⟩
theorem WE.len {w:World} {c:List (St × Ch)} {wr:World} {k:Nat} {v1 v2:Value} {A:List Ch} (h:WE w c wr k v1 v2 A):A.length≤k:=by
 have h0:Zm (UI ((c.take k).map (·.2))) A:=h.all
 have:=h0.length
 rw[List.length_map,List.length_take] at this
 omega
theorem Ub {α:Type} {ea:α→List Value} {q:Nat} {T:TypeId} {base:Nat} {w:World} {a:Option Addr} {n cap:Nat} {l:List α} (h:Own ea q T base w (.slice a n cap) l) (hk:∀ x,(ea x).length=q):n=l.length∧n≤cap∧cap≤9223372036854775807:=by
 obtain ⟨a,c,e1,h2,h3,h4⟩:=h.slice hk
 cases e1
 exact ⟨rfl,h2,by unfold maxLen at h3;exact h3⟩
theorem WE.noted {w:World} {c:List (St × Ch)} {wr w':World} {k:Nat} {v1 v2 v3:Value} {A:List Ch} {x:St × Ch} {b:Bool} (h:WE w c wr k v1 v2 A) (hx:c[k]?=some x) (ht:WH (Y3 (c.take k)) x.2=b)
  (h3:Own btc 1 4 w.heap.size w' v3 (Xn (c.take k)++[b])) (hx3:Ext (fun b=>v2.ownBlock=some b) wr w') :
  Own Ch.cells 5 53 w.heap.size w' v1 A∧Own btc 1 4 w.heap.size w' v3 (Xn (c.take (k+1)))∧Below w.heap.size w w' :=
 ⟨h.own.ext hx3 (VF h.own h.took (by decide)),by rw[Z0v hx,ht];exact h3,Ext.new h.frame hx3 (fun i hi _ e=>by have:=(h.took.blk i e).1;omega) h.frame.size⟩
theorem Z0y (rb:Nat) (v:Value) (L:List RMv) (w:World) {B:Nat} (h:YF B w rb v L) {c:List (St × Ch)} (hc:YP L c) (hl:L.length≤1000) :
  Calls Tryz.prog 57 #[.pointer (some ⟨rb,0,none⟩),.int .i64 L.length] w fun e w'=>Z18 w c e w':=by
 obtain ⟨a,cap,rfl,hcap,hmax,_⟩:=h.2.1.slice RMv.len
 unfold maxLen at hmax
 obtain ⟨i0,hi,hz0,hz1,hz2⟩:=info_parts Xr
 obtain ⟨i1,hi1,hy0,hy1,hy2⟩:=info_parts Z1T
 have hcl:=hc.len
 have HC:=Lib.hid hc
 have HT:=Lib.hid h
 have HCL:=Lib.hid hcl
 clear h hc hcl
 go_enter Tryz.func57,Tryz.ntmps57
 go_wp2_with fail
 go_loopg [6,7,8] L.length (fun g lv tv iv wr=>∃ (k:Nat) (s t:SlK) (A:List Ch),g=L.length - k∧k≤L.length∧lv=.slice s.a s.n s.cap∧tv=.slice t.a t.n t.cap∧iv=.int .i64 k∧Hid (WE w c wr k (.slice s.a s.n s.cap) (.slice t.a t.n t.cap) A))
 case atStart=>exact ⟨0,⟨none,0,0⟩,⟨none,0,0⟩,[],by omega,by omega,rfl,rfl,rfl,Lib.hid ⟨Zm.nil,Own.nil,Own.nil,Below.refl _ _⟩⟩
 case round =>
  obtain ⟨k,⟨sa,sn,sc⟩,⟨ta,tn,tc⟩,A,hg,hk,rfl,rfl,rfl,hU⟩:=hrel
  dsimp only at hU ⊢
  have HGG:=Lib.hid hg
  clear hg
  by_cases hkl:k<L.length
  ·obtain ⟨x,hx⟩:∃ x,L[k]?=some x:=⟨_,List.getElem?_eq_getElem hkl⟩
   have hcx:c[k]?=some (UT x):=by rw[←HC.out.1,List.getElem?_map,hx];rfl
   have HCX:=Lib.hid hcx
   have hT:=HT.out.below hU.out.frame
   have t0:=hT.c0
   obtain ⟨b,o,c1,e1,h1⟩:=(hT.2.1.slice RMv.len).rcells (by intro e;rw[e] at hkl;simp at hkl)
   cases e1
   obtain ⟨x0,x1,x2,x3,x4,x5,x6⟩:=h1 k x hx
   have hkk:(k:Int)<(L.length:Int):=by omega
   have hb5:Below wr.heap.size wr (wr.alloc (.cells #[.int .i64 x.at_.n,.int .i64 x.at_.r,.int .i64 x.block.n,.int .i64 x.block.r,.int .i64 x.under.n,.int .i64 x.under.r,.string x.key] 88)):=(Below.refl _ _).alloc (Nat.le_refl _) _
   have hU5:=hU.out.below hb5
   have z0:(wr.alloc (.cells #[.int .i64 x.at_.n,.int .i64 x.at_.r,.int .i64 x.block.n,.int .i64 x.block.r,.int .i64 x.under.n,.int .i64 x.under.r,.string x.key] 88)).cell? ⟨wr.heap.size,0,none⟩=some (.int .i64 x.at_.n):=by go_simp
   have z1:(wr.alloc (.cells #[.int .i64 x.at_.n,.int .i64 x.at_.r,.int .i64 x.block.n,.int .i64 x.block.r,.int .i64 x.under.n,.int .i64 x.under.r,.string x.key] 88)).cell? ⟨wr.heap.size,1,none⟩=some (.int .i64 x.at_.r):=by go_simp
   have z2:(wr.alloc (.cells #[.int .i64 x.at_.n,.int .i64 x.at_.r,.int .i64 x.block.n,.int .i64 x.block.r,.int .i64 x.under.n,.int .i64 x.under.r,.string x.key] 88)).cell? ⟨wr.heap.size,2,none⟩=some (.int .i64 x.block.n):=by go_simp
   have z3:(wr.alloc (.cells #[.int .i64 x.at_.n,.int .i64 x.at_.r,.int .i64 x.block.n,.int .i64 x.block.r,.int .i64 x.under.n,.int .i64 x.under.r,.string x.key] 88)).cell? ⟨wr.heap.size,3,none⟩=some (.int .i64 x.block.r):=by go_simp
   have z4:(wr.alloc (.cells #[.int .i64 x.at_.n,.int .i64 x.at_.r,.int .i64 x.block.n,.int .i64 x.block.r,.int .i64 x.under.n,.int .i64 x.under.r,.string x.key] 88)).cell? ⟨wr.heap.size,4,none⟩=some (.int .i64 x.under.n):=by go_simp
   have z5:(wr.alloc (.cells #[.int .i64 x.at_.n,.int .i64 x.at_.r,.int .i64 x.block.n,.int .i64 x.block.r,.int .i64 x.under.n,.int .i64 x.under.r,.string x.key] 88)).cell? ⟨wr.heap.size,5,none⟩=some (.int .i64 x.under.r):=by go_simp
   have z6:(wr.alloc (.cells #[.int .i64 x.at_.n,.int .i64 x.at_.r,.int .i64 x.block.n,.int .i64 x.block.r,.int .i64 x.under.n,.int .i64 x.under.r,.string x.key] 88)).cell? ⟨wr.heap.size,6,none⟩=some (.string x.key):=by go_simp
   have hAl:=hU.out.len
   obtain ⟨hsn,hc2,hc3⟩:=Ub hU.out.own Ch.len
   obtain ⟨htn,hd2,hd3⟩:=Ub hU.out.took TZ
   have htl:(Xn (c.take k)).length=k:=by rw[Wp,List.length_take];have:=HCL.out;omega
   have HU5:=Lib.hid hU5
   have HTL:=Lib.hid htl
   have htn2:tn≤1000:=by omega
   have hsn2:sn≤1000:=by omega
   have HSN:=Lib.hid hsn
   have HTN:=Lib.hid htn
   have HTB:=Jh (fun b hb=>(hU.out.took.blk b hb).2)
   clear hcx hx h1 hT hU hb5 hU5 htl hsn htn
   go_upto_region 7 with fail
   generalize wr.alloc (.cells #[.int .i64 x.at_.n,.int .i64 x.at_.r,.int .i64 x.block.n,.int .i64 x.block.r,.int .i64 x.under.n,.int .i64 x.under.r,.string x.key] 88)=w5 at *
   clear x0 x1 x2 x3 x4 x5 x6 t0
   have HWI:=Jh (Qd (.slice sa sn sc) A x.under.n x.under.r x.block.n x.block.r w5 (HU5.out.own.slice Ch.len) (by omega) HU5.out.all (YT _) (VC _))
   go_wp2_with fail
   refine HWI.out.mono ?_
   rintro e w6 ⟨rfl,b6⟩
   have hU6:=HU5.out.below b6
   replace z0:=Z0 b6 z0
   replace z1:=Z0 b6 z1
   replace z2:=Z0 b6 z2
   replace z3:=Z0 b6 z3
   replace z4:=Z0 b6 z4
   replace z5:=Z0 b6 z5
   replace z6:=Z0 b6 z6
   have hsz6:=hU6.frame.size
   have htk:=Z17 (Y3 (c.take k)) x.ch
   obtain ⟨rr,hrr⟩:=Je (upB (Y3 (c.take k)) ⟨x.under.n,x.under.r⟩ ⟨x.block.n,x.block.r⟩)
   rw[show upB (Y3 (c.take k)) x.ch.under x.ch.block=rr from hrr] at htk
   rw[hrr]
   have HTK:=Lib.hid htk
   have HU6:=Lib.hid hU6
   clear hU6 htk hrr b6 HWI HU5
   cases rr
   ·have htr:True:=trivial
    go_wp2_with (at_builtin;refine Zo rfl _ _ _ rfl i1 _ 1 Tryz.underlying123 hi1 hy0 hy1 hy2 rfl (by omega) TZ QD rfl (HU6.out.took.alloc _) true w6.heap.size 1 rfl (Qx _ true) (by unfold maxLen;have:=HTL.out;omega) (by have:=HTL.out;omega) (by simp;omega) ?_)
    intro v' w7 hown7 hx7
    obtain ⟨⟨ua,un,uc⟩,e7⟩:∃ s:SlK,v'=.slice s.a s.n s.cap:=by
     rcases hown7.eq_slice with ⟨e,_⟩|⟨g,c,e,_⟩
     ·exact ⟨⟨_,_,_⟩,e⟩
     ·exact ⟨⟨_,_,_⟩,e⟩
    dsimp only at e7
    subst e7
    have hU6a:=HU6.out.below ((Below.refl _ _).alloc (Nat.le_refl _) (.cells #[.bool true] 4))
    have h7:=hU6a.noted HCX.out HTK.out hown7 hx7
    have hzk:∀ i u,w6.cell? ⟨wr.heap.size,i,none⟩=some u→w7.cell? ⟨wr.heap.size,i,none⟩=some u:=fun i u hu=>hx7.keep (Z1 hu _) (fun e=>by have:=HTB.out _ e;omega)
    replace z0:=hzk _ _ z0
    replace z1:=hzk _ _ z1
    replace z2:=hzk _ _ z2
    replace z3:=hzk _ _ z3
    replace z4:=hzk _ _ z4
    replace z5:=hzk _ _ z5
    replace z6:=hzk _ _ z6
    have hst:=SL HCX.out
    rw[show (UT x).2=x.ch from rfl,Ua HTK.out] at hst
    have HST:=Lib.hid hst
    have hsz7:=h7.2.2.size
    have HO7:=Lib.hid h7
    clear hzk h7 hU6a hown7 hx7 hst
    have v0:=Z1 z0 (.cells #[.int .i64 x.block.n,.int .i64 x.block.r,.int .i64 x.under.n,.int .i64 x.under.r,.string x.key] 53)
    have v1:=Z1 z1 (.cells #[.int .i64 x.block.n,.int .i64 x.block.r,.int .i64 x.under.n,.int .i64 x.under.r,.string x.key] 53)
    have v2:=Z1 z2 (.cells #[.int .i64 x.block.n,.int .i64 x.block.r,.int .i64 x.under.n,.int .i64 x.under.r,.string x.key] 53)
    have v3:=Z1 z3 (.cells #[.int .i64 x.block.n,.int .i64 x.block.r,.int .i64 x.under.n,.int .i64 x.under.r,.string x.key] 53)
    have v4:=Z1 z4 (.cells #[.int .i64 x.block.n,.int .i64 x.block.r,.int .i64 x.under.n,.int .i64 x.under.r,.string x.key] 53)
    have v5:=Z1 z5 (.cells #[.int .i64 x.block.n,.int .i64 x.block.r,.int .i64 x.under.n,.int .i64 x.under.r,.string x.key] 53)
    have v6:=Z1 z6 (.cells #[.int .i64 x.block.n,.int .i64 x.block.r,.int .i64 x.under.n,.int .i64 x.under.r,.string x.key] 53)
    have y0:(w7.alloc (.cells #[.int .i64 x.block.n,.int .i64 x.block.r,.int .i64 x.under.n,.int .i64 x.under.r,.string x.key] 53)).cell? ⟨w7.heap.size,0,none⟩=some (.int .i64 x.block.n):=by go_simp
    have y1:(w7.alloc (.cells #[.int .i64 x.block.n,.int .i64 x.block.r,.int .i64 x.under.n,.int .i64 x.under.r,.string x.key] 53)).cell? ⟨w7.heap.size,1,none⟩=some (.int .i64 x.block.r):=by go_simp
    have y2:(w7.alloc (.cells #[.int .i64 x.block.n,.int .i64 x.block.r,.int .i64 x.under.n,.int .i64 x.under.r,.string x.key] 53)).cell? ⟨w7.heap.size,2,none⟩=some (.int .i64 x.under.n):=by go_simp
    have y3:(w7.alloc (.cells #[.int .i64 x.block.n,.int .i64 x.block.r,.int .i64 x.under.n,.int .i64 x.under.r,.string x.key] 53)).cell? ⟨w7.heap.size,3,none⟩=some (.int .i64 x.under.r):=by go_simp
    have y4:(w7.alloc (.cells #[.int .i64 x.block.n,.int .i64 x.block.r,.int .i64 x.under.n,.int .i64 x.under.r,.string x.key] 53)).cell? ⟨w7.heap.size,4,none⟩=some (.string x.key):=by go_simp
    have h8:Own Ch.cells 5 53 w.heap.size (w7.alloc (.cells #[.int .i64 x.block.n,.int .i64 x.block.r,.int .i64 x.under.n,.int .i64 x.under.r,.string x.key] 53)) (.slice sa sn sc) A∧Own btc 1 4 w.heap.size (w7.alloc (.cells #[.int .i64 x.block.n,.int .i64 x.block.r,.int .i64 x.under.n,.int .i64 x.under.r,.string x.key] 53)) (.slice ua un uc) (Xn (c.take (k+1)))∧Below w.heap.size w (w7.alloc (.cells #[.int .i64 x.block.n,.int .i64 x.block.r,.int .i64 x.under.n,.int .i64 x.under.r,.string x.key] 53)):=⟨HO7.out.1.alloc _,HO7.out.2.1.alloc _,HO7.out.2.2.alloc hsz7 _⟩
    have hs8:(w7.alloc (.cells #[.int .i64 x.block.n,.int .i64 x.block.r,.int .i64 x.under.n,.int .i64 x.under.r,.string x.key] 53)).heap.size=w7.heap.size+1:=by simp
    have H8:=Lib.hid h8
    have HS8:=Lib.hid hs8
    clear h8 hs8
    go_upto_region 11 with fail
    generalize w7.alloc (.cells #[.int .i64 x.block.n,.int .i64 x.block.r,.int .i64 x.under.n,.int .i64 x.under.r,.string x.key] 53)=w8 at *
    clear z0 z1 z2 z3 z4 z5 z6 HO7
    have HFI:=Jh (UA (.slice sa sn sc) A x.block.n x.block.r w8 (H8.out.1.slice Ch.len) (by omega))
    have HFD:=Jh (HU6.out.all.find (YT _) (b:=x.block))
    go_wp2_with fail
    refine HFI.out.mono ?_
    rintro e w9 ⟨rfl,b9⟩
    have hO9:=H8.out.1.ext (Ext.of_below (S:=fun _=>False) b9) (fun _ _ h=>h)
    have hT9:=H8.out.2.1.ext (Ext.of_below (S:=fun _=>False) b9) (fun _ _ h=>h)
    have hB9:=H8.out.2.2.trans (b9.mono H8.out.2.2.size)
    replace y0:=Z0 b9 y0
    replace y1:=Z0 b9 y1
    replace y2:=Z0 b9 y2
    replace y3:=Z0 b9 y3
    replace y4:=Z0 b9 y4
    have hs9:=b9.size
    rw[HS8.out] at hs9
    clear v0 v1 v2 v3 v4 v5 v6 b9 HFI
    rcases HFD.out with ⟨f1,f2⟩|⟨i,y,f1,f2,f3,f4⟩
    ·have hfi:Yw A ⟨x.block.n,x.block.r⟩=-1:=by unfold Yw;rw[f1]
     rw[hfi]
     have HF2:=Lib.hid f2
     obtain ⟨rfl,hcc1,hcc2⟩:=Ub hO9 Ch.len
     have hbk:=hO9.blk
     have HBK:=Lib.hid hbk
     have HT9:=Jh (And.intro hT9 hB9)
     have hsz9:=hB9.size
     clear hfi f1 f2 HFD H8 hbk hT9
     go_wp2_with (at_builtin;refine Zo rfl _ _ _ rfl i0 _ 48 Tryz.underlying48 hi hz0 hz1 hz2 rfl (by omega) Ch.len Ch.one rfl (hO9.alloc _) x.ch w9.heap.size 1 rfl (UN _ x.ch) (by unfold maxLen;omega) (by omega) (by simp;omega) ?_)
     intro v' w3 hown3 hx3
     obtain ⟨g3,c3,e3⟩:∃ g3 c3,v'=.slice (some ⟨g3,0,none⟩) (A++[x.ch]).length c3:=by
      rcases hown3.eq_slice with ⟨_,e⟩|⟨g,c,e,_⟩
      ·simp at e
      ·exact ⟨g,c,e⟩
     subst e3
     have hB3:=Ext.new (hB9.alloc hB9.size (.cells #[.int .i64 x.block.n,.int .i64 x.block.r,.int .i64 x.under.n,.int .i64 x.under.r,.string x.key] 53)) hx3 (fun i hi _ e=>by have:=(HBK.out i e).1;omega) (by simp;omega)
     have hT3:=(HT9.out.1.alloc (.cells #[.int .i64 x.block.n,.int .i64 x.block.r,.int .i64 x.under.n,.int .i64 x.under.r,.string x.key] 53)).ext hx3 (VF (HT9.out.1.alloc (.cells #[.int .i64 x.block.n,.int .i64 x.block.r,.int .i64 x.under.n,.int .i64 x.under.r,.string x.key] 53)) (hO9.alloc (.cells #[.int .i64 x.block.n,.int .i64 x.block.r,.int .i64 x.under.n,.int .i64 x.under.r,.string x.key] 53)) (by decide))
     obtain ⟨-,hc3,hm3⟩:=hown3.lenI Ch.len
     have hins:=Vb (R:=BLt) HU6.out.all.2 x.ch
     obtain ⟨mm,hmm⟩:=Je (A.length)
     have hlm:(A++[x.ch]).length=mm+1:=by simp[hmm]
     rw[hmm] at hins hAl
     rw[hlm] at hown3 hc3 ⊢
     have HI0:Hid (W5 BLt (A++[x.ch]) (A++[x.ch]) mm∧Own Ch.cells 5 53 w.heap.size w3 (.slice (some ⟨g3,0,none⟩) (mm+1) c3) (A++[x.ch])∧Own btc 1 4 w.heap.size w3 (.slice ua un uc) (Xn (c.take (k+1)))∧Below w.heap.size w w3):=Lib.hid ⟨hins,hown3,hT3,hB3⟩
     have HND:Hid ((A++[x.ch]).Nodup∧∀ q∈A,q.block≠x.block):=Jh (by
      have hq:∀ q∈A,q.block≠x.block:=fun q hq e=>by
       have:=(HU6.out.all.1 q).1 hq
       rw[e,HF2.out] at this
       cases this
      refine ⟨?_,hq⟩
      rw[List.nodup_append]
      refine ⟨HU6.out.all.2.imp (fun {a b} h e=>by rw[e] at h;exact Zl _ h),by simp,fun a ha b hb e=>?_⟩
      rw[List.mem_singleton] at hb
      subst hb
      exact hq a ha (by rw[e];rfl))
     have HMM:=Lib.hid hmm
     have HLM:=Lib.hid hlm
     clear hown3 hx3 hB3 hins hmm hlm hT3 hO9 hB9 HT9 HBK y0 y1 y2 y3 y4
     obtain ⟨m,hm⟩:=Je (mm+1)
     have hm1:(m:Int) - 1=(mm:Int):=by omega
     rw[hm] at HI0 HLM hc3 ⊢
     have HM:=Lib.hid hm
     have hmb:m≤1001:=by omega
     go_wp2_with fail
     go_loopg [13] mm (fun g jv wr=>∃ (j:Nat) (zs:List Ch),g=j∧j≤mm∧jv=.int .i64 j∧zs.length=m∧Hid (zs[j]?=some x.ch)∧Hid (W5 BLt (A++[x.ch]) zs j∧Own Ch.cells 5 53 w.heap.size wr (.slice (some ⟨g3,0,none⟩) m c3) zs∧Own btc 1 4 w.heap.size wr (.slice ua un uc) (Xn (c.take (k+1)))∧Below w.heap.size w wr))
     case atStart=>exact ⟨mm,_,rfl,by omega,by simp,HLM.out,Jh (by rw[List.getElem?_append_right (by rw[HMM.out];omega),HMM.out,Nat.sub_self];rfl),HI0⟩
     case round =>
      obtain ⟨j,zs,hg,hj,rfl,hzl,hzx,hV⟩:=hrel
      have HGJ:=Lib.hid hg
      clear hg
      have hdone:∀ W,Below wr.heap.size wr W→zs.Pairwise BLt→Hid (WE w c W (k+1) (.slice (some ⟨g3,0,none⟩) m c3) (.slice ua un uc) zs):=fun W hW h=>Lib.hid ⟨by rw[HST.out];exact HU6.out.all.insert (YT _) HF2.out hV.out.1.perm h,hV.out.2.1.ext (Ext.of_below (S:=fun _=>False) hW) (fun _ _ h=>h),hV.out.2.2.1.ext (Ext.of_below (S:=fun _=>False) hW) (fun _ _ h=>h),hV.out.2.2.2.trans (hW.mono hV.out.2.2.2.size)⟩
      by_cases hj0:0<j
      ·obtain ⟨p,hp⟩:∃ p,zs[j]?=some p:=⟨_,List.getElem?_eq_getElem (by omega)⟩
       obtain ⟨q,hq⟩:∃ q,zs[j - 1]?=some q:=⟨_,List.getElem?_eq_getElem (by omega)⟩
       have ho:=hV.out.2.1
       have p0:=ho.cellI (j:=0) Ch.len hp rfl
       have p1:=ho.cellI (j:=1) Ch.len hp rfl
       have q0:=ho.cellI (j:=0) Ch.len hq rfl
       have q1:=ho.cellI (j:=1) Ch.len hq rfl
       simp only[Nat.add_zero] at p0 q0
       have hj1:(0:Int)<(j:Int):=by omega
       have hjz:((j - 1:Nat):Int)=(j:Int) - 1:=by omega
       have HPQ:=Jh (And.intro hp hq)
       have hcm:=X1 p.block.n p.block.r q.block.n q.block.r
       obtain ⟨cv,hcv⟩:=Je (Yc ⟨p.block.n,p.block.r⟩ ⟨q.block.n,q.block.r⟩)
       rw[hcv] at hcm
       have HCM:=Lib.hid hcm
       have hvv:=Wm p.block q.block
       rw[show Yc p.block q.block=cv from hcv] at hvv
       have HVV:=Lib.hid hvv
       have hja:(0:Int)≤(j:Int):=by omega
       have hjb:(j:Int)<(m:Int):=by omega
       obtain ⟨jq,hjq⟩:∃ jq:Nat,j - 1=jq:=⟨_,rfl⟩
       rw[hjq] at q0 q1
       have hjc:(0:Int)≤(jq:Int):=by omega
       have hjd:(jq:Int)<(m:Int):=by omega
       have hje:IntKind.i64.wrap ((j:Int) - 1)=(jq:Int):=by rw[show (j:Int) - 1=(jq:Int) by omega];exact IntWalk.i64_in _ (by omega)
       have HJQ:=Lib.hid hjq
       clear hjz hjq
       clear ho hp hq hcm hcv hvv
       go_upto_region 16 with fail
       go_region_held3 (fun W=>W.cell? ⟨g3,j*5,none⟩=some (.int .i64 p.block.n)∧W.cell? ⟨g3,j*5+1,none⟩=some (.int .i64 p.block.r)∧W.cell? ⟨g3,jq*5,none⟩=some (.int .i64 q.block.n)∧W.cell? ⟨g3,jq*5+1,none⟩=some (.int .i64 q.block.r)) (first|exact ⟨p0,p1,q0,q1⟩|exact ⟨Z0 b5 p0,Z0 b5 p1,Z0 b5 q0,Z0 b5 q1⟩) (first|(go_at_call 23;((with_reducible refine (HCM.out _).mono ?_);rintro e w5 ⟨rfl,b5⟩;simp only[ZR,ZJ] at b5)))
       have HB5:=Lib.hid b5
       clear b5 p0 p1 q0 q1 hja hjb hjc hjd hje
       have hjz:((j - 1:Nat):Int)=(j:Int) - 1:=by omega
       by_cases hlt:cv<0
       ·have HSW:=Jh (hV.out.1.swap hj0 HPQ.out.1 HPQ.out.2 (HVV.out.1 hlt))
        have ho:=hV.out.2.1.ext (Ext.of_below (S:=fun _=>False) HB5.out) (fun _ _ h=>h)
        have hbx:=hV.out.2.2.2.trans (HB5.out.mono hV.out.2.2.2.size)
        have HTX:=Jh (hV.out.2.2.1.ext (Ext.of_below (S:=fun _=>False) HB5.out) (fun _ _ h=>h))
        have HTA:=Jh (VF HTX.out ho (by decide))
        clear hV hdone HCM HVV HB5
        have p0:=ho.cellI (j:=0) Ch.len HPQ.out.1 rfl
        have p1:=ho.cellI (j:=1) Ch.len HPQ.out.1 rfl
        have p2:=ho.cellI (j:=2) Ch.len HPQ.out.1 rfl
        have p3:=ho.cellI (j:=3) Ch.len HPQ.out.1 rfl
        have p4:=ho.cellI (j:=4) Ch.len HPQ.out.1 rfl
        simp only[Nat.add_zero] at p0
        have hgb:=ho.blk g3 rfl
        have hoy:=ho.alloc (.cells #[.int .i64 p.block.n,.int .i64 p.block.r,.int .i64 p.under.n,.int .i64 p.under.r,.string p.key] 53)
        have hby:=hbx.alloc hbx.size (.cells #[.int .i64 p.block.n,.int .i64 p.block.r,.int .i64 p.under.n,.int .i64 p.under.r,.string p.key] 53)
        have z0:(w5.alloc (.cells #[.int .i64 p.block.n,.int .i64 p.block.r,.int .i64 p.under.n,.int .i64 p.under.r,.string p.key] 53)).cell? ⟨w5.heap.size,0,none⟩=some (.int .i64 p.block.n):=by go_simp
        have z1:(w5.alloc (.cells #[.int .i64 p.block.n,.int .i64 p.block.r,.int .i64 p.under.n,.int .i64 p.under.r,.string p.key] 53)).cell? ⟨w5.heap.size,1,none⟩=some (.int .i64 p.block.r):=by go_simp
        have z2:(w5.alloc (.cells #[.int .i64 p.block.n,.int .i64 p.block.r,.int .i64 p.under.n,.int .i64 p.under.r,.string p.key] 53)).cell? ⟨w5.heap.size,2,none⟩=some (.int .i64 p.under.n):=by go_simp
        have z3:(w5.alloc (.cells #[.int .i64 p.block.n,.int .i64 p.block.r,.int .i64 p.under.n,.int .i64 p.under.r,.string p.key] 53)).cell? ⟨w5.heap.size,3,none⟩=some (.int .i64 p.under.r):=by go_simp
        have z4:(w5.alloc (.cells #[.int .i64 p.block.n,.int .i64 p.block.r,.int .i64 p.under.n,.int .i64 p.under.r,.string p.key] 53)).cell? ⟨w5.heap.size,4,none⟩=some (.string p.key):=by go_simp
        have HTY:=Jh (HTX.out.alloc (.cells #[.int .i64 p.block.n,.int .i64 p.block.r,.int .i64 p.under.n,.int .i64 p.under.r,.string p.key] 53))
        have HOY:=Jh (And.intro hoy hby)
        clear hoy hby
        go_upto_region 19 with fail
        generalize w5.alloc (.cells #[.int .i64 p.block.n,.int .i64 p.block.r,.int .i64 p.under.n,.int .i64 p.under.r,.string p.key] 53)=wy at *
        clear p0 p1 p2 p3 p4
        obtain ⟨hoy,hby⟩:=HOY.out
        have q0:=hoy.cellI (j:=0) Ch.len HPQ.out.2 rfl
        have f0:=hoy.freeI (j*5)
        have r0:=hoy.cellI (j:=0) Ch.len HPQ.out.1 rfl
        have q1:=hoy.cellI (j:=1) Ch.len HPQ.out.2 rfl
        have f1:=hoy.freeI (j*5+1)
        have r1:=hoy.cellI (j:=1) Ch.len HPQ.out.1 rfl
        have q2:=hoy.cellI (j:=2) Ch.len HPQ.out.2 rfl
        have f2:=hoy.freeI (j*5+2)
        have r2:=hoy.cellI (j:=2) Ch.len HPQ.out.1 rfl
        have q3:=hoy.cellI (j:=3) Ch.len HPQ.out.2 rfl
        have f3:=hoy.freeI (j*5+3)
        have r3:=hoy.cellI (j:=3) Ch.len HPQ.out.1 rfl
        have q4:=hoy.cellI (j:=4) Ch.len HPQ.out.2 rfl
        have f4:=hoy.freeI (j*5+4)
        have r4:=hoy.cellI (j:=4) Ch.len HPQ.out.1 rfl
        simp only[Nat.add_zero] at q0 r0
        have ho1:Own Ch.cells 5 53 w.heap.size (((((wy.setCell ⟨g3,j*5,none⟩ (.int .i64 q.block.n)).setCell ⟨g3,j*5+1,none⟩ (.int .i64 q.block.r)).setCell ⟨g3,j*5+2,none⟩ (.int .i64 q.under.n)).setCell ⟨g3,j*5+3,none⟩ (.int .i64 q.under.r)).setCell ⟨g3,j*5+4,none⟩ (.string q.key)) (.slice (some ⟨g3,0,none⟩) m c3) (zs.set j q):=X9 (y:=q) Ch.len (by omega) hzl hoy HPQ.out.1
        have hb1:Below w.heap.size _ (((((wy.setCell ⟨g3,j*5,none⟩ (.int .i64 q.block.n)).setCell ⟨g3,j*5+1,none⟩ (.int .i64 q.block.r)).setCell ⟨g3,j*5+2,none⟩ (.int .i64 q.under.n)).setCell ⟨g3,j*5+3,none⟩ (.int .i64 q.under.r)).setCell ⟨g3,j*5+4,none⟩ (.string q.key)):=(((((hby.setCell hgb.1 _).setCell hgb.1 _).setCell hgb.1 _).setCell hgb.1 _).setCell hgb.1 _)
        have hx1:Ext (·=g3) wy (((((wy.setCell ⟨g3,j*5,none⟩ (.int .i64 q.block.n)).setCell ⟨g3,j*5+1,none⟩ (.int .i64 q.block.r)).setCell ⟨g3,j*5+2,none⟩ (.int .i64 q.under.n)).setCell ⟨g3,j*5+3,none⟩ (.int .i64 q.under.r)).setCell ⟨g3,j*5+4,none⟩ (.string q.key)):=YW (o:=j*5) (Ch.cells q) 0 wy
        have hne:¬ w5.heap.size=g3:=by omega
        replace z0:=hx1.keep z0 hne
        replace z1:=hx1.keep z1 hne
        replace z2:=hx1.keep z2 hne
        replace z3:=hx1.keep z3 hne
        replace z4:=hx1.keep z4 hne
        have HTZ:=Jh (HTY.out.ext hx1 (fun b hb e=>HTA.out b hb (by rw[←e];rfl)))
        have HO1:=Jh (And.intro ho1 hb1)
        clear ho1 hb1 hx1 hoy hby HOY
        have HZ0:=Lib.hid z0
        have HZ1:=Lib.hid z1
        have HZ2:=Lib.hid z2
        have HZ3:=Lib.hid z3
        have HZ4:=Lib.hid z4
        clear z0 z1 z2 z3 z4
        go_upto_region 20 with fail
        generalize (((((wy.setCell ⟨g3,j*5,none⟩ (.int .i64 q.block.n)).setCell ⟨g3,j*5+1,none⟩ (.int .i64 q.block.r)).setCell ⟨g3,j*5+2,none⟩ (.int .i64 q.under.n)).setCell ⟨g3,j*5+3,none⟩ (.int .i64 q.under.r)).setCell ⟨g3,j*5+4,none⟩ (.string q.key))=wz at *
        clear q0 f0 r0 q1 f1 r1 q2 f2 r2 q3 f3 r3 q4 f4 r4
        obtain ⟨ho1,hb1⟩:=HO1.out
        have z0:=HZ0.out
        have z1:=HZ1.out
        have z2:=HZ2.out
        have z3:=HZ3.out
        have z4:=HZ4.out
        have f0:=ho1.freeI ((j - 1)*5)
        have f1:=ho1.freeI ((j - 1)*5+1)
        have f2:=ho1.freeI ((j - 1)*5+2)
        have f3:=ho1.freeI ((j - 1)*5+3)
        have f4:=ho1.freeI ((j - 1)*5+4)
        have hq1:(zs.set j q)[j - 1]?=some q:=by rw[List.getElem?_set,if_neg (by omega)];exact HPQ.out.2
        have e0:=ho1.cellI (j:=0) Ch.len hq1 rfl
        have e1:=ho1.cellI (j:=1) Ch.len hq1 rfl
        have e2:=ho1.cellI (j:=2) Ch.len hq1 rfl
        have e3:=ho1.cellI (j:=3) Ch.len hq1 rfl
        have e4:=ho1.cellI (j:=4) Ch.len hq1 rfl
        simp only[Nat.add_zero] at e0
        have ho2:Own Ch.cells 5 53 w.heap.size (((((wz.setCell ⟨g3,(j - 1)*5,none⟩ (.int .i64 p.block.n)).setCell ⟨g3,(j - 1)*5+1,none⟩ (.int .i64 p.block.r)).setCell ⟨g3,(j - 1)*5+2,none⟩ (.int .i64 p.under.n)).setCell ⟨g3,(j - 1)*5+3,none⟩ (.int .i64 p.under.r)).setCell ⟨g3,(j - 1)*5+4,none⟩ (.string p.key)) (.slice (some ⟨g3,0,none⟩) m c3) (YG zs j p q):=X9 (y:=p) Ch.len (by omega) (by rw[List.length_set];exact hzl) ho1 hq1
        have hb2:Below w.heap.size _ (((((wz.setCell ⟨g3,(j - 1)*5,none⟩ (.int .i64 p.block.n)).setCell ⟨g3,(j - 1)*5+1,none⟩ (.int .i64 p.block.r)).setCell ⟨g3,(j - 1)*5+2,none⟩ (.int .i64 p.under.n)).setCell ⟨g3,(j - 1)*5+3,none⟩ (.int .i64 p.under.r)).setCell ⟨g3,(j - 1)*5+4,none⟩ (.string p.key)):=(((((hb1.setCell hgb.1 _).setCell hgb.1 _).setCell hgb.1 _).setCell hgb.1 _).setCell hgb.1 _)
        clear ho1 hb1 hq1 HO1 HZ0 HZ1 HZ2 HZ3 HZ4
        have HN:Hid (W5 BLt (A++[x.ch]) (YG zs j p q) (j - 1)∧Own Ch.cells 5 53 w.heap.size (((((wz.setCell ⟨g3,(j - 1)*5,none⟩ (.int .i64 p.block.n)).setCell ⟨g3,(j - 1)*5+1,none⟩ (.int .i64 p.block.r)).setCell ⟨g3,(j - 1)*5+2,none⟩ (.int .i64 p.under.n)).setCell ⟨g3,(j - 1)*5+3,none⟩ (.int .i64 p.under.r)).setCell ⟨g3,(j - 1)*5+4,none⟩ (.string p.key)) (.slice (some ⟨g3,0,none⟩) m c3) (YG zs j p q)∧Own btc 1 4 w.heap.size (((((wz.setCell ⟨g3,(j - 1)*5,none⟩ (.int .i64 p.block.n)).setCell ⟨g3,(j - 1)*5+1,none⟩ (.int .i64 p.block.r)).setCell ⟨g3,(j - 1)*5+2,none⟩ (.int .i64 p.under.n)).setCell ⟨g3,(j - 1)*5+3,none⟩ (.int .i64 p.under.r)).setCell ⟨g3,(j - 1)*5+4,none⟩ (.string p.key)) (.slice ua un uc) (Xn (c.take (k+1)))∧Below w.heap.size w (((((wz.setCell ⟨g3,(j - 1)*5,none⟩ (.int .i64 p.block.n)).setCell ⟨g3,(j - 1)*5+1,none⟩ (.int .i64 p.block.r)).setCell ⟨g3,(j - 1)*5+2,none⟩ (.int .i64 p.under.n)).setCell ⟨g3,(j - 1)*5+3,none⟩ (.int .i64 p.under.r)).setCell ⟨g3,(j - 1)*5+4,none⟩ (.string p.key))):=Lib.hid ⟨HSW.out,ho2,HTZ.out.ext (YW (o:=(j - 1)*5) (Ch.cells p) 0 wz) (fun b hb e=>HTA.out b hb (by rw[←e];rfl)),hb2⟩
        clear ho2 hb2 ho hbx hgb hne
        go_wp2_with fail
        go_roundg (j - 1)
        case measure=>rw[HGJ.out];omega
        case rel=>exact ⟨j - 1,_,rfl,by omega,by simp;omega,by rw[VI];exact hzl,Jh (by rw[Xq zs hj0 HPQ.out.1 HPQ.out.2,if_pos rfl,←HPQ.out.1,hzx.out]),HN⟩
       ·have HN1:=hdone _ HB5.out (hV.out.1.stands Vv (fun x' y' _ hx' hy'=>by
         rw[HPQ.out.1] at hx';rw[HPQ.out.2] at hy';cases hx';cases hy'
         have hpx:p=x.ch:=by have:=hzx.out;rw[HPQ.out.1] at this;exact Option.some.inj this
         have hqM:q∈A:=by
          have h1:=hV.out.1.perm.mem_iff.1 (List.mem_of_getElem? HPQ.out.2)
          rcases List.mem_append.1 h1 with h1|h1
          ·exact h1
          ·have hnd:=hV.out.1.perm.nodup_iff.2 HND.out.1
           have hq:=HPQ.out.2
           rw[List.mem_singleton.1 h1,←hpx] at hq
           exact absurd rfl (YX.1 hnd (j - 1) j p p (by omega) hq HPQ.out.1)
         rcases Y5 q.block p.block with t|t|t
         ·exact t
         ·exact absurd (by rw[t,hpx];rfl) (HND.out.2 q hqM)
         ·exact absurd (HVV.out.2 t) hlt))
        clear hV hdone HVV HCM
        go_wp2_with fail
        go_roundg (L.length - (k+1))
        case measure=>rw[HGG.out];omega
        case rel=>exact ⟨k+1,⟨_,_,_⟩,⟨_,_,_⟩,zs,rfl,by omega,rfl,rfl,by simp,HN1⟩
      ·have HN0:=Jh (fun n=>(hdone (wr.drewN n) (below_drewN (Below.refl _ _) n) (hV.out.1.stands Vv (fun x y h0 _ _=>absurd h0 hj0))).out)
       have hj1:¬ (0:Int)<(j:Int):=by omega
       clear hV hdone
       go_upto_region 16 with fail
       go_quiet (fail)
       have HN1:=Jh (HN0.out nq)
       go_wp2_with fail
       go_roundg (L.length - (k+1))
       case measure=>rw[HGG.out];omega
       case rel=>exact ⟨k+1,⟨_,_,_⟩,⟨_,_,_⟩,zs,rfl,by omega,rfl,rfl,by simp,HN1⟩
    ·have hfi:Yw A ⟨x.block.n,x.block.r⟩=(i:Int):=by unfold Yw;rw[f1]
     rw[hfi]
     obtain ⟨hsnn,hcc1,hcc2⟩:=Ub hO9 Ch.len
     have hil:=(List.getElem?_eq_some_iff.1 f2).1
     obtain ⟨g,rfl⟩:∃ g,sa=some ⟨g,0,none⟩:=by
      rcases hO9.eq_slice with ⟨_,e⟩|⟨g,c,e,_⟩
      ·rw[e] at hil;simp at hil
      ·simp only[Value.slice.injEq] at e;exact ⟨g,e.1⟩
     have hgb:=hO9.blk g rfl
     have hi0:(0:Int)≤(i:Int):=by omega
     have hi1':(i:Int)<(sn:Int):=by omega
     have r0:=hO9.cellI (j:=0) Ch.len f2 rfl
     have f5:=hO9.freeI (i*5)
     have r1:=hO9.cellI (j:=1) Ch.len f2 rfl
     have f6:=hO9.freeI (i*5+1)
     have r2:=hO9.cellI (j:=2) Ch.len f2 rfl
     have f7:=hO9.freeI (i*5+2)
     have r3:=hO9.cellI (j:=3) Ch.len f2 rfl
     have f8:=hO9.freeI (i*5+3)
     have r4:=hO9.cellI (j:=4) Ch.len f2 rfl
     have f9:=hO9.freeI (i*5+4)
     simp only[Nat.add_zero] at r0
     have ho1:Own Ch.cells 5 53 w.heap.size (((((w9.setCell ⟨g,i*5,none⟩ (.int .i64 x.block.n)).setCell ⟨g,i*5+1,none⟩ (.int .i64 x.block.r)).setCell ⟨g,i*5+2,none⟩ (.int .i64 x.under.n)).setCell ⟨g,i*5+3,none⟩ (.int .i64 x.under.r)).setCell ⟨g,i*5+4,none⟩ (.string x.key)) (.slice (some ⟨g,0,none⟩) sn sc) (A.set i x.ch):=X9 (y:=x.ch) Ch.len (by omega) hsnn.symm hO9 f2
     have hb1:Below w.heap.size w (((((w9.setCell ⟨g,i*5,none⟩ (.int .i64 x.block.n)).setCell ⟨g,i*5+1,none⟩ (.int .i64 x.block.r)).setCell ⟨g,i*5+2,none⟩ (.int .i64 x.under.n)).setCell ⟨g,i*5+3,none⟩ (.int .i64 x.under.r)).setCell ⟨g,i*5+4,none⟩ (.string x.key)):=Uq (o:=i*5) hgb.1 (Ch.cells x.ch) 0 w9 hB9
     have hx1:Ext (·=g) w9 (((((w9.setCell ⟨g,i*5,none⟩ (.int .i64 x.block.n)).setCell ⟨g,i*5+1,none⟩ (.int .i64 x.block.r)).setCell ⟨g,i*5+2,none⟩ (.int .i64 x.under.n)).setCell ⟨g,i*5+3,none⟩ (.int .i64 x.under.r)).setCell ⟨g,i*5+4,none⟩ (.string x.key)):=YW (o:=i*5) (Ch.cells x.ch) 0 w9
     have ht1:=hT9.ext hx1 (fun b hb e=>VF hT9 hO9 (by decide) b hb (by rw[←e];rfl))
     have HN:Hid (WE w c (((((w9.setCell ⟨g,i*5,none⟩ (.int .i64 x.block.n)).setCell ⟨g,i*5+1,none⟩ (.int .i64 x.block.r)).setCell ⟨g,i*5+2,none⟩ (.int .i64 x.under.n)).setCell ⟨g,i*5+3,none⟩ (.int .i64 x.under.r)).setCell ⟨g,i*5+4,none⟩ (.string x.key)) (k+1) (.slice (some ⟨g,0,none⟩) sn sc) (.slice ua un uc) (A.set i x.ch)):=Lib.hid ⟨by rw[HST.out];exact HU6.out.all.setAt (YT _) f2 f4,ho1,ht1,hb1⟩
     clear ho1 hb1 hx1 ht1 hO9 hT9 hB9 f1 f2 f3 f4 hfi HFD H8 hil hsnn
     go_wp2_with fail
     go_roundg (L.length - (k+1))
     case measure=>rw[HGG.out];omega
     case rel=>exact ⟨k+1,⟨_,_,_⟩,⟨_,_,_⟩,_,rfl,by omega,rfl,rfl,by simp,HN⟩
   ·have hst:=SL HCX.out
    rw[show (UT x).2=x.ch from rfl,Ux HTK.out] at hst
    have HST:=Lib.hid hst
    clear hst
    go_wp2_with (at_builtin;refine Zo rfl _ _ _ rfl i1 _ 1 Tryz.underlying123 hi1 hy0 hy1 hy2 rfl (by omega) TZ QD rfl (HU6.out.took.alloc _) false w6.heap.size 1 rfl (Qx _ false) (by unfold maxLen;have:=HTL.out;omega) (by have:=HTL.out;omega) (by simp;omega) ?_)
    intro v' w7 hown7 hx7
    obtain ⟨⟨ua,un,uc⟩,e7⟩:∃ s:SlK,v'=.slice s.a s.n s.cap:=by
     rcases hown7.eq_slice with ⟨e,_⟩|⟨g,c,e,_⟩
     ·exact ⟨⟨_,_,_⟩,e⟩
     ·exact ⟨⟨_,_,_⟩,e⟩
    dsimp only at e7
    subst e7
    have hU6a:=HU6.out.below ((Below.refl _ _).alloc (Nat.le_refl _) (.cells #[.bool false] 4))
    have h7:=hU6a.noted HCX.out HTK.out hown7 hx7
    have HN:Hid (WE w c w7 (k+1) (.slice sa sn sc) (.slice ua un uc) A):=Lib.hid ⟨by rw[HST.out];exact HU6.out.all,h7.1,h7.2.1,h7.2.2⟩
    clear h7 hU6a hown7 hx7
    go_wp2_with fail
    go_roundg (L.length - (k+1))
    case measure=>rw[HGG.out];omega
    case rel=>exact ⟨k+1,⟨_,_,_⟩,⟨_,_,_⟩,_,rfl,by omega,rfl,rfl,by simp,HN⟩
  ·obtain rfl:k=L.length:=by omega
   have hkk:¬ (L.length:Int)<(L.length:Int):=by omega
   have e1:c.take L.length=c:=List.take_of_length_le (by have:=HCL.out;omega)
   have hA:=hU.out.all
   have hK:=hU.out.took
   rw[e1] at hA hK
   have HN:=Jh (And.intro hA (And.intro hK (And.intro hU.out.own hU.out.frame)))
   clear hU hA hK e1 hkl hk
   go_wp2_with fail
   exact bodyPost_ret (v:=.tuple #[.slice sa sn sc,.slice ta tn tc]) (by simp[results,Tryz.results57,go_sem]) rfl ⟨_,_,A,rfl,HN.out.2.2.1,HN.out.1,HN.out.2.1,HN.out.2.2.2⟩
end Go.Proofs.YtlgipkemoldckaaGreatDoor
namespace Go.Proofs.YtlgipkemoldckaaGreatDoor
open Go
section
variable {P:Program} {ops:Array Oper} {Q:Exit→Act→World→Prop} {md:Region.Mode} {S:World→Prop} {Z:Nat→Bool}
def Zt (P:Program) (md:Region.Mode) (ops:Array Oper) (Q:Exit→Act→World→Prop) (S:World→Prop) (Z:Nat→Bool):Nat→Array Bool→Act→World→Prop
 | 0,listed,a,w=>Region.ready md ops listed=[]∧Q .normal a w
 | fuel+1,listed,a,w =>
  (Region.ready md ops listed=[]→Q .normal a w) ∧
  ∀ i∈Region.ready md ops listed,wpOp P ops Q i (fun a' w'=>(Z i=false→S w')∧Zt P md ops Q S Z fuel (listed.setIfInBounds i true) a' w') a w
theorem TQ:∀ (fuel:Nat) (listed:Array Bool) (a:Act) (w:World),Zt P md ops Q S Z fuel listed a w→wpAny P md ops Q fuel listed a w
 | 0,_,_,_,h=>h
 | fuel+1,_,_,_,h=>⟨h.1,fun i hi=>wpOp_mono (fun a' w' h'=>TQ fuel _ a' w' h'.2) (h.2 i hi)⟩
def Z00 (listed:Array Bool) (js:List Nat):Array Bool:=js.foldl (fun l j=>l.setIfInBounds j true) listed
theorem U0 {k:Nat}:∀ (js:List Nat) (listed:Array Bool),(Z00 listed js).getD k true=false→listed.getD k true=false
 | [],_,h=>h
 | j :: js,listed,h=>by
  have h1:=U0 js (listed.setIfInBounds j true) h
  by_cases hjk:j=k
  ·subst hjk
   by_cases hs:j<listed.size
   ·simp[hs] at h1
   ·simp[hs] at h1
  ·rwa [getD_set_ne true hjk] at h1
theorem T1 {k:Nat}:∀ (js:List Nat) (listed:Array Bool),k∉js→listed.getD k true=false→(Z00 listed js).getD k true=false
 | [],_,_,h=>h
 | j :: js,listed,hn,h=>T1 js _ (fun e=>hn (by simp[e])) (by rw[getD_set_ne true (fun e=>hn (by simp[e]))];exact h)
theorem Sr {listed:Array Bool} {k:Nat} (h:listed.getD k true=false):listed.getD k false=false:=by
 by_cases hs:k<listed.size
 ·simp[hs] at h ⊢;exact h
 ·simp[hs] at h
def XS (md:Region.Mode) (ops:Array Oper) (i:Nat) (oi:Oper) (listed:Array Bool):Prop :=
 i∈Region.ready md ops listed∧∀ js,i∉js→∀ j oj,j∈Region.ready md ops (Z00 listed js)→j≠i→ops[j]?=some oj→(∀ e∈oj.after,Region.binds md e=true→e.on≠i)∧oi.apart ops oj=true
theorem XS.step {i j:Nat} {oi:Oper} {listed:Array Bool} (h:XS md ops i oi listed) (hj:j≠i):XS md ops i oi (listed.setIfInBounds j true) :=
 ⟨ready_mono h.1 (Ne.symm hj),fun js hn=>h.2 (j :: js) (by simp[hn,Ne.symm hj])⟩
theorem XS.of_free {i:Nat} {oi:Oper} {listed:Array Bool} (hi:ops[i]?=some oi) (hr:i∈Region.ready md ops listed) (hf:Region.free md ops listed i=true):XS md ops i oi listed:=by
 refine ⟨hr,fun js hn j oj hj hji hoj=>?_⟩
 obtain ⟨hun,o,ho,hall⟩:=mem_ready.1 hj
 rw[hoj] at ho
 cases ho
 have hno:∀ e∈oj.after,Region.binds md e=true→e.on≠i:=fun e he hb hei=>by
  have h1:=hall e he hb
  rw[hei,Sr (T1 js listed hn (mem_ready.1 hr).1)] at h1
  cases h1
 exact ⟨hno,Region.free_spec hi hf j oj hoj hji (U0 js listed hun) hno⟩
theorem UM {fuel:Nat} {listed:Array Bool} {a:Act} {w:World} (h:Zt P md ops Q S Z fuel listed a w) {j:Nat} (hj:j∈Region.ready md ops listed) :
  ∃ n,fuel=n+1∧wpOp P ops Q j (fun a' w'=>(Z j=false→S w')∧Zt P md ops Q S Z n (listed.setIfInBounds j true) a' w') a w:=by
 cases fuel with
 | zero=>exact absurd (h.1 ▸ hj:j∈[]) (by simp)
 | succ n=>exact ⟨n,rfl,h.2 j hj⟩
def Rz (md:Region.Mode) (ops:Array Oper) (Z:Nat→Bool) (listed:Array Bool) (i:Nat):Bool :=
 (List.range ops.size).all fun j=>listed.getD j true || !Z j || (match ops[j]? with
  | some o=>o.after.any fun e=>Region.binds md e && e.on == i
  | none=>true)
theorem Qe {i j:Nat} {oj:Oper} {listed:Array Bool} (h:Rz md ops Z listed i=true) (hz:Z j=true) (hu:listed.getD j true=false) (hj:ops[j]?=some oj):∃ e∈oj.after,Region.binds md e=true∧e.on=i:=by
 have hjs:j<ops.size:=(Array.getElem?_eq_some_iff.1 hj).1
 have:=List.all_eq_true.1 h j (List.mem_range.2 hjs)
 rw[hz,hj,hu] at this
 simp only[Bool.not_true,Bool.false_or,Array.any_eq_true,Bool.and_eq_true,beq_iff_eq] at this
 obtain ⟨k,hk,h1,h2⟩:=this
 exact ⟨_,Array.getElem_mem hk,h1,h2⟩
theorem Rm {i:Nat} {oi:Oper} {v:Value} (hi:ops[i]?=some oi)
  (hsel:∀ (j:Nat) (o:Oper) cs b,ops[j]?=some o→o.op≠.select cs b) (hQ:∀ c a w,Q (.panic c) (a.put oi.dst v) w→Q (.panic c) a w) (hiz:Z i=false) (fuel:Nat) :
  ∀ (listed:Array Bool) (a:Act) (w:World),(∀ j oj,Z j=true→listed.getD j true=false→ops[j]?=some oj→∃ e∈oj.after,Region.binds md e=true∧e.on=i)→XS md ops i oi listed→YieldsIf P ops S oi v a→S w →
   Zt P md ops Q S Z fuel (listed.setIfInBounds i true) (a.put oi.dst v) w→Zt P md ops Q S Z (fuel+1) listed a w:=by
 induction fuel using Nat.strongRecOn with
 | _ fuel ih =>
  intro listed a w hwait hA hy hS H
  refine ⟨fun h0=>absurd (h0 ▸ hA.1:i∈[]) (by simp),fun j hj=>?_⟩
  rcases Decidable.em (j=i) with hji|hji
  ·rw[hji]
   exact hy.wpOp hi hS ⟨fun _=>hS,H⟩
  ·obtain ⟨n,rfl,hop⟩:=UM H (ready_mono hj hji)
   obtain ⟨oj,hoj⟩:∃ oj,ops[j]?=some oj:=by
    obtain ⟨_,oj,hoj,_⟩:=mem_ready.1 hj
    exact ⟨oj,hoj⟩
   obtain ⟨hno,hap⟩:=hA.2 [] (by simp) j oj hj hji hoj
   have hjz:Z j=false:=by
    cases hz:Z j with
    | false=>rfl
    | true =>
     obtain ⟨e,he,hb,hei⟩:=hwait j oj hz (mem_ready.1 hj).1 hoj
     exact absurd hei (hno e he hb)
   refine wpOp_mono ?_ (wpOp_putIf hoj hap (fun cs b=>hsel i oi cs b hi) (fun cs b=>hsel j oj cs b hoj) hQ hy hop)
   rintro a' w' ⟨hy',hS',H'⟩
   rw[Array.setIfInBounds_comm _ _ (Ne.symm hji)] at H'
   exact ⟨hS',ih n (Nat.lt_succ_self n) _ a' w' (fun q oq hq hu=>hwait q oq hq (U0 [j] listed hu)) (hA.step hji) hy' (hS' hjz) H'⟩
theorem SR {i:Nat} {oi:Oper} {v:Value} (hi:ops[i]?=some oi)
  (hsel:∀ (j:Nat) (o:Oper) cs b,ops[j]?=some o→o.op≠.select cs b) (hQ:∀ c a w,Q (.panic c) (a.put oi.dst v) w→Q (.panic c) a w) (hiz:Z i=true) (fuel:Nat) :
  ∀ (listed:Array Bool) (a:Act) (w:World),XS md ops i oi listed→YieldsIf P ops (fun _=>True) oi v a →
   Zt P md ops Q S Z fuel (listed.setIfInBounds i true) (a.put oi.dst v) w→Zt P md ops Q S Z (fuel+1) listed a w:=by
 induction fuel using Nat.strongRecOn with
 | _ fuel ih =>
  intro listed a w hA hy H
  refine ⟨fun h0=>absurd (h0 ▸ hA.1:i∈[]) (by simp),fun j hj=>?_⟩
  rcases Decidable.em (j=i) with hji|hji
  ·rw[hji]
   exact hy.wpOp hi trivial ⟨fun h=>(by rw[hiz] at h;cases h),H⟩
  ·obtain ⟨n,rfl,hop⟩:=UM H (ready_mono hj hji)
   obtain ⟨oj,hoj⟩:∃ oj,ops[j]?=some oj:=by
    obtain ⟨_,oj,hoj,_⟩:=mem_ready.1 hj
    exact ⟨oj,hoj⟩
   obtain ⟨hno,hap⟩:=hA.2 [] (by simp) j oj hj hji hoj
   refine wpOp_mono ?_ (wpOp_putIf hoj hap (fun cs b=>hsel i oi cs b hi) (fun cs b=>hsel j oj cs b hoj) hQ hy hop)
   rintro a' w' ⟨hy',hS',H'⟩
   rw[Array.setIfInBounds_comm _ _ (Ne.symm hji)] at H'
   exact ⟨hS',ih n (Nat.lt_succ_self n) _ a' w' (hA.step hji) hy' H'⟩
theorem Xf {i:Nat} {oi:Oper} {d:Option Tmp} {v:Value} {fuel:Nat} {listed:Array Bool} {a:Act} {w:World} (hi:ops[i]?=some oi) (hd:oi.dst=d) (hiz:Z i=false) (hwait:Rz md ops Z listed i=true)
  (hs:Region.noSelect ops=true) (hf:Region.free md ops listed i=true) (hr:(Region.ready md ops listed).contains i=true)
  (hQ:∀ c a w,Q (.panic c) (a.put d v) w→Q (.panic c) a w) (hy:YieldsIf P ops S oi v a) (hS:S w)
  (h:Zt P md ops Q S Z fuel (listed.setIfInBounds i true) (a.put d v) w):Zt P md ops Q S Z (fuel+1) listed a w:=by
 subst hd
 exact Rm hi (Region.noSelect_spec hs) hQ hiz fuel listed a w (fun j oj hz hu hj=>Qe hwait hz hu hj) (XS.of_free hi (by simpa using hr) hf) hy hS h
theorem Ja:(∀ (T:Array Value) (D:List Deferred) (d:Tmp) (v:Value),Act.put ⟨T,D⟩ (some d) v=⟨T.setIfInBounds d v,D⟩)∧(∀ (a:Act) (v:Value),a.put none v=a)∧(∀ (l:List Value) (i:Nat) (a:Value),l.toArray.setIfInBounds i a=(l.set i a).toArray)∧(∀ (x:Value) (l:List Value) (y:Value),(x :: l).set 0 y=y :: l)∧(∀ (x:Value) (l:List Value) (i:Nat) (y:Value),(x :: l).set (i+1) y=x :: l.set i y) :=
 ⟨fun _ _ _ _=>rfl,fun _ _=>rfl,fun _ _ _=>List.setIfInBounds_toArray ..,fun _ _ _=>rfl,fun _ _ _ _=>rfl⟩
def Jd (md:Region.Mode) (ops:Array Oper) (Z:Nat→Bool) (listed:Array Bool) (i:Nat):Bool:=!Z i && (Rz md ops Z listed i && (Region.noSelect ops && (Region.free md ops listed i && (Region.ready md ops listed).contains i)))
theorem JR (i t:Nat) (v:Value) {oi:Oper} {fuel:Nat} {listed:Array Bool} {a:Act} {w:World} (hi:ops[i]?=some oi) (hd:oi.dst=some t) (hS:S w) (hy:∀ W,S W→(execOp a.eval oi).run P W=.ok (.value v) W)
  (h:Zt P md ops Q S Z fuel (listed.setIfInBounds i true) (a.put (some t) v) w) (hk:Jd md ops Z listed i=true:=by kernel_rfl) (hQ:∀ c a w,Q (.panic c) (a.put (some t) v) w→Q (.panic c) a w:=by exact fun _ _ _ h=>h) (hw:Region.wanted oi (yielded ops a.tmps)=true:=by rfl):Zt P md ops Q S Z (fuel+1) listed a w:=by
 simp only[Jd,Bool.and_eq_true,Bool.not_eq_true'] at hk
 exact Xf hi hd hk.1 hk.2.1 hk.2.2.1 hk.2.2.2.1 hk.2.2.2.2 hQ (.inl ⟨hw,hy⟩) hS h
theorem J0 (i t:Nat) (v:Value) {oi:Oper} {fuel:Nat} {listed:Array Bool} {a:Act} {w:World} (hS:S w) (h:Zt P md ops Q S Z fuel (listed.setIfInBounds i true) (a.put (some t) v) w) (hi:ops[i]?=some oi:=by rfl) (hd:oi.dst=some t:=by rfl) (hy:∀ W,S W→(execOp a.eval oi).run P W=.ok (.value v) W:=by intro W hW;go_simp;try rfl)
  (hk:Jd md ops Z listed i=true:=by kernel_rfl) (hQ:∀ c a w,Q (.panic c) (a.put (some t) v) w→Q (.panic c) a w:=by exact fun _ _ _ h=>h) (hw:Region.wanted oi (yielded ops a.tmps)=true:=by rfl):Zt P md ops Q S Z (fuel+1) listed a w:=JR i t v hi hd hS hy h hk hQ hw
theorem J2 (i t:Nat) (v:Value) {oi:Oper} {fuel:Nat} {listed:Array Bool} {a:Act} {w:World} (hS:S w) (h:Zt P md ops Q S Z fuel (listed.setIfInBounds i true) (a.put (some t) v) w) (hi:ops[i]?=some oi:=by rfl) (hd:oi.dst=some t:=by rfl) (hy:∀ W,S W→(execOp a.eval oi).run P W=.ok (.value v) W:=by intro W hW;obtain ⟨q0,q1⟩:=hW;go_simp;try rfl)
  (hk:Jd md ops Z listed i=true:=by kernel_rfl) (hQ:∀ c a w,Q (.panic c) (a.put (some t) v) w→Q (.panic c) a w:=by exact fun _ _ _ h=>h) (hw:Region.wanted oi (yielded ops a.tmps)=true:=by rfl):Zt P md ops Q S Z (fuel+1) listed a w:=JR i t v hi hd hS hy h hk hQ hw
theorem J3 (i t:Nat) (v:Value) {oi:Oper} {fuel:Nat} {listed:Array Bool} {a:Act} {w:World} (hS:S w) (h:Zt P md ops Q S Z fuel (listed.setIfInBounds i true) (a.put (some t) v) w) (hi:ops[i]?=some oi:=by rfl) (hd:oi.dst=some t:=by rfl) (hy:∀ W,S W→(execOp a.eval oi).run P W=.ok (.value v) W:=by intro W hW;obtain ⟨q0,q1,q2⟩:=hW;go_simp;try rfl)
  (hk:Jd md ops Z listed i=true:=by kernel_rfl) (hQ:∀ c a w,Q (.panic c) (a.put (some t) v) w→Q (.panic c) a w:=by exact fun _ _ _ h=>h) (hw:Region.wanted oi (yielded ops a.tmps)=true:=by rfl):Zt P md ops Q S Z (fuel+1) listed a w:=JR i t v hi hd hS hy h hk hQ hw
theorem J4 (i t:Nat) (v:Value) {oi:Oper} {fuel:Nat} {listed:Array Bool} {a:Act} {w:World} (hS:S w) (h:Zt P md ops Q S Z fuel (listed.setIfInBounds i true) (a.put (some t) v) w) (hi:ops[i]?=some oi:=by rfl) (hd:oi.dst=some t:=by rfl) (hy:∀ W,S W→(execOp a.eval oi).run P W=.ok (.value v) W:=by intro W hW;obtain ⟨q0,q1,q2,q3⟩:=hW;go_simp;try rfl)
  (hk:Jd md ops Z listed i=true:=by kernel_rfl) (hQ:∀ c a w,Q (.panic c) (a.put (some t) v) w→Q (.panic c) a w:=by exact fun _ _ _ h=>h) (hw:Region.wanted oi (yielded ops a.tmps)=true:=by rfl):Zt P md ops Q S Z (fuel+1) listed a w:=JR i t v hi hd hS hy h hk hQ hw
theorem JO (i t:Nat) {oi:Oper} {fuel:Nat} {listed:Array Bool} {a:Act} {w:World} (hi:ops[i]?=some oi) (hd:oi.dst=some t) (hS:S w)
  (h:Zt P md ops Q S Z fuel (listed.setIfInBounds i true) (a.put (some t) undef) w) (hk:Jd md ops Z listed i=true:=by kernel_rfl) (hQ:∀ c a w,Q (.panic c) (a.put (some t) undef) w→Q (.panic c) a w:=by exact fun _ _ _ h=>h) (hw:Region.wanted oi (yielded ops a.tmps)=false:=by rfl):Zt P md ops Q S Z (fuel+1) listed a w:=by
 simp only[Jd,Bool.and_eq_true,Bool.not_eq_true'] at hk
 exact Xf hi hd hk.1 hk.2.1 hk.2.2.1 hk.2.2.2.1 hk.2.2.2.2 hQ (.inr ⟨hw,rfl⟩) hS h
theorem Z3 {i:Nat} {oi:Oper} {d:Option Tmp} {v:Value} {fuel:Nat} {listed:Array Bool} {a:Act} {w:World} (hi:ops[i]?=some oi) (hd:oi.dst=d) (hiz:Z i=true)
  (hs:Region.noSelect ops=true) (hf:Region.free md ops listed i=true) (hr:(Region.ready md ops listed).contains i=true)
  (hQ:∀ c a w,Q (.panic c) (a.put d v) w→Q (.panic c) a w) (hy:YieldsIf P ops (fun _=>True) oi v a)
  (h:Zt P md ops Q S Z fuel (listed.setIfInBounds i true) (a.put d v) w):Zt P md ops Q S Z (fuel+1) listed a w:=by
 subst hd
 exact SR hi (Region.noSelect_spec hs) hQ hiz fuel listed a w (XS.of_free hi (by simpa using hr) hf) hy h
theorem Ud {i:Nat} {fuel:Nat} {listed:Array Bool} {a:Act} {w:World} (hr:Region.ready md ops listed=[i])
  (h:wpOp P ops Q i (fun a' w'=>(Z i=false→S w')∧Zt P md ops Q S Z fuel (listed.setIfInBounds i true) a' w') a w):Zt P md ops Q S Z (fuel+1) listed a w :=
 ⟨fun h0=>absurd (hr.symm.trans h0) (by simp),fun j hj=>by rw[hr] at hj;rw[List.mem_singleton.1 hj];exact h⟩
theorem Zg {i:Nat} {o:Oper} {d:Option Tmp} {fuel:Nat} {listed:Array Bool} {a:Act} {w w':World} (hr:Region.ready md ops listed=[i]) (ho:ops[i]?=some o) (hd:o.dst=d) (hw:Region.wanted o (yielded ops a.tmps)=true)
  (hv:(execOp a.eval o).run P w=.ok .skip w') (hS:Z i=false→S w') (h:Zt P md ops Q S Z fuel (listed.setIfInBounds i true) (a.put d undef) w'):Zt P md ops Q S Z (fuel+1) listed a w:=by
 subst hd
 exact Ud hr (wpOp_step ho fun K' hK=>by
  rw[if_pos hw,Oper.wp,hv]
  exact hK _ _ ⟨hS,h⟩)
theorem Zd {listed:Array Bool} {a:Act} {w:World} (hr:Region.ready md ops listed=[]) (h:Q .normal a w):∀ fuel,Zt P md ops Q S Z fuel listed a w
 | 0=>⟨hr,h⟩
 | _+1=>⟨fun _=>h,by rw[hr];simp⟩
theorem Zf {id:Nat} {a:Act} {w:World} (S:World→Prop) (Z:Nat→Bool) (hm:P.follows .mixedOrders=true)
  (h:Zt P .any ops Q S Z ops.size (Array.replicate ops.size false) a w.drew):(Code.region id ops true).wp P Q a w :=
 wp_region_any hm (TQ _ _ _ _ h)
end
end Go.Proofs.YtlgipkemoldckaaGreatDoor
namespace Go.Proofs.YtlgipkemoldckaaGreatDoor
open Go.RowKit
section
variable {P:Program} {w:World} {α:Type} {ea:α→List Value} {k:Nat} {e:TypeId} {base:Nat} {v:Value} {l:List α}
theorem TS (t ty:TypeId) (i:TypeInfo) (z:Value) (size bytes:Nat) (ht:P.underlying t=some (.slice e)) (hi:P.info? e=some i) (hz:i.zero=some z)
  (hsize:i.size=size) (hby:i.bytes=bytes) (v:Value) (n:Nat) (xs:List Value) (hown:w.ownsRow base e size v n xs)
  (a:Addr) (m c:Nat) (news:List Value) (hl:news.length=m*size) (hnews:∀ j u,news[j]?=some u→w.cell? (a.add j)=some u) (h1:∀ u∈news,u.oneCell'=true)
  (h63:n+m≤maxLen) (hbytes:(n+m)*bytes≤140737488355328) (hm:0<m) {v':Value} {w':World}
  (hr:(Builtin.append_ #[t,t] ty #[v,.slice (some a) m c]).run P w=.ok v' w'):∀ b,v'.ownBlock=some b→v.ownBlock=some b∨w.heap.size≤b:=by
 subst hsize
 subst hby
 have hsmall:n+m≤9223372036854775807:=by simp only[maxLen] at h63;omega
 rcases hown.2 with ⟨rfl,rfl⟩|⟨g,cap,cur,rfl,hbg,hg,hnc,hcm,hcs,htake⟩
 ·have hr2:=run_append_nil (P:=P) w t ty e i z ht hi hz a m c news hl hnews hm (by omega) (by have hb:=hbytes;simp only[Nat.zero_add] at hb;omega)
  rw[hr] at hr2
  cases hr2
  intro b hb
  simp[Value.ownBlock] at hb
  exact .inr (by omega)
 ·by_cases hroom:n+m≤cap
  ·have hfit:n*i.size+news.length≤cur.size:=by rw[hl,hcs,←Nat.add_mul];exact Nat.mul_le_mul_right _ hroom
   have hr2:=run_append_room (P:=P) w t ty e i ht hi g n cap cur hg a m c news hl hnews h1 hroom hfit
   rw[hr] at hr2
   cases hr2
   intro b hb
   simp[Value.ownBlock] at hb ⊢
   exact .inl hb
  ·have holds:∀ j u,xs[j]?=some u→w.cell? ((⟨g,0,none⟩:Addr).add j)=some u:=hown.cells (g:=g) rfl
   have hr2:=run_append_grow (P:=P) w t ty e i z ht hi hz ⟨g,0,none⟩ n cap xs hown.1 holds a m c news hl hnews (by omega) (by omega) (growslice_fits (by omega) hbytes)
   rw[hr] at hr2
   cases hr2
   intro b hb
   simp[Value.ownBlock] at hb
   exact .inr (by omega)
theorem Yt (t ty:TypeId) (i:TypeInfo) (z:Value) (bytes:Nat) (ht:P.underlying t=some (.slice e)) (hi:P.info? e=some i) (hz:i.zero=some z)
  (hsize:i.size=k) (hby:i.bytes=bytes) (hzs:z.cells.size=k) (hk0:0<k) (hk:∀ x,(ea x).length=k) (h1:∀ x,∀ u∈ea x,u.oneCell'=true)
  (hown:Own ea k e base w v l) (y:α) (nb c:Nat) (hnews:∀ j u,(ea y)[j]?=some u→w.cell? ⟨nb,j,none⟩=some u)
  (h63:l.length+1≤maxLen) (hbytes:(l.length+1)*bytes≤140737488355328) (hbase:base≤w.heap.size) :
  ∃ v' w',(Builtin.append_ #[t,t] ty #[v,.slice (some ⟨nb,0,none⟩) 1 c]).run P w=.ok v' w'∧Own ea k e base w' v' (l++[y])∧Ext (fun b=>v.ownBlock=some b) w w' ∧
   ∀ b,v'.ownBlock=some b→v.ownBlock=some b∨w.heap.size≤b:=by
 have hn:∀ j u,(ea y)[j]?=some u→w.cell? (Addr.add ⟨nb,0,none⟩ j)=some u:=fun j u hj=>by
  rw[show (Addr.add ⟨nb,0,none⟩ j)=⟨nb,j,none⟩ from by unfold Addr.add;split <;> simp_all]
  exact hnews j u hj
 obtain ⟨v',w',hr,h2,h3,_⟩:=run_append_own (P:=P) w base t ty e i z k bytes ht hi hz hsize hby hzs hk0 v l.length (l.flatMap ea) hown ⟨nb,0,none⟩ 1 c (ea y) (by rw[hk,Nat.one_mul]) hn (h1 y) h63 hbytes hbase
 refine ⟨v',w',hr,?_,Ext.of_grown h3,TS t ty i z k bytes ht hi hz hsize hby v l.length (l.flatMap ea) hown ⟨nb,0,none⟩ 1 c (ea y) (by rw[hk,Nat.one_mul]) hn (h1 y) h63 hbytes (by omega) hr⟩
 unfold Own
 rw[List.length_append,List.flatMap_append]
 simpa using h2
theorem Zq {ops:Array Oper} {rest:List Oper} {o:Oper} {a:Act} {Q:Exit→Act→World→Prop} (hgd:o.guard=none) (s x:Operand) (t:TypeId)
  (ho:o.op=.call { callee:=.builtin .append,args:=#[s,x],argTypes:=#[t,t] })
  (i:TypeInfo) (z:Value) (bytes:Nat) (ht:P.underlying t=some (.slice e)) (hi:P.info? e=some i) (hz:i.zero=some z)
  (hsize:i.size=k) (hby:i.bytes=bytes) (hzs:z.cells.size=k) (hk0:0<k) (hk:∀ x,(ea x).length=k) (h1:∀ x,∀ u∈ea x,u.oneCell'=true)
  (hs:a.eval s=v) (hown:Own ea k e base w v l) (y:α) (nb c:Nat) (hx:a.eval x=.slice (some ⟨nb,0,none⟩) 1 c) (hnews:∀ j u,(ea y)[j]?=some u→w.cell? ⟨nb,j,none⟩=some u)
  (h63:l.length+1≤maxLen) (hbytes:(l.length+1)*bytes≤140737488355328) (hbase:base≤w.heap.size)
  (h:∀ v' w',Own ea k e base w' v' (l++[y])→Ext (fun b=>v.ownBlock=some b) w w'→(∀ b,v'.ownBlock=some b→v.ownBlock=some b∨w.heap.size≤b)→wpList P ops Q rest (a.put o.dst v') w'):wpList P ops Q (o :: rest) a w:=by
 obtain ⟨v',w',hr,h2,h3,h4⟩:=Yt (P:=P) t o.type i z bytes ht hi hz hsize hby hzs hk0 hk h1 hown y nb c hnews h63 hbytes hbase
 refine wpList_plain hgd fun _ hK=>?_
 unfold Oper.wp execOp
 simp only[ho,resolve,invoke,builtin,Sem.run_bind,Sem.run_pure,Result.andThen_ok,List.map_toArray,List.map_cons,List.map_nil,hs,hx,hr]
 exact hK _ _ (h v' w' h2 h3 h4)
end
end Go.Proofs.YtlgipkemoldckaaGreatDoor
namespace Go.Proofs.YtlgipkemoldckaaGreatDoor
open Go Go.RowKit Go.Deep
section
variable {P:Program} {ops:Array Oper} {Q:Exit→Act→World→Prop} {md:Region.Mode} {S:World→Prop} {Z:Nat→Bool}
theorem Zk {i:Nat} {o:Oper} {d:Option Tmp} {v:Value} {fuel:Nat} {listed:Array Bool} {a:Act} {w w':World} (hr:Region.ready md ops listed=[i]) (ho:ops[i]?=some o) (hd:o.dst=d) (hw:Region.wanted o (yielded ops a.tmps)=true)
  (hv:(execOp a.eval o).run P w=.ok (.value v) w') (hS:Z i=false→S w') (h:Zt P md ops Q S Z fuel (listed.setIfInBounds i true) (a.put d v) w'):Zt P md ops Q S Z (fuel+1) listed a w:=by
 subst hd
 exact Ud hr (wpOp_step ho fun K' hK=>by
  rw[if_pos hw,Oper.wp,hv]
  exact hK _ _ ⟨hS,h⟩)
theorem Ym {o:Oper} {a:Act} {w w':World} {s x:Operand} {t tn:TypeId} {v vx v':Value} (hop:o.op=.call { callee:=.builtin .append,args:=#[s,x],argTypes:=#[t,tn] }) (hs:a.eval s=v) (hx:a.eval x=vx)
  (hr:(Builtin.append_ #[t,tn] o.type #[v,vx]).run P w=.ok v' w'):(execOp a.eval o).run P w=.ok (.value v') w':=by
 unfold execOp
 simp only[hop,resolve,invoke,builtin,Sem.run_bind,Sem.run_pure,Result.andThen_ok,List.map_toArray,List.map_cons,List.map_nil,hs,hx,hr]
end
end Go.Proofs.YtlgipkemoldckaaGreatDoor
namespace Go.Proofs.YtlgipkemoldckaaGreatDoor
open Go.RowKit
def XH (v:Value) (rb k:Nat):Prop:=k=rb∨v.ownBlock=some k
def V4 (B:Nat) (w:World) (rb:Nat) (v:Value) (c:List (St × Ch)) (a b u:St) (key:ByteArray) (e:Ending) (w':World):Prop :=
 ∃ v' L',e=.returned (.int .i64 (Yo c a b u))∧YF B w' rb v' L'∧YP L' (WJ c a ⟨b,u,key⟩)∧Ext (XH v rb) w w'
theorem Z2V (W:World) (x:RMv):∀ j u,(RMv.cells x)[j]?=some u→(W.alloc (.cells #[.int .i64 x.at_.n,.int .i64 x.at_.r,.int .i64 x.block.n,.int .i64 x.block.r,.int .i64 x.under.n,.int .i64 x.under.r,.string x.key] 88)).cell? ⟨W.heap.size,j,none⟩=some u:=by
 intro j u hj
 rw[World.cell?_alloc_at _ _ _ _ rfl,←hj,RMv.cells]
 simp
theorem Z3e {x:RMv} {an ar:Int} (h:x.at_≠⟨an,ar⟩) (e:x.at_.n=an):¬ x.at_.r=ar:=fun e2=>h (by
 obtain ⟨⟨n,r⟩,b,u,k⟩:=x
 simp only at e e2
 rw[e,e2])
theorem Z0C {l:List RMv} {b:St} {k:Nat} {x:RMv} (h:∀ j y,j<k→l[j]?=some y→y.at_≠b) (hx:l[k]?=some x) (hb:x.at_≠b):∀ j y,j<k+1→l[j]?=some y→y.at_≠b:=fun j y hj hy=>by
 by_cases e:j=k
 ·subst e;rw[hx] at hy;cases hy;exact hb
 ·exact h j y (by omega) hy
theorem Z0L {L:List RMv} {c:List (St × Ch)} (hc:YP L c) {a b u:St} (hg:XW a b u=true) {x:RMv} (hx:x∈L) (hb:x.at_=a):Yo c a b u=141:=by
 unfold Yo
 rw[if_pos hg,if_pos ⟨UT x,by rw[←hc.1];exact List.mem_map_of_mem hx,hb⟩]
theorem Z2Y {L:List RMv} {c:List (St × Ch)} (hc:YP L c) {a b u:St} (hg:XW a b u=true) (hn:∀ j y,j<L.length→L[j]?=some y→y.at_≠a):Yo c a b u=0∧∀ y∈c,y.1≠a:=by
 have hn2:∀ y∈c,y.1≠a:=fun y hy e=>by
  rw[←hc.1] at hy
  obtain ⟨x,hx,rfl⟩:=List.mem_map.1 hy
  obtain ⟨i,hi⟩:=List.getElem?_of_mem hx
  exact hn i x (List.getElem?_eq_some_iff.1 hi).1 hi e
 exact ⟨Qo hg hn2,hn2⟩
theorem Qz {c:List (St × Ch)} {a:St} {x:Ch} (h:Yo c a x.block x.under≠0):WJ c a x=c:=by rw[WJ,if_neg h]
theorem QH (rb:Nat) (an ar bn br un ur:Int) (key:ByteArray) (w:World) (h1:Z7 ⟨an,ar⟩=false) :
  Calls Tryz.prog 38 #[.pointer (some ⟨rb,0,none⟩),.agg #[.int .i64 an,.int .i64 ar],.agg #[.int .i64 bn,.int .i64 br],.agg #[.int .i64 un,.int .i64 ur],.string key] w fun e w'=>e=.returned (.int .i64 1)∧Below w.heap.size w w':=by
 have z0:(((w.alloc (.cells #[.int .i64 an,.int .i64 ar] 23)).alloc (.cells #[.int .i64 bn,.int .i64 br] 23)).alloc (.cells #[.int .i64 un,.int .i64 ur] 23)).cell? ⟨w.heap.size,0,none⟩=some (.int .i64 an):=by go_simp
 have z1:(((w.alloc (.cells #[.int .i64 an,.int .i64 ar] 23)).alloc (.cells #[.int .i64 bn,.int .i64 br] 23)).alloc (.cells #[.int .i64 un,.int .i64 ur] 23)).cell? ⟨w.heap.size,1,none⟩=some (.int .i64 ar):=by go_simp
 have z2:(((w.alloc (.cells #[.int .i64 an,.int .i64 ar] 23)).alloc (.cells #[.int .i64 bn,.int .i64 br] 23)).alloc (.cells #[.int .i64 un,.int .i64 ur] 23)).cell? ⟨w.heap.size+1,0,none⟩=some (.int .i64 bn):=by go_simp
 have z3:(((w.alloc (.cells #[.int .i64 an,.int .i64 ar] 23)).alloc (.cells #[.int .i64 bn,.int .i64 br] 23)).alloc (.cells #[.int .i64 un,.int .i64 ur] 23)).cell? ⟨w.heap.size+1,1,none⟩=some (.int .i64 br):=by go_simp
 have z4:(((w.alloc (.cells #[.int .i64 an,.int .i64 ar] 23)).alloc (.cells #[.int .i64 bn,.int .i64 br] 23)).alloc (.cells #[.int .i64 un,.int .i64 ur] 23)).cell? ⟨w.heap.size+2,0,none⟩=some (.int .i64 un):=by go_simp
 have z5:(((w.alloc (.cells #[.int .i64 an,.int .i64 ar] 23)).alloc (.cells #[.int .i64 bn,.int .i64 br] 23)).alloc (.cells #[.int .i64 un,.int .i64 ur] 23)).cell? ⟨w.heap.size+2,1,none⟩=some (.int .i64 ur):=by go_simp
 have hB0:Below w.heap.size w (((w.alloc (.cells #[.int .i64 an,.int .i64 ar] 23)).alloc (.cells #[.int .i64 bn,.int .i64 br] 23)).alloc (.cells #[.int .i64 un,.int .i64 ur] 23)):=(((Below.refl _ _).alloc (Nat.le_refl _) _).alloc (by simp) _).alloc (by simp;omega) _
 go_enter Tryz.func38,Tryz.ntmps38
 go_upto_region 1 with fail
 generalize (((w.alloc (.cells #[.int .i64 an,.int .i64 ar] 23)).alloc (.cells #[.int .i64 bn,.int .i64 br] 23)).alloc (.cells #[.int .i64 un,.int .i64 ur] 23))=w0 at *
 go_wp2_with fail
 refine (ZG _ _ _).mono ?_
 rintro e w1 ⟨rfl,b1⟩
 rw[h1]
 replace z0:=Z0 b1 z0
 replace z1:=Z0 b1 z1
 replace z2:=Z0 b1 z2
 replace z3:=Z0 b1 z3
 replace z4:=Z0 b1 z4
 replace z5:=Z0 b1 z5
 have hB1:=hB0.trans (b1.mono hB0.size)
 clear b1 hB0
 go_wp2_with fail
 refine (ZG _ _ _).mono ?_
 rintro e w2 ⟨rfl,b2⟩
 replace z0:=Z0 b2 z0
 replace z1:=Z0 b2 z1
 replace z2:=Z0 b2 z2
 replace z3:=Z0 b2 z3
 replace z4:=Z0 b2 z4
 replace z5:=Z0 b2 z5
 have hB2:=hB1.trans (b2.mono hB1.size)
 clear b2 hB1
 go_wp2_with fail
 refine (ZG _ _ _).mono ?_
 rintro e w3 ⟨rfl,b3⟩
 replace z0:=Z0 b3 z0
 replace z1:=Z0 b3 z1
 replace z2:=Z0 b3 z2
 replace z3:=Z0 b3 z3
 replace z4:=Z0 b3 z4
 replace z5:=Z0 b3 z5
 have hB3:=hB2.trans (b3.mono hB2.size)
 clear b3 hB2
 go_wp2_with fail
 go_ret
 exact ⟨rfl,hB3⟩
theorem Z0p (rb:Nat) (an ar bn br un ur:Int) (key:ByteArray) (w:World) (h1:Z7 ⟨an,ar⟩=true) (h2:Z7 ⟨bn,br⟩=false) :
  Calls Tryz.prog 38 #[.pointer (some ⟨rb,0,none⟩),.agg #[.int .i64 an,.int .i64 ar],.agg #[.int .i64 bn,.int .i64 br],.agg #[.int .i64 un,.int .i64 ur],.string key] w fun e w'=>e=.returned (.int .i64 1)∧Below w.heap.size w w':=by
 have z0:(((w.alloc (.cells #[.int .i64 an,.int .i64 ar] 23)).alloc (.cells #[.int .i64 bn,.int .i64 br] 23)).alloc (.cells #[.int .i64 un,.int .i64 ur] 23)).cell? ⟨w.heap.size,0,none⟩=some (.int .i64 an):=by go_simp
 have z1:(((w.alloc (.cells #[.int .i64 an,.int .i64 ar] 23)).alloc (.cells #[.int .i64 bn,.int .i64 br] 23)).alloc (.cells #[.int .i64 un,.int .i64 ur] 23)).cell? ⟨w.heap.size,1,none⟩=some (.int .i64 ar):=by go_simp
 have z2:(((w.alloc (.cells #[.int .i64 an,.int .i64 ar] 23)).alloc (.cells #[.int .i64 bn,.int .i64 br] 23)).alloc (.cells #[.int .i64 un,.int .i64 ur] 23)).cell? ⟨w.heap.size+1,0,none⟩=some (.int .i64 bn):=by go_simp
 have z3:(((w.alloc (.cells #[.int .i64 an,.int .i64 ar] 23)).alloc (.cells #[.int .i64 bn,.int .i64 br] 23)).alloc (.cells #[.int .i64 un,.int .i64 ur] 23)).cell? ⟨w.heap.size+1,1,none⟩=some (.int .i64 br):=by go_simp
 have z4:(((w.alloc (.cells #[.int .i64 an,.int .i64 ar] 23)).alloc (.cells #[.int .i64 bn,.int .i64 br] 23)).alloc (.cells #[.int .i64 un,.int .i64 ur] 23)).cell? ⟨w.heap.size+2,0,none⟩=some (.int .i64 un):=by go_simp
 have z5:(((w.alloc (.cells #[.int .i64 an,.int .i64 ar] 23)).alloc (.cells #[.int .i64 bn,.int .i64 br] 23)).alloc (.cells #[.int .i64 un,.int .i64 ur] 23)).cell? ⟨w.heap.size+2,1,none⟩=some (.int .i64 ur):=by go_simp
 have hB0:Below w.heap.size w (((w.alloc (.cells #[.int .i64 an,.int .i64 ar] 23)).alloc (.cells #[.int .i64 bn,.int .i64 br] 23)).alloc (.cells #[.int .i64 un,.int .i64 ur] 23)):=(((Below.refl _ _).alloc (Nat.le_refl _) _).alloc (by simp) _).alloc (by simp;omega) _
 go_enter Tryz.func38,Tryz.ntmps38
 go_upto_region 1 with fail
 generalize (((w.alloc (.cells #[.int .i64 an,.int .i64 ar] 23)).alloc (.cells #[.int .i64 bn,.int .i64 br] 23)).alloc (.cells #[.int .i64 un,.int .i64 ur] 23))=w0 at *
 go_wp2_with fail
 refine (ZG _ _ _).mono ?_
 rintro e w1 ⟨rfl,b1⟩
 rw[h1]
 replace z0:=Z0 b1 z0
 replace z1:=Z0 b1 z1
 replace z2:=Z0 b1 z2
 replace z3:=Z0 b1 z3
 replace z4:=Z0 b1 z4
 replace z5:=Z0 b1 z5
 have hB1:=hB0.trans (b1.mono hB0.size)
 clear b1 hB0
 go_wp2_with fail
 refine (ZG _ _ _).mono ?_
 rintro e w2 ⟨rfl,b2⟩
 rw[h2]
 replace z0:=Z0 b2 z0
 replace z1:=Z0 b2 z1
 replace z2:=Z0 b2 z2
 replace z3:=Z0 b2 z3
 replace z4:=Z0 b2 z4
 replace z5:=Z0 b2 z5
 have hB2:=hB1.trans (b2.mono hB1.size)
 clear b2 hB1
 go_wp2_with fail
 refine (ZG _ _ _).mono ?_
 rintro e w3 ⟨rfl,b3⟩
 replace z0:=Z0 b3 z0
 replace z1:=Z0 b3 z1
 replace z2:=Z0 b3 z2
 replace z3:=Z0 b3 z3
 replace z4:=Z0 b3 z4
 replace z5:=Z0 b3 z5
 have hB3:=hB2.trans (b3.mono hB2.size)
 clear b3 hB2
 go_wp2_with fail
 go_ret
 exact ⟨rfl,hB3⟩
theorem Z0u (rb:Nat) (an ar bn br un ur:Int) (key:ByteArray) (w:World) (h1:Z7 ⟨an,ar⟩=true) (h2:Z7 ⟨bn,br⟩=true) (h3:Z7 ⟨un,ur⟩=false) (hu:¬ un=0) :
  Calls Tryz.prog 38 #[.pointer (some ⟨rb,0,none⟩),.agg #[.int .i64 an,.int .i64 ar],.agg #[.int .i64 bn,.int .i64 br],.agg #[.int .i64 un,.int .i64 ur],.string key] w fun e w'=>e=.returned (.int .i64 1)∧Below w.heap.size w w':=by
 have z0:(((w.alloc (.cells #[.int .i64 an,.int .i64 ar] 23)).alloc (.cells #[.int .i64 bn,.int .i64 br] 23)).alloc (.cells #[.int .i64 un,.int .i64 ur] 23)).cell? ⟨w.heap.size,0,none⟩=some (.int .i64 an):=by go_simp
 have z1:(((w.alloc (.cells #[.int .i64 an,.int .i64 ar] 23)).alloc (.cells #[.int .i64 bn,.int .i64 br] 23)).alloc (.cells #[.int .i64 un,.int .i64 ur] 23)).cell? ⟨w.heap.size,1,none⟩=some (.int .i64 ar):=by go_simp
 have z2:(((w.alloc (.cells #[.int .i64 an,.int .i64 ar] 23)).alloc (.cells #[.int .i64 bn,.int .i64 br] 23)).alloc (.cells #[.int .i64 un,.int .i64 ur] 23)).cell? ⟨w.heap.size+1,0,none⟩=some (.int .i64 bn):=by go_simp
 have z3:(((w.alloc (.cells #[.int .i64 an,.int .i64 ar] 23)).alloc (.cells #[.int .i64 bn,.int .i64 br] 23)).alloc (.cells #[.int .i64 un,.int .i64 ur] 23)).cell? ⟨w.heap.size+1,1,none⟩=some (.int .i64 br):=by go_simp
 have z4:(((w.alloc (.cells #[.int .i64 an,.int .i64 ar] 23)).alloc (.cells #[.int .i64 bn,.int .i64 br] 23)).alloc (.cells #[.int .i64 un,.int .i64 ur] 23)).cell? ⟨w.heap.size+2,0,none⟩=some (.int .i64 un):=by go_simp
 have z5:(((w.alloc (.cells #[.int .i64 an,.int .i64 ar] 23)).alloc (.cells #[.int .i64 bn,.int .i64 br] 23)).alloc (.cells #[.int .i64 un,.int .i64 ur] 23)).cell? ⟨w.heap.size+2,1,none⟩=some (.int .i64 ur):=by go_simp
 have hB0:Below w.heap.size w (((w.alloc (.cells #[.int .i64 an,.int .i64 ar] 23)).alloc (.cells #[.int .i64 bn,.int .i64 br] 23)).alloc (.cells #[.int .i64 un,.int .i64 ur] 23)):=(((Below.refl _ _).alloc (Nat.le_refl _) _).alloc (by simp) _).alloc (by simp;omega) _
 go_enter Tryz.func38,Tryz.ntmps38
 go_upto_region 1 with fail
 generalize (((w.alloc (.cells #[.int .i64 an,.int .i64 ar] 23)).alloc (.cells #[.int .i64 bn,.int .i64 br] 23)).alloc (.cells #[.int .i64 un,.int .i64 ur] 23))=w0 at *
 go_wp2_with fail
 refine (ZG _ _ _).mono ?_
 rintro e w1 ⟨rfl,b1⟩
 rw[h1]
 replace z0:=Z0 b1 z0
 replace z1:=Z0 b1 z1
 replace z2:=Z0 b1 z2
 replace z3:=Z0 b1 z3
 replace z4:=Z0 b1 z4
 replace z5:=Z0 b1 z5
 have hB1:=hB0.trans (b1.mono hB0.size)
 clear b1 hB0
 go_wp2_with fail
 refine (ZG _ _ _).mono ?_
 rintro e w2 ⟨rfl,b2⟩
 rw[h2]
 replace z0:=Z0 b2 z0
 replace z1:=Z0 b2 z1
 replace z2:=Z0 b2 z2
 replace z3:=Z0 b2 z3
 replace z4:=Z0 b2 z4
 replace z5:=Z0 b2 z5
 have hB2:=hB1.trans (b2.mono hB1.size)
 clear b2 hB1
 go_wp2_with fail
 refine (ZG _ _ _).mono ?_
 rintro e w3 ⟨rfl,b3⟩
 rw[h3]
 replace z0:=Z0 b3 z0
 replace z1:=Z0 b3 z1
 replace z2:=Z0 b3 z2
 replace z3:=Z0 b3 z3
 replace z4:=Z0 b3 z4
 replace z5:=Z0 b3 z5
 have hB3:=hB2.trans (b3.mono hB2.size)
 clear b3 hB2
 go_wp2_with fail
 go_ret
 exact ⟨rfl,hB3⟩
theorem Z0b (rb:Nat) (an ar bn br ur:Int) (key:ByteArray) (w:World) (h1:Z7 ⟨an,ar⟩=true) (h2:Z7 ⟨bn,br⟩=true) (h3:Z7 ⟨0,ur⟩=false) (hu:¬ ur=0) :
  Calls Tryz.prog 38 #[.pointer (some ⟨rb,0,none⟩),.agg #[.int .i64 an,.int .i64 ar],.agg #[.int .i64 bn,.int .i64 br],.agg #[.int .i64 0,.int .i64 ur],.string key] w fun e w'=>e=.returned (.int .i64 1)∧Below w.heap.size w w':=by
 have z0:(((w.alloc (.cells #[.int .i64 an,.int .i64 ar] 23)).alloc (.cells #[.int .i64 bn,.int .i64 br] 23)).alloc (.cells #[.int .i64 0,.int .i64 ur] 23)).cell? ⟨w.heap.size,0,none⟩=some (.int .i64 an):=by go_simp
 have z1:(((w.alloc (.cells #[.int .i64 an,.int .i64 ar] 23)).alloc (.cells #[.int .i64 bn,.int .i64 br] 23)).alloc (.cells #[.int .i64 0,.int .i64 ur] 23)).cell? ⟨w.heap.size,1,none⟩=some (.int .i64 ar):=by go_simp
 have z2:(((w.alloc (.cells #[.int .i64 an,.int .i64 ar] 23)).alloc (.cells #[.int .i64 bn,.int .i64 br] 23)).alloc (.cells #[.int .i64 0,.int .i64 ur] 23)).cell? ⟨w.heap.size+1,0,none⟩=some (.int .i64 bn):=by go_simp
 have z3:(((w.alloc (.cells #[.int .i64 an,.int .i64 ar] 23)).alloc (.cells #[.int .i64 bn,.int .i64 br] 23)).alloc (.cells #[.int .i64 0,.int .i64 ur] 23)).cell? ⟨w.heap.size+1,1,none⟩=some (.int .i64 br):=by go_simp
 have z4:(((w.alloc (.cells #[.int .i64 an,.int .i64 ar] 23)).alloc (.cells #[.int .i64 bn,.int .i64 br] 23)).alloc (.cells #[.int .i64 0,.int .i64 ur] 23)).cell? ⟨w.heap.size+2,0,none⟩=some (.int .i64 0):=by go_simp
 have z5:(((w.alloc (.cells #[.int .i64 an,.int .i64 ar] 23)).alloc (.cells #[.int .i64 bn,.int .i64 br] 23)).alloc (.cells #[.int .i64 0,.int .i64 ur] 23)).cell? ⟨w.heap.size+2,1,none⟩=some (.int .i64 ur):=by go_simp
 have hB0:Below w.heap.size w (((w.alloc (.cells #[.int .i64 an,.int .i64 ar] 23)).alloc (.cells #[.int .i64 bn,.int .i64 br] 23)).alloc (.cells #[.int .i64 0,.int .i64 ur] 23)):=(((Below.refl _ _).alloc (Nat.le_refl _) _).alloc (by simp) _).alloc (by simp;omega) _
 go_enter Tryz.func38,Tryz.ntmps38
 go_upto_region 1 with fail
 generalize (((w.alloc (.cells #[.int .i64 an,.int .i64 ar] 23)).alloc (.cells #[.int .i64 bn,.int .i64 br] 23)).alloc (.cells #[.int .i64 0,.int .i64 ur] 23))=w0 at *
 go_wp2_with fail
 refine (ZG _ _ _).mono ?_
 rintro e w1 ⟨rfl,b1⟩
 rw[h1]
 replace z0:=Z0 b1 z0
 replace z1:=Z0 b1 z1
 replace z2:=Z0 b1 z2
 replace z3:=Z0 b1 z3
 replace z4:=Z0 b1 z4
 replace z5:=Z0 b1 z5
 have hB1:=hB0.trans (b1.mono hB0.size)
 clear b1 hB0
 go_wp2_with fail
 refine (ZG _ _ _).mono ?_
 rintro e w2 ⟨rfl,b2⟩
 rw[h2]
 replace z0:=Z0 b2 z0
 replace z1:=Z0 b2 z1
 replace z2:=Z0 b2 z2
 replace z3:=Z0 b2 z3
 replace z4:=Z0 b2 z4
 replace z5:=Z0 b2 z5
 have hB2:=hB1.trans (b2.mono hB1.size)
 clear b2 hB1
 go_wp2_with fail
 refine (ZG _ _ _).mono ?_
 rintro e w3 ⟨rfl,b3⟩
 rw[h3]
 replace z0:=Z0 b3 z0
 replace z1:=Z0 b3 z1
 replace z2:=Z0 b3 z2
 replace z3:=Z0 b3 z3
 replace z4:=Z0 b3 z4
 replace z5:=Z0 b3 z5
 have hB3:=hB2.trans (b3.mono hB2.size)
 clear b3 hB2
 go_wp2_with fail
 go_ret
 exact ⟨rfl,hB3⟩
theorem TW (rb:Nat) (v:Value) (L:List RMv) (an ar bn br un ur:Int) (key:ByteArray) (w:World) {B:Nat} (h:YF B w rb v L) (hBw:B≤w.heap.size) {c:List (St × Ch)} (hc:YP L c) (hl:L.length≤900) (h1:Z7 ⟨an,ar⟩=true) (h2:Z7 ⟨bn,br⟩=true) (h3:(un=0∧ur=0)∨Z7 ⟨un,ur⟩=true) :
  Calls Tryz.prog 38 #[.pointer (some ⟨rb,0,none⟩),.agg #[.int .i64 an,.int .i64 ar],.agg #[.int .i64 bn,.int .i64 br],.agg #[.int .i64 un,.int .i64 ur],.string key] w fun e w'=>V4 B w rb v c ⟨an,ar⟩ ⟨bn,br⟩ ⟨un,ur⟩ key e w':=by
 obtain ⟨a,cap,rfl,hcap,hmax,_⟩:=h.2.1.slice RMv.len
 unfold maxLen at hmax
 obtain ⟨i0,hi,hz0,hz1,hz2⟩:=info_parts Z0s
 have hg:XW ⟨an,ar⟩ ⟨bn,br⟩ ⟨un,ur⟩=true:=by
  rcases h3 with ⟨rfl,rfl⟩|h3
  ·simp[XW,h1,h2]
  ·simp[XW,h1,h2,h3]
 have HG:=Lib.hid hg
 have HC:=Lib.hid hc
 have HT:=Lib.hid h
 have HBW:=Lib.hid hBw
 have h1:=h1
 obtain ⟨q3,hq3⟩:=Je (Z7 ⟨un,ur⟩)
 rw[hq3] at h3
 have H3:=Lib.hid h3
 clear h hc hg h3 hBw
 have z0:(((w.alloc (.cells #[.int .i64 an,.int .i64 ar] 23)).alloc (.cells #[.int .i64 bn,.int .i64 br] 23)).alloc (.cells #[.int .i64 un,.int .i64 ur] 23)).cell? ⟨w.heap.size,0,none⟩=some (.int .i64 an):=by go_simp
 have z1:(((w.alloc (.cells #[.int .i64 an,.int .i64 ar] 23)).alloc (.cells #[.int .i64 bn,.int .i64 br] 23)).alloc (.cells #[.int .i64 un,.int .i64 ur] 23)).cell? ⟨w.heap.size,1,none⟩=some (.int .i64 ar):=by go_simp
 have z2:(((w.alloc (.cells #[.int .i64 an,.int .i64 ar] 23)).alloc (.cells #[.int .i64 bn,.int .i64 br] 23)).alloc (.cells #[.int .i64 un,.int .i64 ur] 23)).cell? ⟨w.heap.size+1,0,none⟩=some (.int .i64 bn):=by go_simp
 have z3:(((w.alloc (.cells #[.int .i64 an,.int .i64 ar] 23)).alloc (.cells #[.int .i64 bn,.int .i64 br] 23)).alloc (.cells #[.int .i64 un,.int .i64 ur] 23)).cell? ⟨w.heap.size+1,1,none⟩=some (.int .i64 br):=by go_simp
 have z4:(((w.alloc (.cells #[.int .i64 an,.int .i64 ar] 23)).alloc (.cells #[.int .i64 bn,.int .i64 br] 23)).alloc (.cells #[.int .i64 un,.int .i64 ur] 23)).cell? ⟨w.heap.size+2,0,none⟩=some (.int .i64 un):=by go_simp
 have z5:(((w.alloc (.cells #[.int .i64 an,.int .i64 ar] 23)).alloc (.cells #[.int .i64 bn,.int .i64 br] 23)).alloc (.cells #[.int .i64 un,.int .i64 ur] 23)).cell? ⟨w.heap.size+2,1,none⟩=some (.int .i64 ur):=by go_simp
 have hB0:Below w.heap.size w (((w.alloc (.cells #[.int .i64 an,.int .i64 ar] 23)).alloc (.cells #[.int .i64 bn,.int .i64 br] 23)).alloc (.cells #[.int .i64 un,.int .i64 ur] 23)):=(((Below.refl _ _).alloc (Nat.le_refl _) _).alloc (by simp) _).alloc (by simp;omega) _
 go_enter Tryz.func38,Tryz.ntmps38
 go_upto_region 1 with fail
 generalize (((w.alloc (.cells #[.int .i64 an,.int .i64 ar] 23)).alloc (.cells #[.int .i64 bn,.int .i64 br] 23)).alloc (.cells #[.int .i64 un,.int .i64 ur] 23))=w0 at *
 go_wp2_with fail
 refine (ZG _ _ _).mono ?_
 rintro e w1 ⟨rfl,b1⟩
 rw[h1]
 replace z0:=Z0 b1 z0
 replace z1:=Z0 b1 z1
 replace z2:=Z0 b1 z2
 replace z3:=Z0 b1 z3
 replace z4:=Z0 b1 z4
 replace z5:=Z0 b1 z5
 have hB1:=hB0.trans (b1.mono hB0.size)
 clear b1 hB0
 go_wp2_with fail
 refine (ZG _ _ _).mono ?_
 rintro e w2 ⟨rfl,b2⟩
 rw[h2]
 replace z0:=Z0 b2 z0
 replace z1:=Z0 b2 z1
 replace z2:=Z0 b2 z2
 replace z3:=Z0 b2 z3
 replace z4:=Z0 b2 z4
 replace z5:=Z0 b2 z5
 have hB2:=hB1.trans (b2.mono hB1.size)
 clear b2 hB1
 go_wp2_with fail
 refine (ZG _ _ _).mono ?_
 rintro e w3 ⟨rfl,b3⟩
 rw[hq3]
 replace z0:=Z0 b3 z0
 replace z1:=Z0 b3 z1
 replace z2:=Z0 b3 z2
 replace z3:=Z0 b3 z3
 replace z4:=Z0 b3 z4
 replace z5:=Z0 b3 z5
 have hB3:=hB2.trans (b3.mono hB2.size)
 clear b3 hB2
 have HB3:=Lib.hid hB3
 clear hB3
 go_upto_region 4 with fail
 go_cut [37] (fun tv wx=>tv=.bool false∧wx=w3)
 case first =>
  rcases H3.out with ⟨rfl,rfl⟩|rfl
  ·clear hq3
   cases q3
   ·go_wp2_with fail
    go_meet
    case rel=>exact ⟨rfl,rfl⟩
   ·go_wp2_with fail
    go_meet
    case rel=>exact ⟨rfl,rfl⟩
  ·clear hq3
   go_wp2_with fail
   go_meet
   case rel=>exact ⟨rfl,rfl⟩
 case rest =>
 obtain ⟨rfl,rfl⟩:=hcut
 have t0:=(HT.out.below HB3.out).c0
 go_wp2_with fail
 go_loopg [14] L.length (fun g iv wx=>∃ k:Nat,g=L.length - k∧k≤L.length∧iv=.int .i64 k∧Hid (∀ j y,j<k→L[j]?=some y→y.at_≠⟨an,ar⟩)∧Hid (Below wc.heap.size wc wx))
 case atStart=>exact ⟨0,rfl,Nat.zero_le _,rfl,Jh (fun j y hj=>absurd hj (by omega)),Jh (Below.refl _ _)⟩
 case round =>
  obtain ⟨k,hg,hk,rfl,HP,HB⟩:=hrel
  have HGG:=Lib.hid hg
  clear hg
  replace t0:=Z0 HB.out t0
  replace z0:=Z0 HB.out z0
  replace z1:=Z0 HB.out z1
  replace z2:=Z0 HB.out z2
  replace z3:=Z0 HB.out z3
  replace z4:=Z0 HB.out z4
  replace z5:=Z0 HB.out z5
  have HW:=Jh (HB3.out.trans (HB.out.mono HB3.out.size))
  by_cases hlt:k<L.length
  ·obtain ⟨x,hx⟩:∃ x,L[k]?=some x:=⟨_,List.getElem?_eq_getElem hlt⟩
   obtain ⟨b,o,c1,e1,hh⟩:=((HT.out.below HW.out).2.1.slice RMv.len).rcells (by intro e;rw[e] at hlt;simp at hlt)
   cases e1
   obtain ⟨x0,x1,-,-,-,-,-⟩:=hh k x hx
   have HX:=Lib.hid hx
   have HD:Hid (Below w.heap.size w wr.drew∧Below wc.heap.size wc wr.drew):=Lib.hid ⟨HW.out.drew,HB.out.drew⟩
   have hkk:(k:Int)<(L.length:Int):=by omega
   have hk0:(0:Int)≤(k:Int):=by omega
   clear hh hx
   by_cases hb:x.at_=⟨an,ar⟩
   ·have e1:x.at_.n=an:=by rw[hb]
    have e2:x.at_.r=ar:=by rw[hb]
    rw[e1] at x0
    rw[e2] at x1
    have HM:=Jh (Z0L HC.out HG.out (List.mem_of_getElem? HX.out) hb)
    clear hb e1 e2
    go_wp2_with fail
    go_region_held3 (fun W=>W.cell? ⟨rb,0,none⟩=some (.slice (some ⟨b,o,none⟩) L.length cap)∧W.cell? ⟨b,o+k*7,none⟩=some (.int .i64 an)∧W.cell? ⟨b,o+k*7+1,none⟩=some (.int .i64 ar)∧W.cell? ⟨w.heap.size,0,none⟩=some (.int .i64 an)∧W.cell? ⟨w.heap.size,1,none⟩=some (.int .i64 ar)) (exact ⟨t0,x0,x1,z0,z1⟩) (fail)
    go_wp2_with fail
    go_ret
    refine ⟨_,L,by rw[HM.out];rfl,HT.out.below HD.out.1,?_,Ext.of_below HD.out.1⟩
    rw[Qz (by rw[show Yo c ⟨an,ar⟩ (Ch.mk ⟨bn,br⟩ ⟨un,ur⟩ key).block (Ch.mk ⟨bn,br⟩ ⟨un,ur⟩ key).under=141 from HM.out];decide)]
    exact HC.out
   ·have HN:=Jh (Z0C HP.out HX.out hb)
    have hb':=Z3e hb
    clear hb
    by_cases e1:x.at_.n=an
    ·have e2:=hb' e1
     rw[e1] at x0
     clear e1
     clear hb'
     go_wp2_with fail
     go_region_held3 (fun W=>W.cell? ⟨rb,0,none⟩=some (.slice (some ⟨b,o,none⟩) L.length cap)∧W.cell? ⟨b,o+k*7,none⟩=some (.int .i64 an)∧W.cell? ⟨b,o+k*7+1,none⟩=some (.int .i64 x.at_.r)∧W.cell? ⟨w.heap.size,0,none⟩=some (.int .i64 an)∧W.cell? ⟨w.heap.size,1,none⟩=some (.int .i64 ar)) (exact ⟨t0,x0,x1,z0,z1⟩) (fail)
     go_wp2_with fail
     go_roundg (L.length - (k+1))
     case measure=>rw[HGG.out];omega
     case rel=>exact ⟨k+1,rfl,hlt,by go_num,HN,Lib.hid HD.out.2⟩
    ·have htr:True:=trivial
     clear hb'
     go_wp2_with fail
     go_region_held3 (fun W=>W.cell? ⟨rb,0,none⟩=some (.slice (some ⟨b,o,none⟩) L.length cap)∧W.cell? ⟨b,o+k*7,none⟩=some (.int .i64 x.at_.n)∧W.cell? ⟨b,o+k*7+1,none⟩=some (.int .i64 x.at_.r)∧W.cell? ⟨w.heap.size,0,none⟩=some (.int .i64 an)∧W.cell? ⟨w.heap.size,1,none⟩=some (.int .i64 ar)) (exact ⟨t0,x0,x1,z0,z1⟩) (fail)
     go_wp2_with fail
     go_roundg (L.length - (k+1))
     case measure=>rw[HGG.out];omega
     case rel=>exact ⟨k+1,rfl,hlt,by go_num,HN,Lib.hid HD.out.2⟩
  ·obtain rfl:k=L.length:=by omega
   obtain ⟨hcode,hnin⟩:=Z2Y HC.out HG.out HP.out
   have HCODE:=Lib.hid hcode
   have HNIN:=Lib.hid hnin
   have hkk:¬ (L.length:Int)<(L.length:Int):=by omega
   have hT:=HT.out.below HW.out
   have HT2:=Lib.hid hT
   have hrl:=(Array.getElem?_eq_some_iff.1 hT.1).1
   have hwz:=HW.out.size
   have hne:∀ b,(Value.slice a L.length cap).ownBlock=some b→¬ b=rb:=fun b hb e=>by
    obtain ⟨cur,hcur⟩:=hT.2.1.tag hb
    rw[e,hT.1] at hcur
    cases hcur
   have hBw:=Nat.le_trans HBW.out hwz
   have HNE:=Lib.hid hne
   have hzb:w.heap.size+2<wr.heap.size:=by have:=Zj z4;omega
   clear hcode hnin hne hT hlt hk
   go_upto_region 11 with fail
   obtain ⟨W1,hW1⟩:=Je (wr.drew)
   have hT1:YF B W1 rb (.slice a L.length cap) L:=by rw[←hW1];exact HT2.out.below (Below.refl _ _).drew
   have hX1:Below w.heap.size w W1:=by rw[←hW1];exact HW.out.drew
   have hs1:wr.heap.size=W1.heap.size:=by rw[←hW1];rfl
   have hS0:W1.cell? ⟨rb,0,none⟩=some (.slice a L.length cap)∧W1.cell? ⟨w.heap.size,0,none⟩=some (.int .i64 an)∧W1.cell? ⟨w.heap.size,1,none⟩=some (.int .i64 ar)∧W1.cell? ⟨w.heap.size+1,0,none⟩=some (.int .i64 bn)∧W1.cell? ⟨w.heap.size+1,1,none⟩=some (.int .i64 br)∧W1.cell? ⟨w.heap.size+2,0,none⟩=some (.int .i64 un)∧W1.cell? ⟨w.heap.size+2,1,none⟩=some (.int .i64 ur):=by rw[←hW1];exact ⟨t0,z0,z1,z2,z3,z4,z5⟩
   refine Zf (fun W=>W.cell? ⟨rb,0,none⟩=some (.slice a L.length cap)∧W.cell? ⟨w.heap.size,0,none⟩=some (.int .i64 an)∧W.cell? ⟨w.heap.size,1,none⟩=some (.int .i64 ar)∧W.cell? ⟨w.heap.size+1,0,none⟩=some (.int .i64 bn)∧W.cell? ⟨w.heap.size+1,1,none⟩=some (.int .i64 br)∧W.cell? ⟨w.heap.size+2,0,none⟩=some (.int .i64 un)∧W.cell? ⟨w.heap.size+2,1,none⟩=some (.int .i64 ur)) (fun i=>i == 14) (by kernel_rfl) ?_
   rw[hW1]
   clear hW1 t0 z0 z1 z2 z3 z4 z5
   rw[hs1] at hzb hBw hwz hrl
   refine JR 0 57 _ rfl rfl hS0 (fun W hW=>by go_simp;rfl) ?_
   try simp only[Ja]
   refine JR 1 58 _ rfl rfl hS0 (fun W hW=>by go_simp;rfl) ?_
   try simp only[Ja]
   refine JR 2 59 _ rfl rfl hS0 (fun W hW=>by go_simp;rfl) ?_
   try simp only[Ja]
   refine JR 3 60 _ rfl rfl hS0 (fun W hW=>by go_simp;rfl) ?_
   try simp only[Ja]
   refine JR 4 61 _ rfl rfl hS0 (fun W hW=>by obtain ⟨q0,q1,q2,q3,q4,q5,q6⟩:=hW;go_simp;rfl) ?_
   try simp only[Ja]
   refine JR 5 62 _ rfl rfl hS0 (fun W hW=>by obtain ⟨q0,q1,q2,q3,q4,q5,q6⟩:=hW;go_simp;rfl) ?_
   try simp only[Ja]
   refine JR 6 63 _ rfl rfl hS0 (fun W hW=>by obtain ⟨q0,q1,q2,q3,q4,q5,q6⟩:=hW;go_simp;rfl) ?_
   try simp only[Ja]
   refine JR 7 64 _ rfl rfl hS0 (fun W hW=>by obtain ⟨q0,q1,q2,q3,q4,q5,q6⟩:=hW;go_simp;rfl) ?_
   try simp only[Ja]
   refine JR 8 65 _ rfl rfl hS0 (fun W hW=>by go_simp;rfl) ?_
   try simp only[Ja]
   refine Zk (i:=9) (d:=some 66) (v:=.agg #[.int .i64 an,.int .i64 ar,.int .i64 bn,.int .i64 br,.int .i64 un,.int .i64 ur,.string key]) (w':=W1) (by kernel_rfl) rfl rfl (by rfl) (by go_simp;try rfl) (fun _=>hS0) ?_
   try simp only[Ja]
   obtain ⟨v6,w6,hr6,hown6,hx6,hnw6⟩:=Yt (P:=Tryz.prog) 35 35 i0 _ 64 Tryz.underlying35 hi hz0 hz1 hz2 rfl (by omega) RMv.len RMv.one (hT1.2.1.alloc (.cells #[.int .i64 an,.int .i64 ar,.int .i64 bn,.int .i64 br,.int .i64 un,.int .i64 ur,.string key] 88)) ⟨⟨an,ar⟩,⟨bn,br⟩,⟨un,ur⟩,key⟩ W1.heap.size 1 (Z2V _ ⟨⟨an,ar⟩,⟨bn,br⟩,⟨un,ur⟩,key⟩) (by unfold maxLen;omega) (by omega) (by simp;omega)
   obtain ⟨g6,cp6,rfl⟩:∃ g c,v6=.slice (some ⟨g,0,none⟩) (L.length+1) c:=(by rcases hown6.eq_slice with ⟨_,h⟩|⟨g,c,h,_⟩;(simp at h);exact ⟨g,c,by simpa using h⟩)
   have hk6:∀ b o u,¬ (Value.slice a L.length cap).ownBlock=some b→W1.cell? ⟨b,o,none⟩=some u→w6.cell? ⟨b,o,none⟩=some u:=fun b o u hn hu=>hx6.keep (Z1 hu _) hn
   have hbx:∀ b,w.heap.size≤b→b<w.heap.size+3→¬ (Value.slice a L.length cap).ownBlock=some b:=fun b h1 h2 e=>by have:=(HT.out.2.1.blk b e).2;omega
   have hSa:(W1.alloc (.cells #[.int .i64 an,.int .i64 ar,.int .i64 bn,.int .i64 br,.int .i64 un,.int .i64 ur,.string key] 88)).cell? ⟨rb,0,none⟩=some (.slice a L.length cap)∧(W1.alloc (.cells #[.int .i64 an,.int .i64 ar,.int .i64 bn,.int .i64 br,.int .i64 un,.int .i64 ur,.string key] 88)).cell? ⟨w.heap.size,0,none⟩=some (.int .i64 an)∧(W1.alloc (.cells #[.int .i64 an,.int .i64 ar,.int .i64 bn,.int .i64 br,.int .i64 un,.int .i64 ur,.string key] 88)).cell? ⟨w.heap.size,1,none⟩=some (.int .i64 ar)∧(W1.alloc (.cells #[.int .i64 an,.int .i64 ar,.int .i64 bn,.int .i64 br,.int .i64 un,.int .i64 ur,.string key] 88)).cell? ⟨w.heap.size+1,0,none⟩=some (.int .i64 bn)∧(W1.alloc (.cells #[.int .i64 an,.int .i64 ar,.int .i64 bn,.int .i64 br,.int .i64 un,.int .i64 ur,.string key] 88)).cell? ⟨w.heap.size+1,1,none⟩=some (.int .i64 br)∧(W1.alloc (.cells #[.int .i64 an,.int .i64 ar,.int .i64 bn,.int .i64 br,.int .i64 un,.int .i64 ur,.string key] 88)).cell? ⟨w.heap.size+2,0,none⟩=some (.int .i64 un)∧(W1.alloc (.cells #[.int .i64 an,.int .i64 ar,.int .i64 bn,.int .i64 br,.int .i64 un,.int .i64 ur,.string key] 88)).cell? ⟨w.heap.size+2,1,none⟩=some (.int .i64 ur):=⟨Z1 hS0.1 _,Z1 hS0.2.1 _,Z1 hS0.2.2.1 _,Z1 hS0.2.2.2.1 _,Z1 hS0.2.2.2.2.1 _,Z1 hS0.2.2.2.2.2.1 _,Z1 hS0.2.2.2.2.2.2 _⟩
   have hrb6:¬ (Value.slice a L.length cap).ownBlock=some rb:=fun e=>HNE.out _ e rfl
   have hS6:w6.cell? ⟨rb,0,none⟩=some (.slice a L.length cap)∧w6.cell? ⟨w.heap.size,0,none⟩=some (.int .i64 an)∧w6.cell? ⟨w.heap.size,1,none⟩=some (.int .i64 ar)∧w6.cell? ⟨w.heap.size+1,0,none⟩=some (.int .i64 bn)∧w6.cell? ⟨w.heap.size+1,1,none⟩=some (.int .i64 br)∧w6.cell? ⟨w.heap.size+2,0,none⟩=some (.int .i64 un)∧w6.cell? ⟨w.heap.size+2,1,none⟩=some (.int .i64 ur):=⟨hk6 _ _ _ hrb6 hS0.1,hk6 _ _ _ (hbx _ (by omega) (by omega)) hS0.2.1,hk6 _ _ _ (hbx _ (by omega) (by omega)) hS0.2.2.1,hk6 _ _ _ (hbx _ (by omega) (by omega)) hS0.2.2.2.1,hk6 _ _ _ (hbx _ (by omega) (by omega)) hS0.2.2.2.2.1,hk6 _ _ _ (hbx _ (by omega) (by omega)) hS0.2.2.2.2.2.1,hk6 _ _ _ (hbx _ (by omega) (by omega)) hS0.2.2.2.2.2.2⟩
   have hb6:w6.heap[rb]?=some (.cells #[.slice a L.length cap] 85 (0,0)):=by rw[hx6.block rb (by simp;omega) hrb6,Below.heap_alloc _ _ _ hrl];exact hT1.1
   have g1:w6.frozen? ⟨rb,0,none⟩=false:=by simp[World.frozen?,hb6]
   refine Zk (i:=10) (d:=some 67) (v:=.slice (some ⟨W1.heap.size,0,none⟩) 1 1) (w':=W1.alloc (.cells #[.int .i64 an,.int .i64 ar,.int .i64 bn,.int .i64 br,.int .i64 un,.int .i64 ur,.string key] 88)) (by kernel_rfl) rfl rfl (by rfl) (by go_simp;try rfl) (fun _=>hSa) ?_
   try simp only[Ja]
   refine Zk (i:=11) (d:=some 68) (v:=.slice (some ⟨g6,0,none⟩) (L.length+1) cp6) (w':=w6) (by kernel_rfl) rfl rfl (by rfl) (Ym rfl rfl rfl hr6) (fun _=>hS6) ?_
   try simp only[Ja]
   refine Zk (i:=12) (d:=some 69) (w':=w6) (by kernel_rfl) rfl rfl (by rfl) (by go_simp;try rfl) (fun _=>hS6) ?_
   try simp only[Ja]
   refine Zk (i:=13) (d:=some 70) (w':=w6) (by kernel_rfl) rfl rfl (by rfl) (by go_simp;try rfl) (fun _=>hS6) ?_
   try simp only[Ja]
   refine Zg (i:=14) (d:=none) (w':=w6.setCell ⟨rb,0,none⟩ (.slice (some ⟨g6,0,none⟩) (L.length+1) cp6)) (by kernel_rfl) rfl rfl (by rfl) (by have g2:=hS6.1;go_simp;try rfl) (fun h=>by cases h) ?_
   try simp only[Ja]
   refine Zd (by kernel_rfl) ?_ _
   have hT6:YF B (w6.setCell ⟨rb,0,none⟩ (.slice (some ⟨g6,0,none⟩) (L.length+1) cp6)) rb (.slice (some ⟨g6,0,none⟩) (L.length+1) cp6) (L++[⟨⟨an,ar⟩,⟨bn,br⟩,⟨un,ur⟩,key⟩]):=by
    refine ⟨by simp[World.setCell,Array.getElem?_modify,hb6],hown6.ext ((Ext.refl (·=rb) w6).setCell (p:=⟨rb,0,none⟩) (.inr rfl) _) (fun b hb e=>?_),HT2.out.2.2⟩
    obtain ⟨cur,hcur⟩:=hown6.tag hb
    rw[e,hb6] at hcur
    cases hcur
   have hF6:Ext (XH (.slice a L.length cap) rb) w (w6.setCell ⟨rb,0,none⟩ (.slice (some ⟨g6,0,none⟩) (L.length+1) cp6)) :=
    (((Ext.of_below hX1).alloc (.cells #[.int .i64 an,.int .i64 ar,.int .i64 bn,.int .i64 br,.int .i64 un,.int .i64 ur,.string key] 88)).andThen hx6 (fun b _ hb=>.inr hb)).setCell (p:=⟨rb,0,none⟩) (.inr (.inl rfl)) _
   have hg6:w.heap.size≤g6∨XH (.slice a L.length cap) rb g6:=by
    rcases hnw6 g6 rfl with e|e
    ·exact .inr (.inr e)
    ·exact .inl (by simp at e;omega)
   have HT6:=Lib.hid hT6
   have HF6:=Lib.hid hF6
   obtain ⟨-,hc6,hm6⟩:=hown6.lenI RMv.len
   clear hr6 hown6 hx6 hnw6 hk6 hbx hSa hrb6 hS6 hb6 g1 hT6 hF6 hS0 hT1 hX1
   generalize w6.setCell ⟨rb,0,none⟩ (.slice (some ⟨g6,0,none⟩) (L.length+1) cp6)=w7 at *
   obtain ⟨y,hy⟩:∃ y:RMv,(⟨⟨an,ar⟩,⟨bn,br⟩,⟨un,ur⟩,key⟩:RMv)=y:=⟨_,rfl⟩
   rw[hy] at HT6
   obtain ⟨m,hm⟩:=Je (L.length+1)
   rw[hm] at HT6 hc6
   have hm1:(m:Int) - 1=(L.length:Int):=by omega
   have hmb:m≤901:=by omega
   have HM:=Lib.hid hm
   have hlm:(L++[y]).length=m:=by simp[hm]
   have HLM:=Lib.hid hlm
   have hnd:(L++[y]).Nodup∧∀ q∈L,q.at_≠y.at_:=by
    have hq:∀ q∈L,q.at_≠y.at_:=fun q hq e=>HNIN.out (UT q) (by rw[←HC.out.1];exact List.mem_map_of_mem hq) (by rw[←hy] at e;exact e)
    refine ⟨?_,hq⟩
    rw[List.nodup_append]
    refine ⟨HC.out.2.imp (fun {a b} h e=>by rw[e] at h;exact Zl _ h),by simp,fun a ha b hb e=>?_⟩
    rw[List.mem_singleton] at hb
    subst hb
    exact hq a ha (by rw[e])
   have HND:=Lib.hid hnd
   have t0:=HT6.out.c0
   have HY:=Lib.hid hy
   have HI0:Hid (W5 RLt (L++[y]) (L++[y]) L.length∧YF B w7 rb (.slice (some ⟨g6,0,none⟩) m cp6) (L++[y])∧Ext (XH (.slice a L.length cap) rb) w w7):=Lib.hid ⟨Vb HC.out.2 y,HT6.out,HF6.out⟩
   clear hm hlm hnd hy HT6 HF6 hzb hwz hrl hs1 hBw
   go_wp2_with fail
   go_loopg [15] L.length (fun g jv wr=>∃ (j:Nat) (zs:List RMv),g=j∧j≤L.length∧jv=.int .i64 j∧zs.length=m∧Hid (zs[j]?=some y)∧Hid (W5 RLt (L++[y]) zs j∧YF B wr rb (.slice (some ⟨g6,0,none⟩) m cp6) zs∧Ext (XH (.slice a L.length cap) rb) w wr))
   case atStart=>exact ⟨L.length,_,rfl,Nat.le_refl _,by first|rfl|simp,HLM.out,Jh (by rw[List.getElem?_append_right (Nat.le_refl _),Nat.sub_self];rfl),HI0⟩
   case round =>
    obtain ⟨j,zs,hg,hj,rfl,hzl,hzx,hV⟩:=hrel
    have HGJ:=Lib.hid hg
    clear hg t0
    have t0:=hV.out.2.1.c0
    have hend:∀ W,Below wr.heap.size wr W→zs.Pairwise RLt→Hid (V4 B w rb (.slice a L.length cap) c ⟨an,ar⟩ ⟨bn,br⟩ ⟨un,ur⟩ key (.returned (.int .i64 0)) W):=fun W hW h=>Lib.hid ⟨_,zs,by rw[HCODE.out],hV.out.2.1.below hW,by
     rw[WJ,if_pos (show Yo c ⟨an,ar⟩ (Ch.mk ⟨bn,br⟩ ⟨un,ur⟩ key).block (Ch.mk ⟨bn,br⟩ ⟨un,ur⟩ key).under=0 from HCODE.out)]
     have:=HC.out.add (x:=y) (by rw[←HY.out];exact HNIN.out) hV.out.1.perm h
     rw[←HY.out] at this
     exact this,hV.out.2.2.then_below hW⟩
    by_cases hj0:0<j
    ·obtain ⟨p,hp⟩:∃ p,zs[j]?=some p:=⟨_,List.getElem?_eq_getElem (by omega)⟩
     obtain ⟨q,hq⟩:∃ q,zs[j - 1]?=some q:=⟨_,List.getElem?_eq_getElem (by omega)⟩
     have ho:=hV.out.2.1.2.1
     have p0:=ho.cellI (j:=0) RMv.len hp rfl
     have p1:=ho.cellI (j:=1) RMv.len hp rfl
     have q0:=ho.cellI (j:=0) RMv.len hq rfl
     have q1:=ho.cellI (j:=1) RMv.len hq rfl
     simp only[Nat.add_zero] at p0 q0
     have HPQ:=Jh (And.intro hp hq)
     have hcm:=X1 p.at_.n p.at_.r q.at_.n q.at_.r
     obtain ⟨cv,hcv⟩:=Je (Yc ⟨p.at_.n,p.at_.r⟩ ⟨q.at_.n,q.at_.r⟩)
     rw[hcv] at hcm
     have HCM:=Lib.hid hcm
     have hvv:=Wm p.at_ q.at_
     rw[show Yc p.at_ q.at_=cv from hcv] at hvv
     have HVV:=Lib.hid hvv
     have hja:(0:Int)≤(j:Int):=by omega
     have hjb:(j:Int)<(m:Int):=by omega
     have hj1:(0:Int)<(j:Int):=by omega
     obtain ⟨jq,hjq⟩:∃ jq:Nat,j - 1=jq:=⟨_,rfl⟩
     rw[hjq] at q0 q1
     have hjc:(0:Int)≤(jq:Int):=by omega
     have hjd:(jq:Int)<(m:Int):=by omega
     have hje:IntKind.i64.wrap ((j:Int) - 1)=(jq:Int):=by rw[show (j:Int) - 1=(jq:Int) by omega];exact IntWalk.i64_in _ (by omega)
     have HJE:=Lib.hid hje
     have HJQ:=Lib.hid hjq
     clear ho hp hq hcm hcv hvv hjq
     go_upto_region 13 with fail
     go_region_held3 (fun W=>W.cell? ⟨rb,0,none⟩=some (.slice (some ⟨g6,0,none⟩) m cp6)∧W.cell? ⟨g6,j*7,none⟩=some (.int .i64 p.at_.n)∧W.cell? ⟨g6,j*7+1,none⟩=some (.int .i64 p.at_.r)∧W.cell? ⟨g6,jq*7,none⟩=some (.int .i64 q.at_.n)∧W.cell? ⟨g6,jq*7+1,none⟩=some (.int .i64 q.at_.r)) (first|exact ⟨t0,p0,p1,q0,q1⟩|exact ⟨Z0 b5 t0,Z0 b5 p0,Z0 b5 p1,Z0 b5 q0,Z0 b5 q1⟩) (first|(go_at_call 23;((with_reducible refine (HCM.out _).mono ?_);rintro e w5 ⟨rfl,b5⟩;simp only[ZR,ZJ] at b5)))
     have HB5:=Lib.hid b5
     clear b5 p0 p1 q0 q1 hje t0
     by_cases hlt:cv<0
     ·have HSW:=Jh (hV.out.1.swap hj0 HPQ.out.1 HPQ.out.2 (HVV.out.1 hlt))
      have hT5:=hV.out.2.1.below HB5.out
      have hF5:=hV.out.2.2.then_below HB5.out
      clear hV hend HCM HVV HB5
      have t0:=hT5.c0
      have ho:=hT5.2.1
      have p0:=ho.cellI (j:=0) RMv.len HPQ.out.1 rfl
      have p1:=ho.cellI (j:=1) RMv.len HPQ.out.1 rfl
      have p2:=ho.cellI (j:=2) RMv.len HPQ.out.1 rfl
      have p3:=ho.cellI (j:=3) RMv.len HPQ.out.1 rfl
      have p4:=ho.cellI (j:=4) RMv.len HPQ.out.1 rfl
      have p5:=ho.cellI (j:=5) RMv.len HPQ.out.1 rfl
      have p6:=ho.cellI (j:=6) RMv.len HPQ.out.1 rfl
      simp only[Nat.add_zero] at p0
      have z0:(w5.alloc (.cells #[.int .i64 p.at_.n,.int .i64 p.at_.r,.int .i64 p.block.n,.int .i64 p.block.r,.int .i64 p.under.n,.int .i64 p.under.r,.string p.key] 88)).cell? ⟨w5.heap.size,0,none⟩=some (.int .i64 p.at_.n):=by go_simp
      have z1:(w5.alloc (.cells #[.int .i64 p.at_.n,.int .i64 p.at_.r,.int .i64 p.block.n,.int .i64 p.block.r,.int .i64 p.under.n,.int .i64 p.under.r,.string p.key] 88)).cell? ⟨w5.heap.size,1,none⟩=some (.int .i64 p.at_.r):=by go_simp
      have z2:(w5.alloc (.cells #[.int .i64 p.at_.n,.int .i64 p.at_.r,.int .i64 p.block.n,.int .i64 p.block.r,.int .i64 p.under.n,.int .i64 p.under.r,.string p.key] 88)).cell? ⟨w5.heap.size,2,none⟩=some (.int .i64 p.block.n):=by go_simp
      have z3:(w5.alloc (.cells #[.int .i64 p.at_.n,.int .i64 p.at_.r,.int .i64 p.block.n,.int .i64 p.block.r,.int .i64 p.under.n,.int .i64 p.under.r,.string p.key] 88)).cell? ⟨w5.heap.size,3,none⟩=some (.int .i64 p.block.r):=by go_simp
      have z4:(w5.alloc (.cells #[.int .i64 p.at_.n,.int .i64 p.at_.r,.int .i64 p.block.n,.int .i64 p.block.r,.int .i64 p.under.n,.int .i64 p.under.r,.string p.key] 88)).cell? ⟨w5.heap.size,4,none⟩=some (.int .i64 p.under.n):=by go_simp
      have z5:(w5.alloc (.cells #[.int .i64 p.at_.n,.int .i64 p.at_.r,.int .i64 p.block.n,.int .i64 p.block.r,.int .i64 p.under.n,.int .i64 p.under.r,.string p.key] 88)).cell? ⟨w5.heap.size,5,none⟩=some (.int .i64 p.under.r):=by go_simp
      have z6:(w5.alloc (.cells #[.int .i64 p.at_.n,.int .i64 p.at_.r,.int .i64 p.block.n,.int .i64 p.block.r,.int .i64 p.under.n,.int .i64 p.under.r,.string p.key] 88)).cell? ⟨w5.heap.size,6,none⟩=some (.string p.key):=by go_simp
      have hgl:=(ho.blk g6 rfl).2
      have HT5:=Jh (hT5.below ((Below.refl _ _).alloc (Nat.le_refl _) (.cells #[.int .i64 p.at_.n,.int .i64 p.at_.r,.int .i64 p.block.n,.int .i64 p.block.r,.int .i64 p.under.n,.int .i64 p.under.r,.string p.key] 88)))
      have HF5:=Jh (hF5.alloc (.cells #[.int .i64 p.at_.n,.int .i64 p.at_.r,.int .i64 p.block.n,.int .i64 p.block.r,.int .i64 p.under.n,.int .i64 p.under.r,.string p.key] 88))
      have hneb:¬ w5.heap.size=g6:=by omega
      clear hT5 hF5 ho
      go_upto_region 16 with fail
      generalize w5.alloc (.cells #[.int .i64 p.at_.n,.int .i64 p.at_.r,.int .i64 p.block.n,.int .i64 p.block.r,.int .i64 p.under.n,.int .i64 p.under.r,.string p.key] 88)=wy at *
      clear p0 p1 p2 p3 p4 p5 p6 t0
      have t0:=HT5.out.c0
      have hoy:=HT5.out.2.1
      have q0:=hoy.cellI (j:=0) RMv.len HPQ.out.2 rfl
      have r0:=hoy.cellI (j:=0) RMv.len HPQ.out.1 rfl
      have f0:=hoy.freeI (j*7)
      have q1:=hoy.cellI (j:=1) RMv.len HPQ.out.2 rfl
      have r1:=hoy.cellI (j:=1) RMv.len HPQ.out.1 rfl
      have f1:=hoy.freeI (j*7+1)
      have q2:=hoy.cellI (j:=2) RMv.len HPQ.out.2 rfl
      have r2:=hoy.cellI (j:=2) RMv.len HPQ.out.1 rfl
      have f2:=hoy.freeI (j*7+2)
      have q3:=hoy.cellI (j:=3) RMv.len HPQ.out.2 rfl
      have r3:=hoy.cellI (j:=3) RMv.len HPQ.out.1 rfl
      have f3:=hoy.freeI (j*7+3)
      have q4:=hoy.cellI (j:=4) RMv.len HPQ.out.2 rfl
      have r4:=hoy.cellI (j:=4) RMv.len HPQ.out.1 rfl
      have f4:=hoy.freeI (j*7+4)
      have q5:=hoy.cellI (j:=5) RMv.len HPQ.out.2 rfl
      have r5:=hoy.cellI (j:=5) RMv.len HPQ.out.1 rfl
      have f5:=hoy.freeI (j*7+5)
      have q6:=hoy.cellI (j:=6) RMv.len HPQ.out.2 rfl
      have r6:=hoy.cellI (j:=6) RMv.len HPQ.out.1 rfl
      have f6:=hoy.freeI (j*7+6)
      simp only[Nat.add_zero] at q0 r0
      rw[HJQ.out] at q0 q1 q2 q3 q4 q5 q6
      have hje:=HJE.out
      obtain ⟨wd,hwd⟩:=Je (wy.drew)
      have hTd:YF B wd rb (.slice (some ⟨g6,0,none⟩) m cp6) zs:=by rw[←hwd];exact HT5.out.below (Below.refl _ _).drew
      have hFd:Ext (XH (.slice a L.length cap) rb) w wd:=by rw[←hwd];exact HF5.out.drew
      have hzd:wy.heap.size=wd.heap.size:=by rw[←hwd];rfl
      have hS0:wd.cell? ⟨rb,0,none⟩=some (.slice (some ⟨g6,0,none⟩) m cp6)∧wd.cell? ⟨g6,jq*7,none⟩=some (.int .i64 q.at_.n)∧wd.cell? ⟨g6,jq*7+1,none⟩=some (.int .i64 q.at_.r)∧wd.cell? ⟨g6,jq*7+2,none⟩=some (.int .i64 q.block.n)∧wd.cell? ⟨g6,jq*7+3,none⟩=some (.int .i64 q.block.r)∧wd.cell? ⟨g6,jq*7+4,none⟩=some (.int .i64 q.under.n)∧wd.cell? ⟨g6,jq*7+5,none⟩=some (.int .i64 q.under.r)∧wd.cell? ⟨g6,jq*7+6,none⟩=some (.string q.key):=by rw[←hwd];exact ⟨t0,q0,q1,q2,q3,q4,q5,q6⟩
      have u0:wd.cell? ⟨g6,j*7,none⟩=some (.int .i64 p.at_.n):=by rw[←hwd];exact r0
      have v0:wd.cell? ⟨w5.heap.size,0,none⟩=some (.int .i64 p.at_.n):=by rw[←hwd];exact z0
      have u1:wd.cell? ⟨g6,j*7+1,none⟩=some (.int .i64 p.at_.r):=by rw[←hwd];exact r1
      have v1:wd.cell? ⟨w5.heap.size,1,none⟩=some (.int .i64 p.at_.r):=by rw[←hwd];exact z1
      have u2:wd.cell? ⟨g6,j*7+2,none⟩=some (.int .i64 p.block.n):=by rw[←hwd];exact r2
      have v2:wd.cell? ⟨w5.heap.size,2,none⟩=some (.int .i64 p.block.n):=by rw[←hwd];exact z2
      have u3:wd.cell? ⟨g6,j*7+3,none⟩=some (.int .i64 p.block.r):=by rw[←hwd];exact r3
      have v3:wd.cell? ⟨w5.heap.size,3,none⟩=some (.int .i64 p.block.r):=by rw[←hwd];exact z3
      have u4:wd.cell? ⟨g6,j*7+4,none⟩=some (.int .i64 p.under.n):=by rw[←hwd];exact r4
      have v4:wd.cell? ⟨w5.heap.size,4,none⟩=some (.int .i64 p.under.n):=by rw[←hwd];exact z4
      have u5:wd.cell? ⟨g6,j*7+5,none⟩=some (.int .i64 p.under.r):=by rw[←hwd];exact r5
      have v5:wd.cell? ⟨w5.heap.size,5,none⟩=some (.int .i64 p.under.r):=by rw[←hwd];exact z5
      have u6:wd.cell? ⟨g6,j*7+6,none⟩=some (.string p.key):=by rw[←hwd];exact r6
      have v6:wd.cell? ⟨w5.heap.size,6,none⟩=some (.string p.key):=by rw[←hwd];exact z6
      clear z0 r0 f0 q0 z1 r1 f1 q1 z2 r2 f2 q2 z3 r3 f3 q3 z4 r4 f4 q4 z5 r5 f5 q5 z6 r6 f6 q6
      clear t0 hoy
      have hoy:=hTd.2.1
      have f0:=hoy.freeI (j*7)
      have f1:=hoy.freeI (j*7+1)
      have f2:=hoy.freeI (j*7+2)
      have f3:=hoy.freeI (j*7+3)
      have f4:=hoy.freeI (j*7+4)
      have f5:=hoy.freeI (j*7+5)
      have f6:=hoy.freeI (j*7+6)
      have hx1:Ext (·=g6) wd (((((((wd.setCell ⟨g6,j*7,none⟩ (.int .i64 q.at_.n)).setCell ⟨g6,j*7+1,none⟩ (.int .i64 q.at_.r)).setCell ⟨g6,j*7+2,none⟩ (.int .i64 q.block.n)).setCell ⟨g6,j*7+3,none⟩ (.int .i64 q.block.r)).setCell ⟨g6,j*7+4,none⟩ (.int .i64 q.under.n)).setCell ⟨g6,j*7+5,none⟩ (.int .i64 q.under.r)).setCell ⟨g6,j*7+6,none⟩ (.string q.key)):=YW (o:=j*7) (RMv.cells q) 0 wd
      have ho1:Own RMv.cells 7 88 B (((((((wd.setCell ⟨g6,j*7,none⟩ (.int .i64 q.at_.n)).setCell ⟨g6,j*7+1,none⟩ (.int .i64 q.at_.r)).setCell ⟨g6,j*7+2,none⟩ (.int .i64 q.block.n)).setCell ⟨g6,j*7+3,none⟩ (.int .i64 q.block.r)).setCell ⟨g6,j*7+4,none⟩ (.int .i64 q.under.n)).setCell ⟨g6,j*7+5,none⟩ (.int .i64 q.under.r)).setCell ⟨g6,j*7+6,none⟩ (.string q.key)) (.slice (some ⟨g6,0,none⟩) m cp6) (zs.set j q):=X9 (y:=q) RMv.len (by omega) hzl hoy HPQ.out.1
      have hnrb:¬ rb=g6:=fun e=>by
       obtain ⟨cur,hcur⟩:=hoy.tag (b:=g6) rfl
       rw[←e,hTd.1] at hcur
       cases hcur
      have hT1:YF B (((((((wd.setCell ⟨g6,j*7,none⟩ (.int .i64 q.at_.n)).setCell ⟨g6,j*7+1,none⟩ (.int .i64 q.at_.r)).setCell ⟨g6,j*7+2,none⟩ (.int .i64 q.block.n)).setCell ⟨g6,j*7+3,none⟩ (.int .i64 q.block.r)).setCell ⟨g6,j*7+4,none⟩ (.int .i64 q.under.n)).setCell ⟨g6,j*7+5,none⟩ (.int .i64 q.under.r)).setCell ⟨g6,j*7+6,none⟩ (.string q.key)) rb (.slice (some ⟨g6,0,none⟩) m cp6) (zs.set j q):=⟨(hx1.block rb (Array.getElem?_eq_some_iff.1 hTd.1).1 hnrb).trans hTd.1,ho1,hTd.2.2⟩
      have hF1:Ext (XH (.slice a L.length cap) rb) w (((((((wd.setCell ⟨g6,j*7,none⟩ (.int .i64 q.at_.n)).setCell ⟨g6,j*7+1,none⟩ (.int .i64 q.at_.r)).setCell ⟨g6,j*7+2,none⟩ (.int .i64 q.block.n)).setCell ⟨g6,j*7+3,none⟩ (.int .i64 q.block.r)).setCell ⟨g6,j*7+4,none⟩ (.int .i64 q.under.n)).setCell ⟨g6,j*7+5,none⟩ (.int .i64 q.under.r)).setCell ⟨g6,j*7+6,none⟩ (.string q.key)):=by
       rcases hg6 with hg|hg
       ·exact hFd.andThen hx1 (fun i hi e=>by omega)
       ·exact hFd.andThen hx1 (fun i hi e=>by rw[e];exact hg)
      have y0:=hx1.keep v0 hneb
      have y1:=hx1.keep v1 hneb
      have y2:=hx1.keep v2 hneb
      have y3:=hx1.keep v3 hneb
      have y4:=hx1.keep v4 hneb
      have y5:=hx1.keep v5 hneb
      have y6:=hx1.keep v6 hneb
      have HY0:=Lib.hid y0
      have HY1:=Lib.hid y1
      have HY2:=Lib.hid y2
      have HY3:=Lib.hid y3
      have HY4:=Lib.hid y4
      have HY5:=Lib.hid y5
      have HY6:=Lib.hid y6
      have HT1:=Lib.hid hT1
      have HF1:=Lib.hid hF1
      clear hx1 ho1 hT1 hF1 hoy hTd hFd v0 y0 v1 y1 v2 y2 v3 y3 v4 y4 v5 y5 v6 y6
      refine Zf (fun W=>W.cell? ⟨rb,0,none⟩=some (.slice (some ⟨g6,0,none⟩) m cp6)∧W.cell? ⟨g6,jq*7,none⟩=some (.int .i64 q.at_.n)∧W.cell? ⟨g6,jq*7+1,none⟩=some (.int .i64 q.at_.r)∧W.cell? ⟨g6,jq*7+2,none⟩=some (.int .i64 q.block.n)∧W.cell? ⟨g6,jq*7+3,none⟩=some (.int .i64 q.block.r)∧W.cell? ⟨g6,jq*7+4,none⟩=some (.int .i64 q.under.n)∧W.cell? ⟨g6,jq*7+5,none⟩=some (.int .i64 q.under.r)∧W.cell? ⟨g6,jq*7+6,none⟩=some (.string q.key)) (fun i=>i == 14) (by kernel_rfl) ?_
      rw[hwd]
      clear hwd HT5 HF5
      refine JR 0 109 _ rfl rfl hS0 (fun W hW=>by go_simp;rfl) ?_
      try simp only[Ja]
      refine JR 1 110 _ rfl rfl hS0 (fun W hW=>by go_simp;rfl) ?_
      try simp only[Ja]
      refine JR 2 111 _ rfl rfl hS0 (fun W hW=>by go_simp;rfl) ?_
      try simp only[Ja]
      refine JR 3 112 _ rfl rfl hS0 (fun W hW=>by obtain ⟨g10,g11,g12,g13,g14,g15,g16,g17⟩:=hW;go_simp;rfl) ?_
      try simp only[Ja]
      refine JR 4 113 _ rfl rfl hS0 (fun W hW=>by go_simp;rfl) ?_
      try simp only[Ja]
      refine JR 5 114 _ rfl rfl hS0 (fun W hW=>by go_simp;rfl) ?_
      try simp only[Ja]
      refine JR 6 115 _ rfl rfl hS0 (fun W hW=>by go_simp;rfl) ?_
      try simp only[Ja]
      refine JR 7 116 _ rfl rfl hS0 (fun W hW=>by go_simp;rfl) ?_
      try simp only[Ja]
      refine JR 8 117 _ rfl rfl hS0 (fun W hW=>by obtain ⟨g10,g11,g12,g13,g14,g15,g16,g17⟩:=hW;go_simp;rfl) ?_
      try simp only[Ja]
      refine JR 9 118 _ rfl rfl hS0 (fun W hW=>by go_simp;rfl) ?_
      try simp only[Ja]
      refine JR 10 119 _ rfl rfl hS0 (fun W hW=>by go_simp;rfl) ?_
      try simp only[Ja]
      refine JR 11 120 _ rfl rfl hS0 (fun W hW=>by go_simp;rfl) ?_
      try simp only[Ja]
      refine JR 12 121 _ rfl rfl hS0 (fun W hW=>by obtain ⟨g10,g11,g12,g13,g14,g15,g16,g17⟩:=hW;go_simp;rfl) ?_
      try simp only[Ja]
      refine JR 13 122 _ rfl rfl hS0 (fun W hW=>by go_simp;rfl) ?_
      try simp only[Ja]
      refine Zg (i:=14) (d:=none) (w':=(((((((wd.setCell ⟨g6,j*7,none⟩ (.int .i64 q.at_.n)).setCell ⟨g6,j*7+1,none⟩ (.int .i64 q.at_.r)).setCell ⟨g6,j*7+2,none⟩ (.int .i64 q.block.n)).setCell ⟨g6,j*7+3,none⟩ (.int .i64 q.block.r)).setCell ⟨g6,j*7+4,none⟩ (.int .i64 q.under.n)).setCell ⟨g6,j*7+5,none⟩ (.int .i64 q.under.r)).setCell ⟨g6,j*7+6,none⟩ (.string q.key))) (by kernel_rfl) rfl rfl (by rfl) (by go_simp;try rfl) (fun h=>by cases h) ?_
      try simp only[Ja]
      refine Zd (by kernel_rfl) ?_ _
      generalize (((((((wd.setCell ⟨g6,j*7,none⟩ (.int .i64 q.at_.n)).setCell ⟨g6,j*7+1,none⟩ (.int .i64 q.at_.r)).setCell ⟨g6,j*7+2,none⟩ (.int .i64 q.block.n)).setCell ⟨g6,j*7+3,none⟩ (.int .i64 q.block.r)).setCell ⟨g6,j*7+4,none⟩ (.int .i64 q.under.n)).setCell ⟨g6,j*7+5,none⟩ (.int .i64 q.under.r)).setCell ⟨g6,j*7+6,none⟩ (.string q.key))=wz at *
      clear hS0 u0 f0 u1 f1 u2 f2 u3 f3 u4 f4 u5 f5 u6 f6
      go_upto_region 17 with fail
      have t0:=HT1.out.c0
      obtain ⟨we,hwe⟩:=Je (wz.drew)
      have hTd:YF B we rb (.slice (some ⟨g6,0,none⟩) m cp6) (zs.set j q):=by rw[←hwe];exact HT1.out.below (Below.refl _ _).drew
      have hFd:Ext (XH (.slice a L.length cap) rb) w we:=by rw[←hwe];exact HF1.out.drew
      have hS0:we.cell? ⟨rb,0,none⟩=some (.slice (some ⟨g6,0,none⟩) m cp6)∧we.cell? ⟨w5.heap.size,0,none⟩=some (.int .i64 p.at_.n)∧we.cell? ⟨w5.heap.size,1,none⟩=some (.int .i64 p.at_.r)∧we.cell? ⟨w5.heap.size,2,none⟩=some (.int .i64 p.block.n)∧we.cell? ⟨w5.heap.size,3,none⟩=some (.int .i64 p.block.r)∧we.cell? ⟨w5.heap.size,4,none⟩=some (.int .i64 p.under.n)∧we.cell? ⟨w5.heap.size,5,none⟩=some (.int .i64 p.under.r)∧we.cell? ⟨w5.heap.size,6,none⟩=some (.string p.key):=by rw[←hwe];exact ⟨t0,HY0.out,HY1.out,HY2.out,HY3.out,HY4.out,HY5.out,HY6.out⟩
      have hoy:=hTd.2.1
      have hq1:(zs.set j q)[jq]?=some q:=by rw[List.getElem?_set,if_neg (by have:=HJQ.out;omega),←HJQ.out];exact HPQ.out.2
      have u0:=hoy.cellI (j:=0) RMv.len hq1 rfl
      have f0:=hoy.freeI (jq*7)
      have u1:=hoy.cellI (j:=1) RMv.len hq1 rfl
      have f1:=hoy.freeI (jq*7+1)
      have u2:=hoy.cellI (j:=2) RMv.len hq1 rfl
      have f2:=hoy.freeI (jq*7+2)
      have u3:=hoy.cellI (j:=3) RMv.len hq1 rfl
      have f3:=hoy.freeI (jq*7+3)
      have u4:=hoy.cellI (j:=4) RMv.len hq1 rfl
      have f4:=hoy.freeI (jq*7+4)
      have u5:=hoy.cellI (j:=5) RMv.len hq1 rfl
      have f5:=hoy.freeI (jq*7+5)
      have u6:=hoy.cellI (j:=6) RMv.len hq1 rfl
      have f6:=hoy.freeI (jq*7+6)
      simp only[Nat.add_zero] at u0
      have hx2:Ext (·=g6) we (((((((we.setCell ⟨g6,jq*7,none⟩ (.int .i64 p.at_.n)).setCell ⟨g6,jq*7+1,none⟩ (.int .i64 p.at_.r)).setCell ⟨g6,jq*7+2,none⟩ (.int .i64 p.block.n)).setCell ⟨g6,jq*7+3,none⟩ (.int .i64 p.block.r)).setCell ⟨g6,jq*7+4,none⟩ (.int .i64 p.under.n)).setCell ⟨g6,jq*7+5,none⟩ (.int .i64 p.under.r)).setCell ⟨g6,jq*7+6,none⟩ (.string p.key)):=YW (o:=jq*7) (RMv.cells p) 0 we
      have ho2:Own RMv.cells 7 88 B (((((((we.setCell ⟨g6,jq*7,none⟩ (.int .i64 p.at_.n)).setCell ⟨g6,jq*7+1,none⟩ (.int .i64 p.at_.r)).setCell ⟨g6,jq*7+2,none⟩ (.int .i64 p.block.n)).setCell ⟨g6,jq*7+3,none⟩ (.int .i64 p.block.r)).setCell ⟨g6,jq*7+4,none⟩ (.int .i64 p.under.n)).setCell ⟨g6,jq*7+5,none⟩ (.int .i64 p.under.r)).setCell ⟨g6,jq*7+6,none⟩ (.string p.key)) (.slice (some ⟨g6,0,none⟩) m cp6) ((zs.set j q).set jq p):=X9 (y:=p) RMv.len (by omega) (by rw[List.length_set];exact hzl) hoy hq1
      have hT2:YF B (((((((we.setCell ⟨g6,jq*7,none⟩ (.int .i64 p.at_.n)).setCell ⟨g6,jq*7+1,none⟩ (.int .i64 p.at_.r)).setCell ⟨g6,jq*7+2,none⟩ (.int .i64 p.block.n)).setCell ⟨g6,jq*7+3,none⟩ (.int .i64 p.block.r)).setCell ⟨g6,jq*7+4,none⟩ (.int .i64 p.under.n)).setCell ⟨g6,jq*7+5,none⟩ (.int .i64 p.under.r)).setCell ⟨g6,jq*7+6,none⟩ (.string p.key)) rb (.slice (some ⟨g6,0,none⟩) m cp6) (YG zs j p q):=⟨(hx2.block rb (Array.getElem?_eq_some_iff.1 hTd.1).1 hnrb).trans hTd.1,by unfold YG;rw[HJQ.out];exact ho2,hTd.2.2⟩
      have hF2:Ext (XH (.slice a L.length cap) rb) w (((((((we.setCell ⟨g6,jq*7,none⟩ (.int .i64 p.at_.n)).setCell ⟨g6,jq*7+1,none⟩ (.int .i64 p.at_.r)).setCell ⟨g6,jq*7+2,none⟩ (.int .i64 p.block.n)).setCell ⟨g6,jq*7+3,none⟩ (.int .i64 p.block.r)).setCell ⟨g6,jq*7+4,none⟩ (.int .i64 p.under.n)).setCell ⟨g6,jq*7+5,none⟩ (.int .i64 p.under.r)).setCell ⟨g6,jq*7+6,none⟩ (.string p.key)):=by
       rcases hg6 with hg|hg
       ·exact hFd.andThen hx2 (fun i hi e=>by omega)
       ·exact hFd.andThen hx2 (fun i hi e=>by rw[e];exact hg)
      have HN:=Jh (And.intro HSW.out (And.intro hT2 hF2))
      clear hx2 ho2 hT2 hF2 hoy hTd hFd t0 HT1 HF1 hq1 HY0 HY1 HY2 HY3 HY4 HY5 HY6
      refine Zf (fun W=>W.cell? ⟨rb,0,none⟩=some (.slice (some ⟨g6,0,none⟩) m cp6)∧W.cell? ⟨w5.heap.size,0,none⟩=some (.int .i64 p.at_.n)∧W.cell? ⟨w5.heap.size,1,none⟩=some (.int .i64 p.at_.r)∧W.cell? ⟨w5.heap.size,2,none⟩=some (.int .i64 p.block.n)∧W.cell? ⟨w5.heap.size,3,none⟩=some (.int .i64 p.block.r)∧W.cell? ⟨w5.heap.size,4,none⟩=some (.int .i64 p.under.n)∧W.cell? ⟨w5.heap.size,5,none⟩=some (.int .i64 p.under.r)∧W.cell? ⟨w5.heap.size,6,none⟩=some (.string p.key)) (fun i=>i == 8) (by kernel_rfl) ?_
      rw[hwe]
      clear hwe
      refine JR 0 123 _ rfl rfl hS0 (fun W hW=>by go_simp;rfl) ?_
      try simp only[Ja]
      refine JR 1 124 _ rfl rfl hS0 (fun W hW=>by go_simp;rfl) ?_
      try simp only[Ja]
      refine JR 2 125 _ rfl rfl hS0 (fun W hW=>by go_simp;rfl) ?_
      try simp only[Ja]
      refine JR 3 126 _ rfl rfl hS0 (fun W hW=>by obtain ⟨g10,g11,g12,g13,g14,g15,g16,g17⟩:=hW;go_simp;rfl) ?_
      try simp only[Ja]
      refine JR 4 127 _ rfl rfl hS0 (fun W hW=>by go_simp;rfl) ?_
      try simp only[Ja]
      refine JR 5 128 _ rfl rfl hS0 (fun W hW=>by go_simp;rfl) ?_
      try simp only[Ja]
      refine JR 6 129 _ rfl rfl hS0 (fun W hW=>by obtain ⟨g10,g11,g12,g13,g14,g15,g16,g17⟩:=hW;go_simp;rfl) ?_
      try simp only[Ja]
      refine JR 7 130 _ rfl rfl hS0 (fun W hW=>by go_simp;rfl) ?_
      try simp only[Ja]
      refine Zg (i:=8) (d:=none) (w':=(((((((we.setCell ⟨g6,jq*7,none⟩ (.int .i64 p.at_.n)).setCell ⟨g6,jq*7+1,none⟩ (.int .i64 p.at_.r)).setCell ⟨g6,jq*7+2,none⟩ (.int .i64 p.block.n)).setCell ⟨g6,jq*7+3,none⟩ (.int .i64 p.block.r)).setCell ⟨g6,jq*7+4,none⟩ (.int .i64 p.under.n)).setCell ⟨g6,jq*7+5,none⟩ (.int .i64 p.under.r)).setCell ⟨g6,jq*7+6,none⟩ (.string p.key))) (by kernel_rfl) rfl rfl (by rfl) (by go_simp;try rfl) (fun h=>by cases h) ?_
      try simp only[Ja]
      refine Zd (by kernel_rfl) ?_ _
      generalize (((((((we.setCell ⟨g6,jq*7,none⟩ (.int .i64 p.at_.n)).setCell ⟨g6,jq*7+1,none⟩ (.int .i64 p.at_.r)).setCell ⟨g6,jq*7+2,none⟩ (.int .i64 p.block.n)).setCell ⟨g6,jq*7+3,none⟩ (.int .i64 p.block.r)).setCell ⟨g6,jq*7+4,none⟩ (.int .i64 p.under.n)).setCell ⟨g6,jq*7+5,none⟩ (.int .i64 p.under.r)).setCell ⟨g6,jq*7+6,none⟩ (.string p.key))=wq at *
      clear hS0 hje u0 f0 u1 f1 u2 f2 u3 f3 u4 f4 u5 f5 u6 f6
      have hjz:((j - 1:Nat):Int)=(j:Int) - 1:=by omega
      go_wp2_with fail
      go_roundg (j - 1)
      case measure=>rw[HGJ.out];omega
      case rel=>exact ⟨j - 1,_,rfl,by omega,by simp;omega,by rw[VI];exact hzl,Jh (by rw[Xq zs hj0 HPQ.out.1 HPQ.out.2,if_pos rfl,←HPQ.out.1,hzx.out]),HN⟩
     ·have HN1:=hend _ HB5.out (hV.out.1.stands Sv (fun x' y' _ hx' hy'=>by
       rw[HPQ.out.1] at hx';rw[HPQ.out.2] at hy';cases hx';cases hy'
       have hpx:p=y:=by have:=hzx.out;rw[HPQ.out.1] at this;exact Option.some.inj this
       have hqM:q∈L:=by
        have h1:=hV.out.1.perm.mem_iff.1 (List.mem_of_getElem? HPQ.out.2)
        rcases List.mem_append.1 h1 with h1|h1
        ·exact h1
        ·have hnd:=hV.out.1.perm.nodup_iff.2 HND.out.1
         have hq:=HPQ.out.2
         rw[List.mem_singleton.1 h1,←hpx] at hq
         exact absurd rfl (YX.1 hnd (j - 1) j p p (by omega) hq HPQ.out.1)
       rcases Y5 q.at_ p.at_ with t|t|t
       ·exact t
       ·exact absurd (by rw[t,hpx]) (HND.out.2 q hqM)
       ·exact absurd (HVV.out.2 t) hlt))
      clear hV hend HVV HCM
      go_wp2_with fail
      go_ret
      exact HN1.out
    ·have HN0:=Jh (fun n=>(hend (wr.drewN n) (below_drewN (Below.refl _ _) n) (hV.out.1.stands Sv (fun x y h0 _ _=>absurd h0 hj0))).out)
     have hj1:¬ (0:Int)<(j:Int):=by omega
     clear hV hend
     go_upto_region 13 with fail
     go_quiet (fail)
     have HN1:=Jh (HN0.out nq)
     go_wp2_with fail
     go_ret
     exact HN1.out
section
variable {B:Nat} {w:World} {rb:Nat} {v:Value} {L:List RMv} {c:List (St × Ch)}
theorem Z1W (a b u:St) (key:ByteArray) (h:YF B w rb v L) (hBw:B≤w.heap.size) (hc:YP L c) (hl:L.length≤900) :
  Calls Tryz.prog 38 #[.pointer (some ⟨rb,0,none⟩),.agg #[.int .i64 a.n,.int .i64 a.r],.agg #[.int .i64 b.n,.int .i64 b.r],.agg #[.int .i64 u.n,.int .i64 u.r],.string key] w fun e w'=>V4 B w rb v c a b u key e w':=by
 have hbad:XW a b u=false→∀ (e:Ending) w',(e=.returned (.int .i64 1)∧Below w.heap.size w w')→V4 B w rb v c a b u key e w':=fun hg e w' ⟨he,hb⟩=>by
  have e1:Yo c a b u=1:=by unfold Yo;rw[if_neg (by rw[hg];decide)]
  exact ⟨v,L,by rw[he,e1],h.below hb,by rw[Qz (by rw[show Yo c a (Ch.mk b u key).block (Ch.mk b u key).under=1 from e1];decide)];exact hc,Ext.of_below hb⟩
 obtain ⟨an,ar⟩:=a
 obtain ⟨bn,br⟩:=b
 obtain ⟨un,ur⟩:=u
 cases h1:Z7 ⟨an,ar⟩ with
 | false=>exact (QH rb an ar bn br un ur key w h1).mono (hbad (by simp[XW,h1]))
 | true =>
  cases h2:Z7 ⟨bn,br⟩ with
  | false=>exact (Z0p rb an ar bn br un ur key w h1 h2).mono (hbad (by simp[XW,h2]))
  | true =>
   cases h3:Z7 ⟨un,ur⟩ with
   | true=>exact TW rb v L an ar bn br un ur key w h hBw hc hl h1 h2 (.inr h3)
   | false =>
    by_cases hu:un=0
    ·subst hu
     by_cases hr:ur=0
     ·subst hr
      exact TW rb v L an ar bn br 0 0 key w h hBw hc hl h1 h2 (.inl ⟨rfl,rfl⟩)
     ·exact (Z0b rb an ar bn br ur key w h1 h2 h3 hr).mono (hbad (by simp[XW,h3,hr]))
    ·exact (Z0u rb an ar bn br un ur key w h1 h2 h3 hu).mono (hbad (by simp[XW,h3,hu]))
def QE (w:World) (c:List (St × Ch)) (e:Ending) (w':World):Prop:=∃ v' A,e=.returned v'∧Own Ch.cells 5 53 w.heap.size w' v' A∧Zm (Y3 c) A∧Below w.heap.size w w'
theorem Z2D (h:YF B w rb v L) (hc:YP L c) (hl:L.length≤1000) :
  Calls Tryz.prog 39 #[.pointer (some ⟨rb,0,none⟩)] w fun e w'=>QE w c e w':=by
 obtain ⟨a,cap,rfl,hcap,hmax,_⟩:=h.2.1.slice RMv.len
 unfold maxLen at hmax
 have t0:=h.c0
 have HA:=Jh (Z0y rb _ L w h hc hl)
 clear h hc
 go_enter Tryz.func39,Tryz.ntmps39
 go_wp2_with fail
 refine HA.out.mono ?_
 rintro e w1 ⟨v1,v2,A,rfl,h1,h2,h3,h4⟩
 have HN:=Jh (And.intro h1 (And.intro h2 h4))
 clear h1 h2 h3 h4
 go_wp2_with fail
 go_ret
 exact ⟨_,A,rfl,HN.out.1,HN.out.2.1,HN.out.2.2⟩
end
structure Pl where
 blk:St
 name:ByteArray
 deriving DecidableEq
def Pl.val (p:Pl):Value:=.agg #[.int .i64 p.blk.n,.int .i64 p.blk.r,.string p.name]
theorem Z1Z:Tryz.prog.underlying 95=some (.struct (Tryz.prog.fieldsOf 95)):=by kernel_rfl
theorem Z2i (a b:Pl) (w:World):(Op.equal 95 a.val b.val).run Tryz.prog w=.ok (decide (a=b)) w:=by
 obtain ⟨⟨a1,a2⟩,a3⟩:=a
 obtain ⟨⟨b1,b2⟩,b3⟩:=b
 unfold Op.equal Op.maxDepth Pl.val
 go_simp
 have h3:=ZS a3 b3
 by_cases h1:a1=b1 <;> by_cases h2:a2=b2 <;> by_cases h4:a3=b3 <;> simp[h1,h2,h4,h3]
theorem Qs (em:Bool) (a:Pl) (w:World):(Instr.checkKey em 10000 95 a.val).run Tryz.prog w=.ok () w:=by
 obtain ⟨⟨a1,a2⟩,a3⟩:=a
 kernel_rfl
theorem WZ {V:Type}:WB (V:=V) Tryz.prog 95 Pl.val :=
 WB.of_equal Z1Z (fun a=>⟨_,rfl⟩) Qs Z2i (fun a=>by simp[Pl.val,Instr.sameBits,beq_toListBytes])
end Go.Proofs.YtlgipkemoldckaaGreatDoor
