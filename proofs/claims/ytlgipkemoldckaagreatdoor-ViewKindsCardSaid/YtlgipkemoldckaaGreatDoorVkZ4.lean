/- ViewKinds, part 4 of what the proof leans on (made short by a program). -/
import Derived.Test.YtlgipkemoldckaaGreatDoorVkZ3
set_option linter.unusedSimpArgs false
set_option linter.unusedVariables false
set_option linter.unusedSectionVars false
set_option maxRecDepth 20000
set_option maxHeartbeats 30000000
namespace Go.Proofs.YtlgipkemoldckaaGreatDoor
open Go.RowKit
def btc (b:Bool):List Value:=[.bool b]
theorem Sh (b:Bool):(btc b).length=1:=rfl
theorem QF (b:Bool):∀ u∈btc b,u.oneCell'=true:=by
 intro u hu
 simp only[btc,List.mem_cons,List.not_mem_nil,or_false] at hu
 subst hu
 rfl
theorem QN (W:World) (b:Bool):∀ j u,(btc b)[j]?=some u→(W.alloc (.cells #[.bool b] 4)).cell? ⟨W.heap.size,j,none⟩=some u:=by
 intro j u hj
 rw[World.cell?_alloc_at _ _ _ _ rfl,←hj,btc]
 simp
theorem Z1B:(Tryz.prog.info? 4).map (fun i=>(i.zero,i.size,i.bytes))=some (some (.bool false),1,1):=by kernel_rfl
theorem VE {α β:Type} {ea:α→List Value} {eb:β→List Value} {k k2:Nat} {e e2:TypeId} {B B2:Nat} {w:World} {v v2:Value} {l:List α} {l2:List β} (h:Own ea k e B w v l) (h2:Own eb k2 e2 B2 w v2 l2) (hne:e≠e2):∀ b,v.ownBlock=some b→¬ v2.ownBlock=some b:=fun b hb hb2=>by
 obtain ⟨c,hc⟩:=h.tag hb
 obtain ⟨c2,hc2⟩:=h2.tag hb2
 rw[hc] at hc2
 cases hc2
 exact hne rfl
def YM (B:Nat) (w:World) (rb:Nat) (v:Value) (L:List RMv):Prop :=
 w.heap[rb]?=some (.cells #[v] 85 (0,0))∧Own RMv.cells 7 88 B w v L∧B≤rb
theorem YM.below {B:Nat} {w w':World} {rb:Nat} {v:Value} {L:List RMv} (h:YM B w rb v L) (hb:Below w.heap.size w w'):YM B w' rb v L :=
 ⟨(hb.block rb (Array.getElem?_eq_some_iff.1 h.1).1).trans h.1,h.2.1.ext (Ext.of_below (S:=fun _=>False) hb) (fun _ _ h=>h),h.2.2⟩
theorem YM.c0 {B:Nat} {w:World} {rb:Nat} {v:Value} {L:List RMv} (h:YM B w rb v L):w.cell? ⟨rb,0,none⟩=some v:=by simp[World.cell?,h.1]
def Z1k (w:World) (c:List (St × Ch)) (e:Ending) (w':World):Prop :=
 ∃ v1 v2 A,e=.returned (.tuple #[v1,v2])∧Own Ch.cells 5 53 w.heap.size w' v1 A∧Zo (Y1 c) A∧Own btc 1 4 w.heap.size w' v2 (Xs c)∧Below w.heap.size w w'
structure WJ (w:World) (c:List (St × Ch)) (wr:World) (k:Nat) (v1 v2:Value) (A:List Ch):Prop where
 all:Zo (Y1 (c.take k)) A
 own:Own Ch.cells 5 53 w.heap.size wr v1 A
 took:Own btc 1 4 w.heap.size wr v2 (Xs (c.take k))
 frame:Below w.heap.size w wr
theorem WJ.below {w:World} {c:List (St × Ch)} {wr w':World} {k:Nat} {v1 v2:Value} {A:List Ch} (h:WJ w c wr k v1 v2 A) (hb:Below wr.heap.size wr w'):WJ w c w' k v1 v2 A :=
 ⟨h.all,h.own.ext (Ext.of_below (S:=fun _=>False) hb) (fun _ _ h=>h),h.took.ext (Ext.of_below (S:=fun _=>False) hb) (fun _ _ h=>h),h.frame.trans (hb.mono h.frame.size)⟩
theorem WJ.len {w:World} {c:List (St × Ch)} {wr:World} {k:Nat} {v1 v2:Value} {A:List Ch} (h:WJ w c wr k v1 v2 A):A.length≤k:=by
 have h0:Zo (UL ((c.take k).map (·.2))) A:=h.all
 have:=h0.length
 rw[List.length_map,List.length_take] at this
 omega
theorem U2 {α:Type} {ea:α→List Value} {q:Nat} {T:TypeId} {base:Nat} {w:World} {a:Option Addr} {n cap:Nat} {l:List α} (h:Own ea q T base w (.slice a n cap) l) (hk:∀ x,(ea x).length=q):n=l.length∧n≤cap∧cap≤9223372036854775807:=by
 obtain ⟨a,c,e1,h2,h3,h4⟩:=h.slice hk
 cases e1
 exact ⟨rfl,h2,by unfold maxLen at h3;exact h3⟩
theorem WJ.noted {w:World} {c:List (St × Ch)} {wr w':World} {k:Nat} {v1 v2 v3:Value} {A:List Ch} {x:St × Ch} {b:Bool} (h:WJ w c wr k v1 v2 A) (hx:c[k]?=some x) (ht:WD (Y1 (c.take k)) x.2=b)
  (h3:Own btc 1 4 w.heap.size w' v3 (Xs (c.take k)++[b])) (hx3:Ext (fun b=>v2.ownBlock=some b) wr w') :
  Own Ch.cells 5 53 w.heap.size w' v1 A∧Own btc 1 4 w.heap.size w' v3 (Xs (c.take (k+1)))∧Below w.heap.size w w' :=
 ⟨h.own.ext hx3 (VE h.own h.took (by decide)),by rw[Z0t hx,ht];exact h3,Ext.new h.frame hx3 (fun i hi _ e=>by have:=(h.took.blk i e).1;omega) h.frame.size⟩
theorem Z0n (rb:Nat) (v:Value) (L:List RMv) (w:World) {B:Nat} (h:YM B w rb v L) {c:List (St × Ch)} (hc:YT L c) (hl:L.length≤1000) :
  Calls Tryz.prog 57 #[.pointer (some ⟨rb,0,none⟩),.int .i64 L.length] w fun e w'=>Z1k w c e w':=by
 obtain ⟨a,cap,rfl,hcap,hmax,_⟩:=h.2.1.slice RMv.len
 unfold maxLen at hmax
 obtain ⟨i0,hi,hz0,hz1,hz2⟩:=info_parts Xw
 obtain ⟨i1,hi1,hy0,hy1,hy2⟩:=info_parts Z1B
 have hcl:=hc.len
 have HC:=Lib.hid hc
 have HT:=Lib.hid h
 have HCL:=Lib.hid hcl
 clear h hc hcl
 go_enter Tryz.func57,Tryz.ntmps57
 go_wp2_with fail
 go_loopg [6,7,8] L.length (fun g lv tv iv wr=>∃ (k:Nat) (s t:SlK) (A:List Ch),g=L.length - k∧k≤L.length∧lv=.slice s.a s.n s.cap∧tv=.slice t.a t.n t.cap∧iv=.int .i64 k∧Hid (WJ w c wr k (.slice s.a s.n s.cap) (.slice t.a t.n t.cap) A))
 case atStart=>exact ⟨0,⟨none,0,0⟩,⟨none,0,0⟩,[],by omega,by omega,rfl,rfl,rfl,Lib.hid ⟨Zo.nil,Own.nil,Own.nil,Below.refl _ _⟩⟩
 case round =>
  obtain ⟨k,⟨sa,sn,sc⟩,⟨ta,tn,tc⟩,A,hg,hk,rfl,rfl,rfl,hU⟩:=hrel
  dsimp only at hU ⊢
  have HGG:=Lib.hid hg
  clear hg
  by_cases hkl:k<L.length
  ·obtain ⟨x,hx⟩:∃ x,L[k]?=some x:=⟨_,List.getElem?_eq_getElem hkl⟩
   have hcx:c[k]?=some (UX x):=by rw[←HC.out.1,List.getElem?_map,hx];rfl
   have HCX:=Lib.hid hcx
   have hT:=HT.out.below hU.out.frame
   have t0:=hT.c0
   obtain ⟨b,o,c1,e1,h1⟩:=(hT.2.1.slice RMv.len).rcells (by intro e;rw[e] at hkl;simp at hkl)
   cases e1
   obtain ⟨x0,x1,x2,x3,x4,x5,x6⟩:=h1 k x hx
   have hkk:(k:Int)<(L.length:Int):=by omega
   have hb5:Below wr.heap.size wr (wr.alloc (.cells #[.int .i64 x.at_.n,.int .i64 x.at_.r,.int .i64 x.block.n,.int .i64 x.block.r,.int .i64 x.under.n,.int .i64 x.under.r,.string x.key] 88)):=(Below.refl _ _).alloc (Nat.le_refl _) _
   have hU5:=hU.out.below hb5
   have z0:(wr.alloc (.cells #[.int .i64 x.at_.n,.int .i64 x.at_.r,.int .i64 x.block.n,.int .i64 x.block.r,.int .i64 x.under.n,.int .i64 x.under.r,.string x.key] 88)).cell? ⟨wr.heap.size,0,none⟩=some (.int .i64 x.at_.n):=by go_simp
   have z1:(wr.alloc (.cells #[.int .i64 x.at_.n,.int .i64 x.at_.r,.int .i64 x.block.n,.int .i64 x.block.r,.int .i64 x.under.n,.int .i64 x.under.r,.string x.key] 88)).cell? ⟨wr.heap.size,1,none⟩=some (.int .i64 x.at_.r):=by go_simp
   have z2:(wr.alloc (.cells #[.int .i64 x.at_.n,.int .i64 x.at_.r,.int .i64 x.block.n,.int .i64 x.block.r,.int .i64 x.under.n,.int .i64 x.under.r,.string x.key] 88)).cell? ⟨wr.heap.size,2,none⟩=some (.int .i64 x.block.n):=by go_simp
   have z3:(wr.alloc (.cells #[.int .i64 x.at_.n,.int .i64 x.at_.r,.int .i64 x.block.n,.int .i64 x.block.r,.int .i64 x.under.n,.int .i64 x.under.r,.string x.key] 88)).cell? ⟨wr.heap.size,3,none⟩=some (.int .i64 x.block.r):=by go_simp
   have z4:(wr.alloc (.cells #[.int .i64 x.at_.n,.int .i64 x.at_.r,.int .i64 x.block.n,.int .i64 x.block.r,.int .i64 x.under.n,.int .i64 x.under.r,.string x.key] 88)).cell? ⟨wr.heap.size,4,none⟩=some (.int .i64 x.under.n):=by go_simp
   have z5:(wr.alloc (.cells #[.int .i64 x.at_.n,.int .i64 x.at_.r,.int .i64 x.block.n,.int .i64 x.block.r,.int .i64 x.under.n,.int .i64 x.under.r,.string x.key] 88)).cell? ⟨wr.heap.size,5,none⟩=some (.int .i64 x.under.r):=by go_simp
   have z6:(wr.alloc (.cells #[.int .i64 x.at_.n,.int .i64 x.at_.r,.int .i64 x.block.n,.int .i64 x.block.r,.int .i64 x.under.n,.int .i64 x.under.r,.string x.key] 88)).cell? ⟨wr.heap.size,6,none⟩=some (.string x.key):=by go_simp
   have hAl:=hU.out.len
   obtain ⟨hsn,hc2,hc3⟩:=U2 hU.out.own Ch.len
   obtain ⟨htn,hd2,hd3⟩:=U2 hU.out.took Sh
   have htl:(Xs (c.take k)).length=k:=by rw[Wu,List.length_take];have:=HCL.out;omega
   have HU5:=Lib.hid hU5
   have HTL:=Lib.hid htl
   have htn2:tn≤1000:=by omega
   have hsn2:sn≤1000:=by omega
   have HSN:=Lib.hid hsn
   have HTN:=Lib.hid htn
   have HTB:=Jh (fun b hb=>(hU.out.took.blk b hb).2)
   clear hcx hx h1 hT hU hb5 hU5 htl hsn htn
   go_upto_region 7 with fail
   generalize wr.alloc (.cells #[.int .i64 x.at_.n,.int .i64 x.at_.r,.int .i64 x.block.n,.int .i64 x.block.r,.int .i64 x.under.n,.int .i64 x.under.r,.string x.key] 88)=w5 at *
   clear x0 x1 x2 x3 x4 x5 x6 t0
   have HWI:=Jh (QC (.slice sa sn sc) A x.under.n x.under.r x.block.n x.block.r w5 (HU5.out.own.slice Ch.len) (by omega) HU5.out.all (YV _) (VH _))
   go_wp2_with fail
   refine HWI.out.mono ?_
   rintro e w6 ⟨rfl,b6⟩
   have hU6:=HU5.out.below b6
   replace z0:=Z0 b6 z0
   replace z1:=Z0 b6 z1
   replace z2:=Z0 b6 z2
   replace z3:=Z0 b6 z3
   replace z4:=Z0 b6 z4
   replace z5:=Z0 b6 z5
   replace z6:=Z0 b6 z6
   have hsz6:=hU6.frame.size
   have htk:=Z1V (Y1 (c.take k)) x.ch
   obtain ⟨rr,hrr⟩:=Je (upB (Y1 (c.take k)) ⟨x.under.n,x.under.r⟩ ⟨x.block.n,x.block.r⟩)
   rw[show upB (Y1 (c.take k)) x.ch.under x.ch.block=rr from hrr] at htk
   rw[hrr]
   have HTK:=Lib.hid htk
   have HU6:=Lib.hid hU6
   clear hU6 htk hrr b6 HWI HU5
   cases rr
   ·have htr:True:=trivial
    go_wp2_with (at_builtin;refine Zq rfl _ _ _ rfl i1 _ 1 Tryz.underlying123 hi1 hy0 hy1 hy2 rfl (by omega) Sh QF rfl (HU6.out.took.alloc _) true w6.heap.size 1 rfl (QN _ true) (by unfold maxLen;have:=HTL.out;omega) (by have:=HTL.out;omega) (by simp;omega) ?_)
    intro v' w7 hown7 hx7
    obtain ⟨⟨ua,un,uc⟩,e7⟩:∃ s:SlK,v'=.slice s.a s.n s.cap:=by
     rcases hown7.eq_slice with ⟨e,_⟩|⟨g,c,e,_⟩
     ·exact ⟨⟨_,_,_⟩,e⟩
     ·exact ⟨⟨_,_,_⟩,e⟩
    dsimp only at e7
    subst e7
    have hU6a:=HU6.out.below ((Below.refl _ _).alloc (Nat.le_refl _) (.cells #[.bool true] 4))
    have h7:=hU6a.noted HCX.out HTK.out hown7 hx7
    have hzk:∀ i u,w6.cell? ⟨wr.heap.size,i,none⟩=some u→w7.cell? ⟨wr.heap.size,i,none⟩=some u:=fun i u hu=>hx7.keep (Z1 hu _) (fun e=>by have:=HTB.out _ e;omega)
    replace z0:=hzk _ _ z0
    replace z1:=hzk _ _ z1
    replace z2:=hzk _ _ z2
    replace z3:=hzk _ _ z3
    replace z4:=hzk _ _ z4
    replace z5:=hzk _ _ z5
    replace z6:=hzk _ _ z6
    have hst:=SU HCX.out
    rw[show (UX x).2=x.ch from rfl,Ub HTK.out] at hst
    have HST:=Lib.hid hst
    have hsz7:=h7.2.2.size
    have HO7:=Lib.hid h7
    clear hzk h7 hU6a hown7 hx7 hst
    have v0:=Z1 z0 (.cells #[.int .i64 x.block.n,.int .i64 x.block.r,.int .i64 x.under.n,.int .i64 x.under.r,.string x.key] 53)
    have v1:=Z1 z1 (.cells #[.int .i64 x.block.n,.int .i64 x.block.r,.int .i64 x.under.n,.int .i64 x.under.r,.string x.key] 53)
    have v2:=Z1 z2 (.cells #[.int .i64 x.block.n,.int .i64 x.block.r,.int .i64 x.under.n,.int .i64 x.under.r,.string x.key] 53)
    have v3:=Z1 z3 (.cells #[.int .i64 x.block.n,.int .i64 x.block.r,.int .i64 x.under.n,.int .i64 x.under.r,.string x.key] 53)
    have v4:=Z1 z4 (.cells #[.int .i64 x.block.n,.int .i64 x.block.r,.int .i64 x.under.n,.int .i64 x.under.r,.string x.key] 53)
    have v5:=Z1 z5 (.cells #[.int .i64 x.block.n,.int .i64 x.block.r,.int .i64 x.under.n,.int .i64 x.under.r,.string x.key] 53)
    have v6:=Z1 z6 (.cells #[.int .i64 x.block.n,.int .i64 x.block.r,.int .i64 x.under.n,.int .i64 x.under.r,.string x.key] 53)
    have y0:(w7.alloc (.cells #[.int .i64 x.block.n,.int .i64 x.block.r,.int .i64 x.under.n,.int .i64 x.under.r,.string x.key] 53)).cell? ⟨w7.heap.size,0,none⟩=some (.int .i64 x.block.n):=by go_simp
    have y1:(w7.alloc (.cells #[.int .i64 x.block.n,.int .i64 x.block.r,.int .i64 x.under.n,.int .i64 x.under.r,.string x.key] 53)).cell? ⟨w7.heap.size,1,none⟩=some (.int .i64 x.block.r):=by go_simp
    have y2:(w7.alloc (.cells #[.int .i64 x.block.n,.int .i64 x.block.r,.int .i64 x.under.n,.int .i64 x.under.r,.string x.key] 53)).cell? ⟨w7.heap.size,2,none⟩=some (.int .i64 x.under.n):=by go_simp
    have y3:(w7.alloc (.cells #[.int .i64 x.block.n,.int .i64 x.block.r,.int .i64 x.under.n,.int .i64 x.under.r,.string x.key] 53)).cell? ⟨w7.heap.size,3,none⟩=some (.int .i64 x.under.r):=by go_simp
    have y4:(w7.alloc (.cells #[.int .i64 x.block.n,.int .i64 x.block.r,.int .i64 x.under.n,.int .i64 x.under.r,.string x.key] 53)).cell? ⟨w7.heap.size,4,none⟩=some (.string x.key):=by go_simp
    have h8:Own Ch.cells 5 53 w.heap.size (w7.alloc (.cells #[.int .i64 x.block.n,.int .i64 x.block.r,.int .i64 x.under.n,.int .i64 x.under.r,.string x.key] 53)) (.slice sa sn sc) A∧Own btc 1 4 w.heap.size (w7.alloc (.cells #[.int .i64 x.block.n,.int .i64 x.block.r,.int .i64 x.under.n,.int .i64 x.under.r,.string x.key] 53)) (.slice ua un uc) (Xs (c.take (k+1)))∧Below w.heap.size w (w7.alloc (.cells #[.int .i64 x.block.n,.int .i64 x.block.r,.int .i64 x.under.n,.int .i64 x.under.r,.string x.key] 53)):=⟨HO7.out.1.alloc _,HO7.out.2.1.alloc _,HO7.out.2.2.alloc hsz7 _⟩
    have hs8:(w7.alloc (.cells #[.int .i64 x.block.n,.int .i64 x.block.r,.int .i64 x.under.n,.int .i64 x.under.r,.string x.key] 53)).heap.size=w7.heap.size+1:=by simp
    have H8:=Lib.hid h8
    have HS8:=Lib.hid hs8
    clear h8 hs8
    go_upto_region 11 with fail
    generalize w7.alloc (.cells #[.int .i64 x.block.n,.int .i64 x.block.r,.int .i64 x.under.n,.int .i64 x.under.r,.string x.key] 53)=w8 at *
    clear z0 z1 z2 z3 z4 z5 z6 HO7
    have HFI:=Jh (UG (.slice sa sn sc) A x.block.n x.block.r w8 (H8.out.1.slice Ch.len) (by omega))
    have HFD:=Jh (HU6.out.all.find (YV _) (b:=x.block))
    go_wp2_with fail
    refine HFI.out.mono ?_
    rintro e w9 ⟨rfl,b9⟩
    have hO9:=H8.out.1.ext (Ext.of_below (S:=fun _=>False) b9) (fun _ _ h=>h)
    have hT9:=H8.out.2.1.ext (Ext.of_below (S:=fun _=>False) b9) (fun _ _ h=>h)
    have hB9:=H8.out.2.2.trans (b9.mono H8.out.2.2.size)
    replace y0:=Z0 b9 y0
    replace y1:=Z0 b9 y1
    replace y2:=Z0 b9 y2
    replace y3:=Z0 b9 y3
    replace y4:=Z0 b9 y4
    have hs9:=b9.size
    rw[HS8.out] at hs9
    clear v0 v1 v2 v3 v4 v5 v6 b9 HFI
    rcases HFD.out with ⟨f1,f2⟩|⟨i,y,f1,f2,f3,f4⟩
    ·have hfi:Yz A ⟨x.block.n,x.block.r⟩=-1:=by unfold Yz;rw[f1]
     rw[hfi]
     have HF2:=Lib.hid f2
     obtain ⟨rfl,hcc1,hcc2⟩:=U2 hO9 Ch.len
     have hbk:=hO9.blk
     have HBK:=Lib.hid hbk
     have HT9:=Jh (And.intro hT9 hB9)
     have hsz9:=hB9.size
     clear hfi f1 f2 HFD H8 hbk hT9
     go_wp2_with (at_builtin;refine Zq rfl _ _ _ rfl i0 _ 48 Tryz.underlying48 hi hz0 hz1 hz2 rfl (by omega) Ch.len Ch.one rfl (hO9.alloc _) x.ch w9.heap.size 1 rfl (UK _ x.ch) (by unfold maxLen;omega) (by omega) (by simp;omega) ?_)
     intro v' w3 hown3 hx3
     obtain ⟨g3,c3,e3⟩:∃ g3 c3,v'=.slice (some ⟨g3,0,none⟩) (A++[x.ch]).length c3:=by
      rcases hown3.eq_slice with ⟨_,e⟩|⟨g,c,e,_⟩
      ·simp at e
      ·exact ⟨g,c,e⟩
     subst e3
     have hB3:=Ext.new (hB9.alloc hB9.size (.cells #[.int .i64 x.block.n,.int .i64 x.block.r,.int .i64 x.under.n,.int .i64 x.under.r,.string x.key] 53)) hx3 (fun i hi _ e=>by have:=(HBK.out i e).1;omega) (by simp;omega)
     have hT3:=(HT9.out.1.alloc (.cells #[.int .i64 x.block.n,.int .i64 x.block.r,.int .i64 x.under.n,.int .i64 x.under.r,.string x.key] 53)).ext hx3 (VE (HT9.out.1.alloc (.cells #[.int .i64 x.block.n,.int .i64 x.block.r,.int .i64 x.under.n,.int .i64 x.under.r,.string x.key] 53)) (hO9.alloc (.cells #[.int .i64 x.block.n,.int .i64 x.block.r,.int .i64 x.under.n,.int .i64 x.under.r,.string x.key] 53)) (by decide))
     obtain ⟨-,hc3,hm3⟩:=hown3.lenI Ch.len
     have hins:=Vd (R:=BLt) HU6.out.all.2 x.ch
     obtain ⟨mm,hmm⟩:=Je (A.length)
     have hlm:(A++[x.ch]).length=mm+1:=by simp[hmm]
     rw[hmm] at hins hAl
     rw[hlm] at hown3 hc3 ⊢
     have HI0:Hid (Wg BLt (A++[x.ch]) (A++[x.ch]) mm∧Own Ch.cells 5 53 w.heap.size w3 (.slice (some ⟨g3,0,none⟩) (mm+1) c3) (A++[x.ch])∧Own btc 1 4 w.heap.size w3 (.slice ua un uc) (Xs (c.take (k+1)))∧Below w.heap.size w w3):=Lib.hid ⟨hins,hown3,hT3,hB3⟩
     have HND:Hid ((A++[x.ch]).Nodup∧∀ q∈A,q.block≠x.block):=Jh (by
      have hq:∀ q∈A,q.block≠x.block:=fun q hq e=>by
       have:=(HU6.out.all.1 q).1 hq
       rw[e,HF2.out] at this
       cases this
      refine ⟨?_,hq⟩
      rw[List.nodup_append]
      refine ⟨HU6.out.all.2.imp (fun {a b} h e=>by rw[e] at h;exact Zm _ h),by simp,fun a ha b hb e=>?_⟩
      rw[List.mem_singleton] at hb
      subst hb
      exact hq a ha (by rw[e];rfl))
     have HMM:=Lib.hid hmm
     have HLM:=Lib.hid hlm
     clear hown3 hx3 hB3 hins hmm hlm hT3 hO9 hB9 HT9 HBK y0 y1 y2 y3 y4
     obtain ⟨m,hm⟩:=Je (mm+1)
     have hm1:(m:Int) - 1=(mm:Int):=by omega
     rw[hm] at HI0 HLM hc3 ⊢
     have HM:=Lib.hid hm
     have hmb:m≤1001:=by omega
     go_wp2_with fail
     go_loopg [13] mm (fun g jv wr=>∃ (j:Nat) (zs:List Ch),g=j∧j≤mm∧jv=.int .i64 j∧zs.length=m∧Hid (zs[j]?=some x.ch)∧Hid (Wg BLt (A++[x.ch]) zs j∧Own Ch.cells 5 53 w.heap.size wr (.slice (some ⟨g3,0,none⟩) m c3) zs∧Own btc 1 4 w.heap.size wr (.slice ua un uc) (Xs (c.take (k+1)))∧Below w.heap.size w wr))
     case atStart=>exact ⟨mm,_,rfl,by omega,by simp,HLM.out,Jh (by rw[List.getElem?_append_right (by rw[HMM.out];omega),HMM.out,Nat.sub_self];rfl),HI0⟩
     case round =>
      obtain ⟨j,zs,hg,hj,rfl,hzl,hzx,hV⟩:=hrel
      have HGJ:=Lib.hid hg
      clear hg
      have hdone:∀ W,Below wr.heap.size wr W→zs.Pairwise BLt→Hid (WJ w c W (k+1) (.slice (some ⟨g3,0,none⟩) m c3) (.slice ua un uc) zs):=fun W hW h=>Lib.hid ⟨by rw[HST.out];exact HU6.out.all.insert (YV _) HF2.out hV.out.1.perm h,hV.out.2.1.ext (Ext.of_below (S:=fun _=>False) hW) (fun _ _ h=>h),hV.out.2.2.1.ext (Ext.of_below (S:=fun _=>False) hW) (fun _ _ h=>h),hV.out.2.2.2.trans (hW.mono hV.out.2.2.2.size)⟩
      by_cases hj0:0<j
      ·obtain ⟨p,hp⟩:∃ p,zs[j]?=some p:=⟨_,List.getElem?_eq_getElem (by omega)⟩
       obtain ⟨q,hq⟩:∃ q,zs[j - 1]?=some q:=⟨_,List.getElem?_eq_getElem (by omega)⟩
       have ho:=hV.out.2.1
       have p0:=ho.cellI (j:=0) Ch.len hp rfl
       have p1:=ho.cellI (j:=1) Ch.len hp rfl
       have q0:=ho.cellI (j:=0) Ch.len hq rfl
       have q1:=ho.cellI (j:=1) Ch.len hq rfl
       simp only[Nat.add_zero] at p0 q0
       have hj1:(0:Int)<(j:Int):=by omega
       have hjz:((j - 1:Nat):Int)=(j:Int) - 1:=by omega
       have HPQ:=Jh (And.intro hp hq)
       have hcm:=X4 p.block.n p.block.r q.block.n q.block.r
       obtain ⟨cv,hcv⟩:=Je (Yd ⟨p.block.n,p.block.r⟩ ⟨q.block.n,q.block.r⟩)
       rw[hcv] at hcm
       have HCM:=Lib.hid hcm
       have hvv:=WA p.block q.block
       rw[show Yd p.block q.block=cv from hcv] at hvv
       have HVV:=Lib.hid hvv
       have hja:(0:Int)≤(j:Int):=by omega
       have hjb:(j:Int)<(m:Int):=by omega
       obtain ⟨jq,hjq⟩:∃ jq:Nat,j - 1=jq:=⟨_,rfl⟩
       rw[hjq] at q0 q1
       have hjc:(0:Int)≤(jq:Int):=by omega
       have hjd:(jq:Int)<(m:Int):=by omega
       have hje:IntKind.i64.wrap ((j:Int) - 1)=(jq:Int):=by rw[show (j:Int) - 1=(jq:Int) by omega];exact IntWalk.i64_in _ (by omega)
       have HJQ:=Lib.hid hjq
       clear hjz hjq
       clear ho hp hq hcm hcv hvv
       go_upto_region 16 with fail
       go_region_held3 (fun W=>W.cell? ⟨g3,j*5,none⟩=some (.int .i64 p.block.n)∧W.cell? ⟨g3,j*5+1,none⟩=some (.int .i64 p.block.r)∧W.cell? ⟨g3,jq*5,none⟩=some (.int .i64 q.block.n)∧W.cell? ⟨g3,jq*5+1,none⟩=some (.int .i64 q.block.r)) (first|exact ⟨p0,p1,q0,q1⟩|exact ⟨Z0 b5 p0,Z0 b5 p1,Z0 b5 q0,Z0 b5 q1⟩) (first|(go_at_call 23;((with_reducible refine (HCM.out _).mono ?_);rintro e w5 ⟨rfl,b5⟩;simp only[Y4,ZU] at b5)))
       have HB5:=Lib.hid b5
       clear b5 p0 p1 q0 q1 hja hjb hjc hjd hje
       have hjz:((j - 1:Nat):Int)=(j:Int) - 1:=by omega
       by_cases hlt:cv<0
       ·have HSW:=Jh (hV.out.1.swap hj0 HPQ.out.1 HPQ.out.2 (HVV.out.1 hlt))
        have ho:=hV.out.2.1.ext (Ext.of_below (S:=fun _=>False) HB5.out) (fun _ _ h=>h)
        have hbx:=hV.out.2.2.2.trans (HB5.out.mono hV.out.2.2.2.size)
        have HTX:=Jh (hV.out.2.2.1.ext (Ext.of_below (S:=fun _=>False) HB5.out) (fun _ _ h=>h))
        have HTA:=Jh (VE HTX.out ho (by decide))
        clear hV hdone HCM HVV HB5
        have p0:=ho.cellI (j:=0) Ch.len HPQ.out.1 rfl
        have p1:=ho.cellI (j:=1) Ch.len HPQ.out.1 rfl
        have p2:=ho.cellI (j:=2) Ch.len HPQ.out.1 rfl
        have p3:=ho.cellI (j:=3) Ch.len HPQ.out.1 rfl
        have p4:=ho.cellI (j:=4) Ch.len HPQ.out.1 rfl
        simp only[Nat.add_zero] at p0
        have hgb:=ho.blk g3 rfl
        have hoy:=ho.alloc (.cells #[.int .i64 p.block.n,.int .i64 p.block.r,.int .i64 p.under.n,.int .i64 p.under.r,.string p.key] 53)
        have hby:=hbx.alloc hbx.size (.cells #[.int .i64 p.block.n,.int .i64 p.block.r,.int .i64 p.under.n,.int .i64 p.under.r,.string p.key] 53)
        have z0:(w5.alloc (.cells #[.int .i64 p.block.n,.int .i64 p.block.r,.int .i64 p.under.n,.int .i64 p.under.r,.string p.key] 53)).cell? ⟨w5.heap.size,0,none⟩=some (.int .i64 p.block.n):=by go_simp
        have z1:(w5.alloc (.cells #[.int .i64 p.block.n,.int .i64 p.block.r,.int .i64 p.under.n,.int .i64 p.under.r,.string p.key] 53)).cell? ⟨w5.heap.size,1,none⟩=some (.int .i64 p.block.r):=by go_simp
        have z2:(w5.alloc (.cells #[.int .i64 p.block.n,.int .i64 p.block.r,.int .i64 p.under.n,.int .i64 p.under.r,.string p.key] 53)).cell? ⟨w5.heap.size,2,none⟩=some (.int .i64 p.under.n):=by go_simp
        have z3:(w5.alloc (.cells #[.int .i64 p.block.n,.int .i64 p.block.r,.int .i64 p.under.n,.int .i64 p.under.r,.string p.key] 53)).cell? ⟨w5.heap.size,3,none⟩=some (.int .i64 p.under.r):=by go_simp
        have z4:(w5.alloc (.cells #[.int .i64 p.block.n,.int .i64 p.block.r,.int .i64 p.under.n,.int .i64 p.under.r,.string p.key] 53)).cell? ⟨w5.heap.size,4,none⟩=some (.string p.key):=by go_simp
        have HTY:=Jh (HTX.out.alloc (.cells #[.int .i64 p.block.n,.int .i64 p.block.r,.int .i64 p.under.n,.int .i64 p.under.r,.string p.key] 53))
        have HOY:=Jh (And.intro hoy hby)
        clear hoy hby
        go_upto_region 19 with fail
        generalize w5.alloc (.cells #[.int .i64 p.block.n,.int .i64 p.block.r,.int .i64 p.under.n,.int .i64 p.under.r,.string p.key] 53)=wy at *
        clear p0 p1 p2 p3 p4
        obtain ⟨hoy,hby⟩:=HOY.out
        have q0:=hoy.cellI (j:=0) Ch.len HPQ.out.2 rfl
        have f0:=hoy.freeI (j*5)
        have r0:=hoy.cellI (j:=0) Ch.len HPQ.out.1 rfl
        have q1:=hoy.cellI (j:=1) Ch.len HPQ.out.2 rfl
        have f1:=hoy.freeI (j*5+1)
        have r1:=hoy.cellI (j:=1) Ch.len HPQ.out.1 rfl
        have q2:=hoy.cellI (j:=2) Ch.len HPQ.out.2 rfl
        have f2:=hoy.freeI (j*5+2)
        have r2:=hoy.cellI (j:=2) Ch.len HPQ.out.1 rfl
        have q3:=hoy.cellI (j:=3) Ch.len HPQ.out.2 rfl
        have f3:=hoy.freeI (j*5+3)
        have r3:=hoy.cellI (j:=3) Ch.len HPQ.out.1 rfl
        have q4:=hoy.cellI (j:=4) Ch.len HPQ.out.2 rfl
        have f4:=hoy.freeI (j*5+4)
        have r4:=hoy.cellI (j:=4) Ch.len HPQ.out.1 rfl
        simp only[Nat.add_zero] at q0 r0
        have ho1:Own Ch.cells 5 53 w.heap.size (((((wy.setCell ⟨g3,j*5,none⟩ (.int .i64 q.block.n)).setCell ⟨g3,j*5+1,none⟩ (.int .i64 q.block.r)).setCell ⟨g3,j*5+2,none⟩ (.int .i64 q.under.n)).setCell ⟨g3,j*5+3,none⟩ (.int .i64 q.under.r)).setCell ⟨g3,j*5+4,none⟩ (.string q.key)) (.slice (some ⟨g3,0,none⟩) m c3) (zs.set j q):=X9 (y:=q) Ch.len (by omega) hzl hoy HPQ.out.1
        have hb1:Below w.heap.size _ (((((wy.setCell ⟨g3,j*5,none⟩ (.int .i64 q.block.n)).setCell ⟨g3,j*5+1,none⟩ (.int .i64 q.block.r)).setCell ⟨g3,j*5+2,none⟩ (.int .i64 q.under.n)).setCell ⟨g3,j*5+3,none⟩ (.int .i64 q.under.r)).setCell ⟨g3,j*5+4,none⟩ (.string q.key)):=(((((hby.setCell hgb.1 _).setCell hgb.1 _).setCell hgb.1 _).setCell hgb.1 _).setCell hgb.1 _)
        have hx1:Ext (·=g3) wy (((((wy.setCell ⟨g3,j*5,none⟩ (.int .i64 q.block.n)).setCell ⟨g3,j*5+1,none⟩ (.int .i64 q.block.r)).setCell ⟨g3,j*5+2,none⟩ (.int .i64 q.under.n)).setCell ⟨g3,j*5+3,none⟩ (.int .i64 q.under.r)).setCell ⟨g3,j*5+4,none⟩ (.string q.key)):=X1 (o:=j*5) (Ch.cells q) 0 wy
        have hne:¬ w5.heap.size=g3:=by omega
        replace z0:=hx1.keep z0 hne
        replace z1:=hx1.keep z1 hne
        replace z2:=hx1.keep z2 hne
        replace z3:=hx1.keep z3 hne
        replace z4:=hx1.keep z4 hne
        have HTZ:=Jh (HTY.out.ext hx1 (fun b hb e=>HTA.out b hb (by rw[←e];rfl)))
        have HO1:=Jh (And.intro ho1 hb1)
        clear ho1 hb1 hx1 hoy hby HOY
        have HZ0:=Lib.hid z0
        have HZ1:=Lib.hid z1
        have HZ2:=Lib.hid z2
        have HZ3:=Lib.hid z3
        have HZ4:=Lib.hid z4
        clear z0 z1 z2 z3 z4
        go_upto_region 20 with fail
        generalize (((((wy.setCell ⟨g3,j*5,none⟩ (.int .i64 q.block.n)).setCell ⟨g3,j*5+1,none⟩ (.int .i64 q.block.r)).setCell ⟨g3,j*5+2,none⟩ (.int .i64 q.under.n)).setCell ⟨g3,j*5+3,none⟩ (.int .i64 q.under.r)).setCell ⟨g3,j*5+4,none⟩ (.string q.key))=wz at *
        clear q0 f0 r0 q1 f1 r1 q2 f2 r2 q3 f3 r3 q4 f4 r4
        obtain ⟨ho1,hb1⟩:=HO1.out
        have z0:=HZ0.out
        have z1:=HZ1.out
        have z2:=HZ2.out
        have z3:=HZ3.out
        have z4:=HZ4.out
        have f0:=ho1.freeI ((j - 1)*5)
        have f1:=ho1.freeI ((j - 1)*5+1)
        have f2:=ho1.freeI ((j - 1)*5+2)
        have f3:=ho1.freeI ((j - 1)*5+3)
        have f4:=ho1.freeI ((j - 1)*5+4)
        have hq1:(zs.set j q)[j - 1]?=some q:=by rw[List.getElem?_set,if_neg (by omega)];exact HPQ.out.2
        have e0:=ho1.cellI (j:=0) Ch.len hq1 rfl
        have e1:=ho1.cellI (j:=1) Ch.len hq1 rfl
        have e2:=ho1.cellI (j:=2) Ch.len hq1 rfl
        have e3:=ho1.cellI (j:=3) Ch.len hq1 rfl
        have e4:=ho1.cellI (j:=4) Ch.len hq1 rfl
        simp only[Nat.add_zero] at e0
        have ho2:Own Ch.cells 5 53 w.heap.size (((((wz.setCell ⟨g3,(j - 1)*5,none⟩ (.int .i64 p.block.n)).setCell ⟨g3,(j - 1)*5+1,none⟩ (.int .i64 p.block.r)).setCell ⟨g3,(j - 1)*5+2,none⟩ (.int .i64 p.under.n)).setCell ⟨g3,(j - 1)*5+3,none⟩ (.int .i64 p.under.r)).setCell ⟨g3,(j - 1)*5+4,none⟩ (.string p.key)) (.slice (some ⟨g3,0,none⟩) m c3) (YL zs j p q):=X9 (y:=p) Ch.len (by omega) (by rw[List.length_set];exact hzl) ho1 hq1
        have hb2:Below w.heap.size _ (((((wz.setCell ⟨g3,(j - 1)*5,none⟩ (.int .i64 p.block.n)).setCell ⟨g3,(j - 1)*5+1,none⟩ (.int .i64 p.block.r)).setCell ⟨g3,(j - 1)*5+2,none⟩ (.int .i64 p.under.n)).setCell ⟨g3,(j - 1)*5+3,none⟩ (.int .i64 p.under.r)).setCell ⟨g3,(j - 1)*5+4,none⟩ (.string p.key)):=(((((hb1.setCell hgb.1 _).setCell hgb.1 _).setCell hgb.1 _).setCell hgb.1 _).setCell hgb.1 _)
        clear ho1 hb1 hq1 HO1 HZ0 HZ1 HZ2 HZ3 HZ4
        have HN:Hid (Wg BLt (A++[x.ch]) (YL zs j p q) (j - 1)∧Own Ch.cells 5 53 w.heap.size (((((wz.setCell ⟨g3,(j - 1)*5,none⟩ (.int .i64 p.block.n)).setCell ⟨g3,(j - 1)*5+1,none⟩ (.int .i64 p.block.r)).setCell ⟨g3,(j - 1)*5+2,none⟩ (.int .i64 p.under.n)).setCell ⟨g3,(j - 1)*5+3,none⟩ (.int .i64 p.under.r)).setCell ⟨g3,(j - 1)*5+4,none⟩ (.string p.key)) (.slice (some ⟨g3,0,none⟩) m c3) (YL zs j p q)∧Own btc 1 4 w.heap.size (((((wz.setCell ⟨g3,(j - 1)*5,none⟩ (.int .i64 p.block.n)).setCell ⟨g3,(j - 1)*5+1,none⟩ (.int .i64 p.block.r)).setCell ⟨g3,(j - 1)*5+2,none⟩ (.int .i64 p.under.n)).setCell ⟨g3,(j - 1)*5+3,none⟩ (.int .i64 p.under.r)).setCell ⟨g3,(j - 1)*5+4,none⟩ (.string p.key)) (.slice ua un uc) (Xs (c.take (k+1)))∧Below w.heap.size w (((((wz.setCell ⟨g3,(j - 1)*5,none⟩ (.int .i64 p.block.n)).setCell ⟨g3,(j - 1)*5+1,none⟩ (.int .i64 p.block.r)).setCell ⟨g3,(j - 1)*5+2,none⟩ (.int .i64 p.under.n)).setCell ⟨g3,(j - 1)*5+3,none⟩ (.int .i64 p.under.r)).setCell ⟨g3,(j - 1)*5+4,none⟩ (.string p.key))):=Lib.hid ⟨HSW.out,ho2,HTZ.out.ext (X1 (o:=(j - 1)*5) (Ch.cells p) 0 wz) (fun b hb e=>HTA.out b hb (by rw[←e];rfl)),hb2⟩
        clear ho2 hb2 ho hbx hgb hne
        go_wp2_with fail
        go_roundg (j - 1)
        case measure=>rw[HGJ.out];omega
        case rel=>exact ⟨j - 1,_,rfl,by omega,by simp;omega,by rw[Vz];exact hzl,Jh (by rw[Xu zs hj0 HPQ.out.1 HPQ.out.2,if_pos rfl,←HPQ.out.1,hzx.out]),HN⟩
       ·have HN1:=hdone _ HB5.out (hV.out.1.stands VI (fun x' y' _ hx' hy'=>by
         rw[HPQ.out.1] at hx';rw[HPQ.out.2] at hy';cases hx';cases hy'
         have hpx:p=x.ch:=by have:=hzx.out;rw[HPQ.out.1] at this;exact Option.some.inj this
         have hqM:q∈A:=by
          have h1:=hV.out.1.perm.mem_iff.1 (List.mem_of_getElem? HPQ.out.2)
          rcases List.mem_append.1 h1 with h1|h1
          ·exact h1
          ·have hnd:=hV.out.1.perm.nodup_iff.2 HND.out.1
           have hq:=HPQ.out.2
           rw[List.mem_singleton.1 h1,←hpx] at hq
           exact absurd rfl (X2.1 hnd (j - 1) j p p (by omega) hq HPQ.out.1)
         rcases Y8 q.block p.block with t|t|t
         ·exact t
         ·exact absurd (by rw[t,hpx];rfl) (HND.out.2 q hqM)
         ·exact absurd (HVV.out.2 t) hlt))
        clear hV hdone HVV HCM
        go_wp2_with fail
        go_roundg (L.length - (k+1))
        case measure=>rw[HGG.out];omega
        case rel=>exact ⟨k+1,⟨_,_,_⟩,⟨_,_,_⟩,zs,rfl,by omega,rfl,rfl,by simp,HN1⟩
      ·have HN0:=Jh (fun n=>(hdone (wr.drewN n) (below_drewN (Below.refl _ _) n) (hV.out.1.stands VI (fun x y h0 _ _=>absurd h0 hj0))).out)
       have hj1:¬ (0:Int)<(j:Int):=by omega
       clear hV hdone
       go_upto_region 16 with fail
       go_quiet (fail)
       have HN1:=Jh (HN0.out nq)
       go_wp2_with fail
       go_roundg (L.length - (k+1))
       case measure=>rw[HGG.out];omega
       case rel=>exact ⟨k+1,⟨_,_,_⟩,⟨_,_,_⟩,zs,rfl,by omega,rfl,rfl,by simp,HN1⟩
    ·have hfi:Yz A ⟨x.block.n,x.block.r⟩=(i:Int):=by unfold Yz;rw[f1]
     rw[hfi]
     obtain ⟨hsnn,hcc1,hcc2⟩:=U2 hO9 Ch.len
     have hil:=(List.getElem?_eq_some_iff.1 f2).1
     obtain ⟨g,rfl⟩:∃ g,sa=some ⟨g,0,none⟩:=by
      rcases hO9.eq_slice with ⟨_,e⟩|⟨g,c,e,_⟩
      ·rw[e] at hil;simp at hil
      ·simp only[Value.slice.injEq] at e;exact ⟨g,e.1⟩
     have hgb:=hO9.blk g rfl
     have hi0:(0:Int)≤(i:Int):=by omega
     have hi1':(i:Int)<(sn:Int):=by omega
     have r0:=hO9.cellI (j:=0) Ch.len f2 rfl
     have f5:=hO9.freeI (i*5)
     have r1:=hO9.cellI (j:=1) Ch.len f2 rfl
     have f6:=hO9.freeI (i*5+1)
     have r2:=hO9.cellI (j:=2) Ch.len f2 rfl
     have f7:=hO9.freeI (i*5+2)
     have r3:=hO9.cellI (j:=3) Ch.len f2 rfl
     have f8:=hO9.freeI (i*5+3)
     have r4:=hO9.cellI (j:=4) Ch.len f2 rfl
     have f9:=hO9.freeI (i*5+4)
     simp only[Nat.add_zero] at r0
     have ho1:Own Ch.cells 5 53 w.heap.size (((((w9.setCell ⟨g,i*5,none⟩ (.int .i64 x.block.n)).setCell ⟨g,i*5+1,none⟩ (.int .i64 x.block.r)).setCell ⟨g,i*5+2,none⟩ (.int .i64 x.under.n)).setCell ⟨g,i*5+3,none⟩ (.int .i64 x.under.r)).setCell ⟨g,i*5+4,none⟩ (.string x.key)) (.slice (some ⟨g,0,none⟩) sn sc) (A.set i x.ch):=X9 (y:=x.ch) Ch.len (by omega) hsnn.symm hO9 f2
     have hb1:Below w.heap.size w (((((w9.setCell ⟨g,i*5,none⟩ (.int .i64 x.block.n)).setCell ⟨g,i*5+1,none⟩ (.int .i64 x.block.r)).setCell ⟨g,i*5+2,none⟩ (.int .i64 x.under.n)).setCell ⟨g,i*5+3,none⟩ (.int .i64 x.under.r)).setCell ⟨g,i*5+4,none⟩ (.string x.key)):=Us (o:=i*5) hgb.1 (Ch.cells x.ch) 0 w9 hB9
     have hx1:Ext (·=g) w9 (((((w9.setCell ⟨g,i*5,none⟩ (.int .i64 x.block.n)).setCell ⟨g,i*5+1,none⟩ (.int .i64 x.block.r)).setCell ⟨g,i*5+2,none⟩ (.int .i64 x.under.n)).setCell ⟨g,i*5+3,none⟩ (.int .i64 x.under.r)).setCell ⟨g,i*5+4,none⟩ (.string x.key)):=X1 (o:=i*5) (Ch.cells x.ch) 0 w9
     have ht1:=hT9.ext hx1 (fun b hb e=>VE hT9 hO9 (by decide) b hb (by rw[←e];rfl))
     have HN:Hid (WJ w c (((((w9.setCell ⟨g,i*5,none⟩ (.int .i64 x.block.n)).setCell ⟨g,i*5+1,none⟩ (.int .i64 x.block.r)).setCell ⟨g,i*5+2,none⟩ (.int .i64 x.under.n)).setCell ⟨g,i*5+3,none⟩ (.int .i64 x.under.r)).setCell ⟨g,i*5+4,none⟩ (.string x.key)) (k+1) (.slice (some ⟨g,0,none⟩) sn sc) (.slice ua un uc) (A.set i x.ch)):=Lib.hid ⟨by rw[HST.out];exact HU6.out.all.setAt (YV _) f2 f4,ho1,ht1,hb1⟩
     clear ho1 hb1 hx1 ht1 hO9 hT9 hB9 f1 f2 f3 f4 hfi HFD H8 hil hsnn
     go_wp2_with fail
     go_roundg (L.length - (k+1))
     case measure=>rw[HGG.out];omega
     case rel=>exact ⟨k+1,⟨_,_,_⟩,⟨_,_,_⟩,_,rfl,by omega,rfl,rfl,by simp,HN⟩
   ·have hst:=SU HCX.out
    rw[show (UX x).2=x.ch from rfl,UA HTK.out] at hst
    have HST:=Lib.hid hst
    clear hst
    go_wp2_with (at_builtin;refine Zq rfl _ _ _ rfl i1 _ 1 Tryz.underlying123 hi1 hy0 hy1 hy2 rfl (by omega) Sh QF rfl (HU6.out.took.alloc _) false w6.heap.size 1 rfl (QN _ false) (by unfold maxLen;have:=HTL.out;omega) (by have:=HTL.out;omega) (by simp;omega) ?_)
    intro v' w7 hown7 hx7
    obtain ⟨⟨ua,un,uc⟩,e7⟩:∃ s:SlK,v'=.slice s.a s.n s.cap:=by
     rcases hown7.eq_slice with ⟨e,_⟩|⟨g,c,e,_⟩
     ·exact ⟨⟨_,_,_⟩,e⟩
     ·exact ⟨⟨_,_,_⟩,e⟩
    dsimp only at e7
    subst e7
    have hU6a:=HU6.out.below ((Below.refl _ _).alloc (Nat.le_refl _) (.cells #[.bool false] 4))
    have h7:=hU6a.noted HCX.out HTK.out hown7 hx7
    have HN:Hid (WJ w c w7 (k+1) (.slice sa sn sc) (.slice ua un uc) A):=Lib.hid ⟨by rw[HST.out];exact HU6.out.all,h7.1,h7.2.1,h7.2.2⟩
    clear h7 hU6a hown7 hx7
    go_wp2_with fail
    go_roundg (L.length - (k+1))
    case measure=>rw[HGG.out];omega
    case rel=>exact ⟨k+1,⟨_,_,_⟩,⟨_,_,_⟩,_,rfl,by omega,rfl,rfl,by simp,HN⟩
  ·obtain rfl:k=L.length:=by omega
   have hkk:¬ (L.length:Int)<(L.length:Int):=by omega
   have e1:c.take L.length=c:=List.take_of_length_le (by have:=HCL.out;omega)
   have hA:=hU.out.all
   have hK:=hU.out.took
   rw[e1] at hA hK
   have HN:=Jh (And.intro hA (And.intro hK (And.intro hU.out.own hU.out.frame)))
   clear hU hA hK e1 hkl hk
   go_wp2_with fail
   exact bodyPost_ret (v:=.tuple #[.slice sa sn sc,.slice ta tn tc]) (by simp[results,Tryz.results57,go_sem]) rfl ⟨_,_,A,rfl,HN.out.2.2.1,HN.out.1,HN.out.2.1,HN.out.2.2.2⟩
end Go.Proofs.YtlgipkemoldckaaGreatDoor
namespace Go.Proofs.YtlgipkemoldckaaGreatDoor
open Go
section
variable {P:Program} {ops:Array Oper} {Q:Exit→Act→World→Prop} {md:Region.Mode} {S:World→Prop} {Z:Nat→Bool}
def Zu (P:Program) (md:Region.Mode) (ops:Array Oper) (Q:Exit→Act→World→Prop) (S:World→Prop) (Z:Nat→Bool):Nat→Array Bool→Act→World→Prop
 | 0,listed,a,w=>Region.ready md ops listed=[]∧Q .normal a w
 | fuel+1,listed,a,w =>
  (Region.ready md ops listed=[]→Q .normal a w) ∧
  ∀ i∈Region.ready md ops listed,wpOp P ops Q i (fun a' w'=>(Z i=false→S w')∧Zu P md ops Q S Z fuel (listed.setIfInBounds i true) a' w') a w
theorem TK:∀ (fuel:Nat) (listed:Array Bool) (a:Act) (w:World),Zu P md ops Q S Z fuel listed a w→wpAny P md ops Q fuel listed a w
 | 0,_,_,_,h=>h
 | fuel+1,_,_,_,h=>⟨h.1,fun i hi=>wpOp_mono (fun a' w' h'=>TK fuel _ a' w' h'.2) (h.2 i hi)⟩
def QY (listed:Array Bool) (js:List Nat):Array Bool:=js.foldl (fun l j=>l.setIfInBounds j true) listed
theorem Uc {k:Nat}:∀ (js:List Nat) (listed:Array Bool),(QY listed js).getD k true=false→listed.getD k true=false
 | [],_,h=>h
 | j :: js,listed,h=>by
  have h1:=Uc js (listed.setIfInBounds j true) h
  by_cases hjk:j=k
  ·subst hjk
   by_cases hs:j<listed.size
   ·simp[hs] at h1
   ·simp[hs] at h1
  ·rwa [getD_set_ne true hjk] at h1
theorem Tk {k:Nat}:∀ (js:List Nat) (listed:Array Bool),k∉js→listed.getD k true=false→(QY listed js).getD k true=false
 | [],_,_,h=>h
 | j :: js,listed,hn,h=>Tk js _ (fun e=>hn (by simp[e])) (by rw[getD_set_ne true (fun e=>hn (by simp[e]))];exact h)
theorem SD {listed:Array Bool} {k:Nat} (h:listed.getD k true=false):listed.getD k false=false:=by
 by_cases hs:k<listed.size
 ·simp[hs] at h ⊢;exact h
 ·simp[hs] at h
def XZ (md:Region.Mode) (ops:Array Oper) (i:Nat) (oi:Oper) (listed:Array Bool):Prop :=
 i∈Region.ready md ops listed∧∀ js,i∉js→∀ j oj,j∈Region.ready md ops (QY listed js)→j≠i→ops[j]?=some oj→(∀ e∈oj.after,Region.binds md e=true→e.on≠i)∧oi.apart ops oj=true
theorem XZ.step {i j:Nat} {oi:Oper} {listed:Array Bool} (h:XZ md ops i oi listed) (hj:j≠i):XZ md ops i oi (listed.setIfInBounds j true) :=
 ⟨ready_mono h.1 (Ne.symm hj),fun js hn=>h.2 (j :: js) (by simp[hn,Ne.symm hj])⟩
theorem XZ.of_free {i:Nat} {oi:Oper} {listed:Array Bool} (hi:ops[i]?=some oi) (hr:i∈Region.ready md ops listed) (hf:Region.free md ops listed i=true):XZ md ops i oi listed:=by
 refine ⟨hr,fun js hn j oj hj hji hoj=>?_⟩
 obtain ⟨hun,o,ho,hall⟩:=mem_ready.1 hj
 rw[hoj] at ho
 cases ho
 have hno:∀ e∈oj.after,Region.binds md e=true→e.on≠i:=fun e he hb hei=>by
  have h1:=hall e he hb
  rw[hei,SD (Tk js listed hn (mem_ready.1 hr).1)] at h1
  cases h1
 exact ⟨hno,Region.free_spec hi hf j oj hoj hji (Uc js listed hun) hno⟩
theorem US {fuel:Nat} {listed:Array Bool} {a:Act} {w:World} (h:Zu P md ops Q S Z fuel listed a w) {j:Nat} (hj:j∈Region.ready md ops listed) :
  ∃ n,fuel=n+1∧wpOp P ops Q j (fun a' w'=>(Z j=false→S w')∧Zu P md ops Q S Z n (listed.setIfInBounds j true) a' w') a w:=by
 cases fuel with
 | zero=>exact absurd (h.1 ▸ hj:j∈[]) (by simp)
 | succ n=>exact ⟨n,rfl,h.2 j hj⟩
def Rk (md:Region.Mode) (ops:Array Oper) (Z:Nat→Bool) (listed:Array Bool) (i:Nat):Bool :=
 (List.range ops.size).all fun j=>listed.getD j true || !Z j || (match ops[j]? with
  | some o=>o.after.any fun e=>Region.binds md e && e.on == i
  | none=>true)
theorem Qr {i j:Nat} {oj:Oper} {listed:Array Bool} (h:Rk md ops Z listed i=true) (hz:Z j=true) (hu:listed.getD j true=false) (hj:ops[j]?=some oj):∃ e∈oj.after,Region.binds md e=true∧e.on=i:=by
 have hjs:j<ops.size:=(Array.getElem?_eq_some_iff.1 hj).1
 have:=List.all_eq_true.1 h j (List.mem_range.2 hjs)
 rw[hz,hj,hu] at this
 simp only[Bool.not_true,Bool.false_or,Array.any_eq_true,Bool.and_eq_true,beq_iff_eq] at this
 obtain ⟨k,hk,h1,h2⟩:=this
 exact ⟨_,Array.getElem_mem hk,h1,h2⟩
theorem RC {i:Nat} {oi:Oper} {v:Value} (hi:ops[i]?=some oi)
  (hsel:∀ (j:Nat) (o:Oper) cs b,ops[j]?=some o→o.op≠.select cs b) (hQ:∀ c a w,Q (.panic c) (a.put oi.dst v) w→Q (.panic c) a w) (hiz:Z i=false) (fuel:Nat) :
  ∀ (listed:Array Bool) (a:Act) (w:World),(∀ j oj,Z j=true→listed.getD j true=false→ops[j]?=some oj→∃ e∈oj.after,Region.binds md e=true∧e.on=i)→XZ md ops i oi listed→YieldsIf P ops S oi v a→S w →
   Zu P md ops Q S Z fuel (listed.setIfInBounds i true) (a.put oi.dst v) w→Zu P md ops Q S Z (fuel+1) listed a w:=by
 induction fuel using Nat.strongRecOn with
 | _ fuel ih =>
  intro listed a w hwait hA hy hS H
  refine ⟨fun h0=>absurd (h0 ▸ hA.1:i∈[]) (by simp),fun j hj=>?_⟩
  rcases Decidable.em (j=i) with hji|hji
  ·rw[hji]
   exact hy.wpOp hi hS ⟨fun _=>hS,H⟩
  ·obtain ⟨n,rfl,hop⟩:=US H (ready_mono hj hji)
   obtain ⟨oj,hoj⟩:∃ oj,ops[j]?=some oj:=by
    obtain ⟨_,oj,hoj,_⟩:=mem_ready.1 hj
    exact ⟨oj,hoj⟩
   obtain ⟨hno,hap⟩:=hA.2 [] (by simp) j oj hj hji hoj
   have hjz:Z j=false:=by
    cases hz:Z j with
    | false=>rfl
    | true =>
     obtain ⟨e,he,hb,hei⟩:=hwait j oj hz (mem_ready.1 hj).1 hoj
     exact absurd hei (hno e he hb)
   refine wpOp_mono ?_ (wpOp_putIf hoj hap (fun cs b=>hsel i oi cs b hi) (fun cs b=>hsel j oj cs b hoj) hQ hy hop)
   rintro a' w' ⟨hy',hS',H'⟩
   rw[Array.setIfInBounds_comm _ _ (Ne.symm hji)] at H'
   exact ⟨hS',ih n (Nat.lt_succ_self n) _ a' w' (fun q oq hq hu=>hwait q oq hq (Uc [j] listed hu)) (hA.step hji) hy' (hS' hjz) H'⟩
theorem Rb {i:Nat} {oi:Oper} {v:Value} (hi:ops[i]?=some oi)
  (hsel:∀ (j:Nat) (o:Oper) cs b,ops[j]?=some o→o.op≠.select cs b) (hQ:∀ c a w,Q (.panic c) (a.put oi.dst v) w→Q (.panic c) a w) (hiz:Z i=true) (fuel:Nat) :
  ∀ (listed:Array Bool) (a:Act) (w:World),XZ md ops i oi listed→YieldsIf P ops (fun _=>True) oi v a →
   Zu P md ops Q S Z fuel (listed.setIfInBounds i true) (a.put oi.dst v) w→Zu P md ops Q S Z (fuel+1) listed a w:=by
 induction fuel using Nat.strongRecOn with
 | _ fuel ih =>
  intro listed a w hA hy H
  refine ⟨fun h0=>absurd (h0 ▸ hA.1:i∈[]) (by simp),fun j hj=>?_⟩
  rcases Decidable.em (j=i) with hji|hji
  ·rw[hji]
   exact hy.wpOp hi trivial ⟨fun h=>(by rw[hiz] at h;cases h),H⟩
  ·obtain ⟨n,rfl,hop⟩:=US H (ready_mono hj hji)
   obtain ⟨oj,hoj⟩:∃ oj,ops[j]?=some oj:=by
    obtain ⟨_,oj,hoj,_⟩:=mem_ready.1 hj
    exact ⟨oj,hoj⟩
   obtain ⟨hno,hap⟩:=hA.2 [] (by simp) j oj hj hji hoj
   refine wpOp_mono ?_ (wpOp_putIf hoj hap (fun cs b=>hsel i oi cs b hi) (fun cs b=>hsel j oj cs b hoj) hQ hy hop)
   rintro a' w' ⟨hy',hS',H'⟩
   rw[Array.setIfInBounds_comm _ _ (Ne.symm hji)] at H'
   exact ⟨hS',ih n (Nat.lt_succ_self n) _ a' w' (hA.step hji) hy' H'⟩
theorem Xi {i:Nat} {oi:Oper} {d:Option Tmp} {v:Value} {fuel:Nat} {listed:Array Bool} {a:Act} {w:World} (hi:ops[i]?=some oi) (hd:oi.dst=d) (hiz:Z i=false) (hwait:Rk md ops Z listed i=true)
  (hs:Region.noSelect ops=true) (hf:Region.free md ops listed i=true) (hr:(Region.ready md ops listed).contains i=true)
  (hQ:∀ c a w,Q (.panic c) (a.put d v) w→Q (.panic c) a w) (hy:YieldsIf P ops S oi v a) (hS:S w)
  (h:Zu P md ops Q S Z fuel (listed.setIfInBounds i true) (a.put d v) w):Zu P md ops Q S Z (fuel+1) listed a w:=by
 subst hd
 exact RC hi (Region.noSelect_spec hs) hQ hiz fuel listed a w (fun j oj hz hu hj=>Qr hwait hz hu hj) (XZ.of_free hi (by simpa using hr) hf) hy hS h
theorem Ja:(∀ (T:Array Value) (D:List Deferred) (d:Tmp) (v:Value),Act.put ⟨T,D⟩ (some d) v=⟨T.setIfInBounds d v,D⟩)∧(∀ (a:Act) (v:Value),a.put none v=a)∧(∀ (l:List Value) (i:Nat) (a:Value),l.toArray.setIfInBounds i a=(l.set i a).toArray)∧(∀ (x:Value) (l:List Value) (y:Value),(x :: l).set 0 y=y :: l)∧(∀ (x:Value) (l:List Value) (i:Nat) (y:Value),(x :: l).set (i+1) y=x :: l.set i y) :=
 ⟨fun _ _ _ _=>rfl,fun _ _=>rfl,fun _ _ _=>List.setIfInBounds_toArray ..,fun _ _ _=>rfl,fun _ _ _ _=>rfl⟩
def Jd (md:Region.Mode) (ops:Array Oper) (Z:Nat→Bool) (listed:Array Bool) (i:Nat):Bool:=!Z i && (Rk md ops Z listed i && (Region.noSelect ops && (Region.free md ops listed i && (Region.ready md ops listed).contains i)))
theorem JR (i t:Nat) (v:Value) {oi:Oper} {fuel:Nat} {listed:Array Bool} {a:Act} {w:World} (hi:ops[i]?=some oi) (hd:oi.dst=some t) (hS:S w) (hy:∀ W,S W→(execOp a.eval oi).run P W=.ok (.value v) W)
  (h:Zu P md ops Q S Z fuel (listed.setIfInBounds i true) (a.put (some t) v) w) (hk:Jd md ops Z listed i=true:=by kernel_rfl) (hQ:∀ c a w,Q (.panic c) (a.put (some t) v) w→Q (.panic c) a w:=by exact fun _ _ _ h=>h) (hw:Region.wanted oi (yielded ops a.tmps)=true:=by rfl):Zu P md ops Q S Z (fuel+1) listed a w:=by
 simp only[Jd,Bool.and_eq_true,Bool.not_eq_true'] at hk
 exact Xi hi hd hk.1 hk.2.1 hk.2.2.1 hk.2.2.2.1 hk.2.2.2.2 hQ (.inl ⟨hw,hy⟩) hS h
theorem J0 (i t:Nat) (v:Value) {oi:Oper} {fuel:Nat} {listed:Array Bool} {a:Act} {w:World} (hS:S w) (h:Zu P md ops Q S Z fuel (listed.setIfInBounds i true) (a.put (some t) v) w) (hi:ops[i]?=some oi:=by rfl) (hd:oi.dst=some t:=by rfl) (hy:∀ W,S W→(execOp a.eval oi).run P W=.ok (.value v) W:=by intro W hW;go_simp;try rfl)
  (hk:Jd md ops Z listed i=true:=by kernel_rfl) (hQ:∀ c a w,Q (.panic c) (a.put (some t) v) w→Q (.panic c) a w:=by exact fun _ _ _ h=>h) (hw:Region.wanted oi (yielded ops a.tmps)=true:=by rfl):Zu P md ops Q S Z (fuel+1) listed a w:=JR i t v hi hd hS hy h hk hQ hw
theorem J2 (i t:Nat) (v:Value) {oi:Oper} {fuel:Nat} {listed:Array Bool} {a:Act} {w:World} (hS:S w) (h:Zu P md ops Q S Z fuel (listed.setIfInBounds i true) (a.put (some t) v) w) (hi:ops[i]?=some oi:=by rfl) (hd:oi.dst=some t:=by rfl) (hy:∀ W,S W→(execOp a.eval oi).run P W=.ok (.value v) W:=by intro W hW;obtain ⟨q0,q1⟩:=hW;go_simp;try rfl)
  (hk:Jd md ops Z listed i=true:=by kernel_rfl) (hQ:∀ c a w,Q (.panic c) (a.put (some t) v) w→Q (.panic c) a w:=by exact fun _ _ _ h=>h) (hw:Region.wanted oi (yielded ops a.tmps)=true:=by rfl):Zu P md ops Q S Z (fuel+1) listed a w:=JR i t v hi hd hS hy h hk hQ hw
theorem J3 (i t:Nat) (v:Value) {oi:Oper} {fuel:Nat} {listed:Array Bool} {a:Act} {w:World} (hS:S w) (h:Zu P md ops Q S Z fuel (listed.setIfInBounds i true) (a.put (some t) v) w) (hi:ops[i]?=some oi:=by rfl) (hd:oi.dst=some t:=by rfl) (hy:∀ W,S W→(execOp a.eval oi).run P W=.ok (.value v) W:=by intro W hW;obtain ⟨q0,q1,q2⟩:=hW;go_simp;try rfl)
  (hk:Jd md ops Z listed i=true:=by kernel_rfl) (hQ:∀ c a w,Q (.panic c) (a.put (some t) v) w→Q (.panic c) a w:=by exact fun _ _ _ h=>h) (hw:Region.wanted oi (yielded ops a.tmps)=true:=by rfl):Zu P md ops Q S Z (fuel+1) listed a w:=JR i t v hi hd hS hy h hk hQ hw
theorem J4 (i t:Nat) (v:Value) {oi:Oper} {fuel:Nat} {listed:Array Bool} {a:Act} {w:World} (hS:S w) (h:Zu P md ops Q S Z fuel (listed.setIfInBounds i true) (a.put (some t) v) w) (hi:ops[i]?=some oi:=by rfl) (hd:oi.dst=some t:=by rfl) (hy:∀ W,S W→(execOp a.eval oi).run P W=.ok (.value v) W:=by intro W hW;obtain ⟨q0,q1,q2,q3⟩:=hW;go_simp;try rfl)
  (hk:Jd md ops Z listed i=true:=by kernel_rfl) (hQ:∀ c a w,Q (.panic c) (a.put (some t) v) w→Q (.panic c) a w:=by exact fun _ _ _ h=>h) (hw:Region.wanted oi (yielded ops a.tmps)=true:=by rfl):Zu P md ops Q S Z (fuel+1) listed a w:=JR i t v hi hd hS hy h hk hQ hw
theorem JO (i t:Nat) {oi:Oper} {fuel:Nat} {listed:Array Bool} {a:Act} {w:World} (hi:ops[i]?=some oi) (hd:oi.dst=some t) (hS:S w)
  (h:Zu P md ops Q S Z fuel (listed.setIfInBounds i true) (a.put (some t) undef) w) (hk:Jd md ops Z listed i=true:=by kernel_rfl) (hQ:∀ c a w,Q (.panic c) (a.put (some t) undef) w→Q (.panic c) a w:=by exact fun _ _ _ h=>h) (hw:Region.wanted oi (yielded ops a.tmps)=false:=by rfl):Zu P md ops Q S Z (fuel+1) listed a w:=by
 simp only[Jd,Bool.and_eq_true,Bool.not_eq_true'] at hk
 exact Xi hi hd hk.1 hk.2.1 hk.2.2.1 hk.2.2.2.1 hk.2.2.2.2 hQ (.inr ⟨hw,rfl⟩) hS h
theorem Z4 {i:Nat} {oi:Oper} {d:Option Tmp} {v:Value} {fuel:Nat} {listed:Array Bool} {a:Act} {w:World} (hi:ops[i]?=some oi) (hd:oi.dst=d) (hiz:Z i=true)
  (hs:Region.noSelect ops=true) (hf:Region.free md ops listed i=true) (hr:(Region.ready md ops listed).contains i=true)
  (hQ:∀ c a w,Q (.panic c) (a.put d v) w→Q (.panic c) a w) (hy:YieldsIf P ops (fun _=>True) oi v a)
  (h:Zu P md ops Q S Z fuel (listed.setIfInBounds i true) (a.put d v) w):Zu P md ops Q S Z (fuel+1) listed a w:=by
 subst hd
 exact Rb hi (Region.noSelect_spec hs) hQ hiz fuel listed a w (XZ.of_free hi (by simpa using hr) hf) hy h
theorem U6 {i:Nat} {fuel:Nat} {listed:Array Bool} {a:Act} {w:World} (hr:Region.ready md ops listed=[i])
  (h:wpOp P ops Q i (fun a' w'=>(Z i=false→S w')∧Zu P md ops Q S Z fuel (listed.setIfInBounds i true) a' w') a w):Zu P md ops Q S Z (fuel+1) listed a w :=
 ⟨fun h0=>absurd (hr.symm.trans h0) (by simp),fun j hj=>by rw[hr] at hj;rw[List.mem_singleton.1 hj];exact h⟩
theorem Zh {i:Nat} {o:Oper} {d:Option Tmp} {fuel:Nat} {listed:Array Bool} {a:Act} {w w':World} (hr:Region.ready md ops listed=[i]) (ho:ops[i]?=some o) (hd:o.dst=d) (hw:Region.wanted o (yielded ops a.tmps)=true)
  (hv:(execOp a.eval o).run P w=.ok .skip w') (hS:Z i=false→S w') (h:Zu P md ops Q S Z fuel (listed.setIfInBounds i true) (a.put d undef) w'):Zu P md ops Q S Z (fuel+1) listed a w:=by
 subst hd
 exact U6 hr (wpOp_step ho fun K' hK=>by
  rw[if_pos hw,Oper.wp,hv]
  exact hK _ _ ⟨hS,h⟩)
theorem Zd {listed:Array Bool} {a:Act} {w:World} (hr:Region.ready md ops listed=[]) (h:Q .normal a w):∀ fuel,Zu P md ops Q S Z fuel listed a w
 | 0=>⟨hr,h⟩
 | _+1=>⟨fun _=>h,by rw[hr];simp⟩
theorem Zf {id:Nat} {a:Act} {w:World} (S:World→Prop) (Z:Nat→Bool) (hm:P.follows .mixedOrders=true)
  (h:Zu P .any ops Q S Z ops.size (Array.replicate ops.size false) a w.drew):(Code.region id ops true).wp P Q a w :=
 wp_region_any hm (TK _ _ _ _ h)
end
end Go.Proofs.YtlgipkemoldckaaGreatDoor
namespace Go.Proofs.YtlgipkemoldckaaGreatDoor
open Go.RowKit
section
variable {P:Program} {w:World} {α:Type} {ea:α→List Value} {k:Nat} {e:TypeId} {base:Nat} {v:Value} {l:List α}
theorem TB (t ty:TypeId) (i:TypeInfo) (z:Value) (size bytes:Nat) (ht:P.underlying t=some (.slice e)) (hi:P.info? e=some i) (hz:i.zero=some z)
  (hsize:i.size=size) (hby:i.bytes=bytes) (v:Value) (n:Nat) (xs:List Value) (hown:w.ownsRow base e size v n xs)
  (a:Addr) (m c:Nat) (news:List Value) (hl:news.length=m*size) (hnews:∀ j u,news[j]?=some u→w.cell? (a.add j)=some u) (h1:∀ u∈news,u.oneCell'=true)
  (h63:n+m≤maxLen) (hbytes:(n+m)*bytes≤140737488355328) (hm:0<m) {v':Value} {w':World}
  (hr:(Builtin.append_ #[t,t] ty #[v,.slice (some a) m c]).run P w=.ok v' w'):∀ b,v'.ownBlock=some b→v.ownBlock=some b∨w.heap.size≤b:=by
 subst hsize
 subst hby
 have hsmall:n+m≤9223372036854775807:=by simp only[maxLen] at h63;omega
 rcases hown.2 with ⟨rfl,rfl⟩|⟨g,cap,cur,rfl,hbg,hg,hnc,hcm,hcs,htake⟩
 ·have hr2:=run_append_nil (P:=P) w t ty e i z ht hi hz a m c news hl hnews hm (by omega) (by have hb:=hbytes;simp only[Nat.zero_add] at hb;omega)
  rw[hr] at hr2
  cases hr2
  intro b hb
  simp[Value.ownBlock] at hb
  exact .inr (by omega)
 ·by_cases hroom:n+m≤cap
  ·have hfit:n*i.size+news.length≤cur.size:=by rw[hl,hcs,←Nat.add_mul];exact Nat.mul_le_mul_right _ hroom
   have hr2:=run_append_room (P:=P) w t ty e i ht hi g n cap cur hg a m c news hl hnews h1 hroom hfit
   rw[hr] at hr2
   cases hr2
   intro b hb
   simp[Value.ownBlock] at hb ⊢
   exact .inl hb
  ·have holds:∀ j u,xs[j]?=some u→w.cell? ((⟨g,0,none⟩:Addr).add j)=some u:=hown.cells (g:=g) rfl
   have hr2:=run_append_grow (P:=P) w t ty e i z ht hi hz ⟨g,0,none⟩ n cap xs hown.1 holds a m c news hl hnews (by omega) (by omega) (growslice_fits (by omega) hbytes)
   rw[hr] at hr2
   cases hr2
   intro b hb
   simp[Value.ownBlock] at hb
   exact .inr (by omega)
theorem Yx (t ty:TypeId) (i:TypeInfo) (z:Value) (bytes:Nat) (ht:P.underlying t=some (.slice e)) (hi:P.info? e=some i) (hz:i.zero=some z)
  (hsize:i.size=k) (hby:i.bytes=bytes) (hzs:z.cells.size=k) (hk0:0<k) (hk:∀ x,(ea x).length=k) (h1:∀ x,∀ u∈ea x,u.oneCell'=true)
  (hown:Own ea k e base w v l) (y:α) (nb c:Nat) (hnews:∀ j u,(ea y)[j]?=some u→w.cell? ⟨nb,j,none⟩=some u)
  (h63:l.length+1≤maxLen) (hbytes:(l.length+1)*bytes≤140737488355328) (hbase:base≤w.heap.size) :
  ∃ v' w',(Builtin.append_ #[t,t] ty #[v,.slice (some ⟨nb,0,none⟩) 1 c]).run P w=.ok v' w'∧Own ea k e base w' v' (l++[y])∧Ext (fun b=>v.ownBlock=some b) w w' ∧
   ∀ b,v'.ownBlock=some b→v.ownBlock=some b∨w.heap.size≤b:=by
 have hn:∀ j u,(ea y)[j]?=some u→w.cell? (Addr.add ⟨nb,0,none⟩ j)=some u:=fun j u hj=>by
  rw[show (Addr.add ⟨nb,0,none⟩ j)=⟨nb,j,none⟩ from by unfold Addr.add;split <;> simp_all]
  exact hnews j u hj
 obtain ⟨v',w',hr,h2,h3,_⟩:=run_append_own (P:=P) w base t ty e i z k bytes ht hi hz hsize hby hzs hk0 v l.length (l.flatMap ea) hown ⟨nb,0,none⟩ 1 c (ea y) (by rw[hk,Nat.one_mul]) hn (h1 y) h63 hbytes hbase
 refine ⟨v',w',hr,?_,Ext.of_grown h3,TB t ty i z k bytes ht hi hz hsize hby v l.length (l.flatMap ea) hown ⟨nb,0,none⟩ 1 c (ea y) (by rw[hk,Nat.one_mul]) hn (h1 y) h63 hbytes (by omega) hr⟩
 unfold Own
 rw[List.length_append,List.flatMap_append]
 simpa using h2
theorem Zn {ops:Array Oper} {rest:List Oper} {o:Oper} {a:Act} {Q:Exit→Act→World→Prop} (hgd:o.guard=none) (s x:Operand) (t:TypeId)
  (ho:o.op=.call { callee:=.builtin .append,args:=#[s,x],argTypes:=#[t,t] })
  (i:TypeInfo) (z:Value) (bytes:Nat) (ht:P.underlying t=some (.slice e)) (hi:P.info? e=some i) (hz:i.zero=some z)
  (hsize:i.size=k) (hby:i.bytes=bytes) (hzs:z.cells.size=k) (hk0:0<k) (hk:∀ x,(ea x).length=k) (h1:∀ x,∀ u∈ea x,u.oneCell'=true)
  (hs:a.eval s=v) (hown:Own ea k e base w v l) (y:α) (nb c:Nat) (hx:a.eval x=.slice (some ⟨nb,0,none⟩) 1 c) (hnews:∀ j u,(ea y)[j]?=some u→w.cell? ⟨nb,j,none⟩=some u)
  (h63:l.length+1≤maxLen) (hbytes:(l.length+1)*bytes≤140737488355328) (hbase:base≤w.heap.size)
  (h:∀ v' w',Own ea k e base w' v' (l++[y])→Ext (fun b=>v.ownBlock=some b) w w'→(∀ b,v'.ownBlock=some b→v.ownBlock=some b∨w.heap.size≤b)→wpList P ops Q rest (a.put o.dst v') w'):wpList P ops Q (o :: rest) a w:=by
 obtain ⟨v',w',hr,h2,h3,h4⟩:=Yx (P:=P) t o.type i z bytes ht hi hz hsize hby hzs hk0 hk h1 hown y nb c hnews h63 hbytes hbase
 refine wpList_plain hgd fun _ hK=>?_
 unfold Oper.wp execOp
 simp only[ho,resolve,invoke,builtin,Sem.run_bind,Sem.run_pure,Result.andThen_ok,List.map_toArray,List.map_cons,List.map_nil,hs,hx,hr]
 exact hK _ _ (h v' w' h2 h3 h4)
end
end Go.Proofs.YtlgipkemoldckaaGreatDoor
namespace Go.Proofs.YtlgipkemoldckaaGreatDoor
open Go Go.RowKit Go.Deep
section
variable {P:Program} {ops:Array Oper} {Q:Exit→Act→World→Prop} {md:Region.Mode} {S:World→Prop} {Z:Nat→Bool}
theorem Zl {i:Nat} {o:Oper} {d:Option Tmp} {v:Value} {fuel:Nat} {listed:Array Bool} {a:Act} {w w':World} (hr:Region.ready md ops listed=[i]) (ho:ops[i]?=some o) (hd:o.dst=d) (hw:Region.wanted o (yielded ops a.tmps)=true)
  (hv:(execOp a.eval o).run P w=.ok (.value v) w') (hS:Z i=false→S w') (h:Zu P md ops Q S Z fuel (listed.setIfInBounds i true) (a.put d v) w'):Zu P md ops Q S Z (fuel+1) listed a w:=by
 subst hd
 exact U6 hr (wpOp_step ho fun K' hK=>by
  rw[if_pos hw,Oper.wp,hv]
  exact hK _ _ ⟨hS,h⟩)
theorem Yp {o:Oper} {a:Act} {w w':World} {s x:Operand} {t tn:TypeId} {v vx v':Value} (hop:o.op=.call { callee:=.builtin .append,args:=#[s,x],argTypes:=#[t,tn] }) (hs:a.eval s=v) (hx:a.eval x=vx)
  (hr:(Builtin.append_ #[t,tn] o.type #[v,vx]).run P w=.ok v' w'):(execOp a.eval o).run P w=.ok (.value v') w':=by
 unfold execOp
 simp only[hop,resolve,invoke,builtin,Sem.run_bind,Sem.run_pure,Result.andThen_ok,List.map_toArray,List.map_cons,List.map_nil,hs,hx,hr]
end
end Go.Proofs.YtlgipkemoldckaaGreatDoor
