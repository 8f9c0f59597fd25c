/- ViewKinds, part 3 of what the proof leans on (made short by a program). -/
import Derived.Test.YtlgipkemoldckaaGreatDoorVkZ2
import Derived.Shelf.SlSortCmp.NoneTotal
set_option linter.unusedSimpArgs false
set_option linter.unusedVariables false
set_option linter.unusedSectionVars false
set_option maxRecDepth 20000
set_option maxHeartbeats 30000000
namespace Go.Proofs.YtlgipkemoldckaaGreatDoor
open Go.RowKit
theorem Z0l {l:List Ch} {b:St} {k:Nat} {x:Ch} (hx:l[k]?=some x) (hb:x.block=b) (hn:∀ j y,j<k→l[j]?=some y→y.block≠b):Yz l b=k:=by
 unfold Yz
 rw[Z2l hx hb hn]
theorem Z0K {l:List Ch} {b:St} (hn:∀ j y,j<l.length→l[j]?=some y→y.block≠b):Yz l b=-1:=by
 unfold Yz
 rw[W9.2 (fun x hx=>by
  obtain ⟨i,hi⟩:=List.getElem?_of_mem hx
  exact hn i x (List.getElem?_eq_some_iff.1 hi).1 hi)]
theorem Z22 {l:List Ch} {b:St} {k:Nat} {x:Ch} (h:∀ j y,j<k→l[j]?=some y→y.block≠b) (hx:l[k]?=some x) (hb:x.block≠b):∀ j y,j<k+1→l[j]?=some y→y.block≠b:=fun j y hj hy=>by
 by_cases e:j=k
 ·subst e;rw[hx] at hy;cases hy;exact hb
 ·exact h j y (by omega) hy
theorem Z3q {x:Ch} {bn br:Int} (h:x.block≠⟨bn,br⟩) (e:x.block.n=bn):¬ x.block.r=br:=fun e2=>h (by
 obtain ⟨⟨n,r⟩,u,k⟩:=x
 simp only at e e2
 rw[e,e2])
theorem UG (v:Value) (l:List Ch) (bn br:Int) (w:World) (h:Z5 Ch.cells 5 w v l) (hl:l.length≤1000000) :
  Calls Tryz.prog 22 #[v,.agg #[.int .i64 bn,.int .i64 br]] w fun e w'=>e=.returned (.int .i64 (Yz l ⟨bn,br⟩))∧Below w.heap.size w w':=by
 obtain ⟨a,cap,rfl,hcap,hmax,_⟩:=id h
 unfold maxLen at hmax
 have q0:(w.alloc (.cells #[.int .i64 bn,.int .i64 br] 23)).cell? ⟨w.heap.size,0,none⟩=some (.int .i64 bn):=by go_simp
 have q1:(w.alloc (.cells #[.int .i64 bn,.int .i64 br] 23)).cell? ⟨w.heap.size,1,none⟩=some (.int .i64 br):=by go_simp
 have hB0:Below w.heap.size w (w.alloc (.cells #[.int .i64 bn,.int .i64 br] 23)):=(Below.refl _ _).alloc (Nat.le_refl _) _
 have HH:=Jh (h.below hB0)
 have HB0:=Lib.hid hB0
 clear h hB0
 go_enter Tryz.func22,Tryz.ntmps22
 go_upto_block 0 with fail
 generalize w.alloc (.cells #[.int .i64 bn,.int .i64 br] 23)=w1 at *
 go_wp2_with fail
 go_loopg [5] l.length (fun g iv wx=>∃ k:Nat,g=l.length - k∧k≤l.length∧iv=.int .i64 k∧Hid (∀ j y,j<k→l[j]?=some y→y.block≠⟨bn,br⟩)∧Hid (Below w1.heap.size w1 wx))
 case atStart=>exact ⟨0,rfl,Nat.zero_le _,rfl,Jh (fun j y hj=>absurd hj (by omega)),Jh (Below.refl _ _)⟩
 case round =>
  obtain ⟨k,hg,hk,rfl,HP,HB⟩:=hrel
  have HG:=Lib.hid hg
  clear hg
  by_cases hlt:k<l.length
  ·obtain ⟨x,hx⟩:∃ x,l[k]?=some x:=⟨_,List.getElem?_eq_getElem hlt⟩
   obtain ⟨b,o,c1,e1,h1⟩:=(HH.out.below HB.out).dcells (by intro e;rw[e] at hlt;simp at hlt)
   cases e1
   obtain ⟨x0,x1,-,-,-⟩:=h1 k x hx
   replace q0:=Z0 HB.out q0
   replace q1:=Z0 HB.out q1
   have HX:=Lib.hid hx
   have HD:Hid (∀ n,Below w.heap.size w (wr.drewN n)):=Jh (fun n=>below_drewN (HB0.out.trans (HB.out.mono HB0.out.size)) n)
   have HD1:Hid (∀ n,Below w1.heap.size w1 (wr.drewN n)):=Jh (fun n=>below_drewN HB.out n)
   clear h1 hx
   by_cases hb:x.block=⟨bn,br⟩
   ·have e1:x.block.n=bn:=by rw[hb]
    have e2:x.block.r=br:=by rw[hb]
    rw[e1] at x0
    rw[e2] at x1
    have HF:=Jh (Z0l HX.out hb HP.out)
    clear hb e1 e2
    go_wp2_with fail
    go_quiet (fail)
    go_wp2_with fail
    go_ret
    exact ⟨by rw[HF.out];rfl,HD.out _⟩
   ·have HN:=Jh (Z22 HP.out HX.out hb)
    have hb':=Z3q hb
    clear hb
    by_cases e1:x.block.n=bn
    ·have e2:=hb' e1
     rw[e1] at x0
     clear hb' e1
     go_wp2_with fail
     go_quiet (fail)
     go_wp2_with fail
     go_roundg (l.length - (k+1))
     case measure=>rw[HG.out];omega
     case rel=>exact ⟨k+1,rfl,hlt,by go_num,HN,Jh (HD1.out _)⟩
    ·clear hb'
     go_wp2_with fail
     go_quiet (fail)
     go_wp2_with fail
     go_roundg (l.length - (k+1))
     case measure=>rw[HG.out];omega
     case rel=>exact ⟨k+1,rfl,hlt,by go_num,HN,Jh (HD1.out _)⟩
  ·obtain rfl:k=l.length:=by omega
   have HF:=Jh (Z0K HP.out)
   have HD:=Jh (HB0.out.trans (HB.out.mono HB0.out.size))
   have hll:¬ (l.length:Int)<(l.length:Int):=by omega
   clear hlt hk
   go_wp2_with fail
   go_ret
   exact ⟨by rw[HF.out];rfl,HD.out⟩
open Classical in
noncomputable def upB (h:Zk) (u b:St):Bool:=decide (Up h u b)
theorem Z2p (h:Zk) (u:St):upB h u u=true:=by simp[upB,Up.refl]
theorem Z2G {h:Zk} {u b:St} (hn:h u=none) (hne:u≠b):upB h u b=false:=by simp[upB,Z3C hn hne]
theorem Z2T {h:Zk} {u b:St} {c:Ch} (hc:h u=some c) (hne:u≠b):upB h u b=upB h c.under b:=by simp[upB,Z3g hc hne]
theorem Z1V (h:Zk) (c:Ch):WD h c=!(upB h c.under c.block):=rfl
theorem QC (v:Value) (l:List Ch) (un ur bn br:Int) (w:World) (h:Z5 Ch.cells 5 w v l) (hl:l.length≤1000000) {hh:Zk} (ha:Zo hh l) (hk:ZZ hh) (hac:XI hh) :
  Calls Tryz.prog 86 #[v,.agg #[.int .i64 un,.int .i64 ur],.agg #[.int .i64 bn,.int .i64 br]] w fun e w'=>e=.returned (.bool (upB hh ⟨un,ur⟩ ⟨bn,br⟩))∧Below w.heap.size w w':=by
 obtain ⟨a,cap,rfl,hcap,hmax,_⟩:=id h
 unfold maxLen at hmax
 obtain ⟨u,hu⟩:∃ u:St,u=⟨un,ur⟩:=⟨_,rfl⟩
 obtain ⟨m0,he0,hm0⟩:=Sk hk hac ha u
 have hb1:Yo ((w.alloc (.cells #[.int .i64 un,.int .i64 ur] 23)).alloc (.cells #[.int .i64 bn,.int .i64 br] 23)) w.heap.size u:=by rw[hu];exact (Yo.new w ⟨un,ur⟩).alloc _
 have hb2:Yo ((w.alloc (.cells #[.int .i64 un,.int .i64 ur] 23)).alloc (.cells #[.int .i64 bn,.int .i64 br] 23)) (w.heap.size+1) ⟨bn,br⟩:=by
  have:=Yo.new (w.alloc (.cells #[.int .i64 un,.int .i64 ur] 23)) ⟨bn,br⟩
  simpa using this
 have hB0:Below w.heap.size w ((w.alloc (.cells #[.int .i64 un,.int .i64 ur] 23)).alloc (.cells #[.int .i64 bn,.int .i64 br] 23)):=((Below.refl _ _).alloc (Nat.le_refl _) _).alloc (by simp) _
 rw[←hu]
 have HH:=Lib.hid h
 have HA:=Jh (And.intro ha hk)
 have HB0:=Lib.hid hB0
 have HE0:=Lib.hid he0
 have HX1:=Lib.hid hb1
 have HX2:=Lib.hid hb2
 clear h hB0 ha hk hac he0 hb1 hb2 hu
 go_enter Tryz.func86,Tryz.ntmps86
 go_upto_block 0 with fail
 generalize (w.alloc (.cells #[.int .i64 un,.int .i64 ur] 23)).alloc (.cells #[.int .i64 bn,.int .i64 br] 23)=w1 at *
 go_wp2_with fail
 go_loopg [7] (l.length+1) (fun g iv wx=>∃ (k m:Nat) (x:St),g=l.length+1 - k∧k+m≤l.length∧iv=.int .i64 k∧Hid (Y9 hh m x∧upB hh u ⟨bn,br⟩=upB hh x ⟨bn,br⟩)∧Hid (Yo wx w.heap.size x∧Yo wx (w.heap.size+1) ⟨bn,br⟩∧Below w.heap.size w wx))
 case atStart=>exact ⟨0,m0,u,rfl,by omega,rfl,Lib.hid ⟨HE0.out,rfl⟩,Lib.hid ⟨HX1.out,HX2.out,HB0.out⟩⟩
 case round =>
  obtain ⟨k,m,⟨xn,xr⟩,hg,hkm,rfl,HE,HB⟩:=hrel
  have HG:=Lib.hid hg
  clear hg
  have hk1:(k:Int)≤(l.length:Int):=by omega
  have q0:=HB.out.1.c0
  have q1:=HB.out.1.c1
  have q2:=HB.out.2.1.c0
  have q3:=HB.out.2.1.c1
  dsimp only at q0 q1 q2 q3
  by_cases hxb:(⟨xn,xr⟩:St)=⟨bn,br⟩
  ·cases hxb
   have HU:Hid (upB hh u ⟨bn,br⟩=true):=Jh (by rw[HE.out.2,Z2p])
   go_wp2_with fail
   go_ret
   exact ⟨by rw[HU.out];rfl,HB.out.2.2⟩
  ·have HNE:=Lib.hid hxb
   have HFI:=Jh (fun (W:World) (hW:Below w.heap.size w W)=>UG (.slice a l.length cap) l xn xr W (HH.out.below hW) hl)
   have hfind:=HA.out.1.find HA.out.2 (b:=⟨xn,xr⟩)
   have hor:(¬ xn=bn)∨(xn=bn∧¬ xr=br):=by
    by_cases e1:xn=bn
    ·exact .inr ⟨e1,fun e2=>hxb (by rw[e1,e2])⟩
    ·exact .inl e1
   have HF:=Lib.hid hfind
   clear hxb hfind
   rcases hor with e1|⟨rfl,e2⟩
   all_goals
    go_wp2_with fail
    refine (HFI.out _ HB.out.2.2).mono ?_
    rintro e w2 ⟨rfl,b2⟩
    have hbx:=HB.out.1.below b2
    have hby:=HB.out.2.1.below b2
    have hbz:=HB.out.2.2.trans (b2.mono HB.out.2.2.size)
    rcases HF.out with ⟨f1,f2⟩|⟨i,y,f1,f2,f3,f4⟩
    ·have hfi:Yz l ⟨xn,xr⟩=-1:=by unfold Yz;rw[f1]
     rw[hfi]
     have HU:=Jh (HE.out.2.trans (Z2G f2 HNE.out))
     have HN:=Lib.hid hbz
     clear hfi f1 f2 hbx hby hbz b2 HF HFI
     go_wp2_with fail
     go_ret
     exact ⟨by rw[HU.out];rfl,HN.out⟩
    ·have hfi:Yz l ⟨xn,xr⟩=(i:Int):=by unfold Yz;rw[f1]
     rw[hfi]
     obtain ⟨m',rfl,he'⟩:=SB HE.out.1 f3
     have hil:=(List.getElem?_eq_some_iff.1 f2).1
     obtain ⟨b,o,c1,e1',h1⟩:=(HH.out.below hbz).dcells (by intro e;rw[e] at hil;simp at hil)
     cases e1'
     obtain ⟨-,-,y2,y3,-⟩:=h1 i y f2
     have g0:=hbx.f0
     have g1:=hbx.f1
     have HNX:=Jh (And.intro he' (HE.out.2.trans (Z2T f3 HNE.out)))
     have HBX:=Jh (And.intro (hbx.set y.under.n y.under.r) (And.intro (hby.ext (((Ext.refl (·=w.heap.size) w2).setCell (p:=⟨w.heap.size,0,none⟩) (.inr rfl) (.int .i64 y.under.n)).setCell (p:=⟨w.heap.size,1,none⟩) (.inr rfl) (.int .i64 y.under.r)) (fun e=>by omega)) ((hbz.setCell (p:=⟨w.heap.size,0,none⟩) (Nat.le_refl _) (.int .i64 y.under.n)).setCell (p:=⟨w.heap.size,1,none⟩) (Nat.le_refl _) (.int .i64 y.under.r))))
     have c0:=hbx.c0
     have c1':=hbx.c1
     have hi1:(0:Int)≤(i:Int):=by omega
     have hi2:(i:Int)<(l.length:Int):=by omega
     clear hfi f1 f2 f3 f4 hbx hby hbz b2 HF HFI h1 he' q0 q1 q2 q3
     go_wp2_with fail
     go_roundg (l.length+1 - (k+1))
     case measure=>rw[HG.out];omega
     case rel=>exact ⟨k+1,m',y.under,rfl,by omega,by simp,HNX,HBX⟩
end Go.Proofs.YtlgipkemoldckaaGreatDoor
namespace Go.Proofs.YtlgipkemoldckaaGreatDoor
open Go.RowKit Go.Sort Go.Shelf
section
variable {α:Type} {ea:α→List Value} {k:Nat} {e:TypeId} {base:Nat} {w:World} {v:Value} {l:List α}
variable [Inhabited α]
theorem Uu (hk:∀ x,(ea x).length=k) (hk0:0<k) (l:List α) (t:Nat) (ht:t<l.length*k):(l.flatMap ea)[t]?=some ((flatK ea k l.toArray)[t]!):=by
 have hd:t / k<l.length:=(Nat.div_lt_iff_lt_mul hk0).2 ht
 have hm:t % k<k:=Nat.mod_lt _ hk0
 have he:t=t / k*k+t % k:=by rw[Nat.mul_comm];exact (Nat.div_add_mod t k).symm
 rw[get_flatK _ _ _ _ (by simpa using ht)]
 have hx:l[t / k]?=some (l[t / k]):=List.getElem?_eq_getElem hd
 have h2:(l.toArray)[t / k]! = l[t / k]:=by simp[hd]
 rw[h2]
 have hu:(ea l[t / k])[t % k]?=some ((ea l[t / k])[t % k]!):=by
  rw[List.getElem!_eq_getElem?_getD,List.getElem?_eq_getElem (by rw[hk];exact hm)]
  rfl
 have:=getElem?_flatMap_k hk l (t / k) _ hx (t % k) _ hu
 rw[←he] at this
 exact this
theorem Own.holdsK (hk:∀ x,(ea x).length=k) (hk0:0<k) {g cap:Nat} (h:Own ea k e base w (.slice (some ⟨g,0,none⟩) l.length cap) l):HoldsK ea k w g 0 l.toArray:=by
 intro t ht
 simp only[size_flatK,List.size_toArray] at ht
 have h1:=World.ownsRow.cellAt h t ht
 have h2:=World.ownsRow.frozenAt h t
 rw[Uu hk hk0 l t ht] at h1
 rw[Nat.zero_add]
 exact ⟨h1,h2⟩
theorem S7 (w:World) (g n:Nat) (d:Array α) (os:Array Obj):Ext (·=g) w (sortWorldK ea k w g 0 n d os):=by
 refine ⟨rfl,rfl,rfl,?_,fun b hb hne=>?_⟩
 ·simp[sortWorldK,grow,putRowK,show (Sort.ahead w n).heap.size=w.heap.size from rfl]
 ·unfold sortWorldK grow putRowK putRow mapBlock
  have hlt:b<((Sort.ahead w n).heap.modify g (onCells (putCells id 0 (flatK ea k d)))).size:=by simpa using hb
  show (((Sort.ahead w n).heap.modify g _)++os)[b]?=_
  rw[Array.getElem?_append_left hlt,Array.getElem?_modify,if_neg (fun e=>hne e.symm)]
  rfl
theorem TX (w:World) (g n:Nat) (d:Array α) (os:Array Obj) {cur:Array Value} {e:TypeId} {fr:Nat × Nat} (h:w.heap[g]?=some (.cells cur e fr)) :
  (sortWorldK ea k w g 0 n d os).heap[g]?=some (.cells (putCells id 0 (flatK ea k d) cur) e fr):=by
 have hg:=(Array.getElem?_eq_some_iff.1 h).1
 unfold sortWorldK grow putRowK putRow mapBlock
 have hlt:g<((Sort.ahead w n).heap.modify g (onCells (putCells id 0 (flatK ea k d)))).size:=by simpa using hg
 show (((Sort.ahead w n).heap.modify g _)++os)[g]?=_
 rw[Array.getElem?_append_left hlt,Array.getElem?_modify,if_pos rfl]
 show (w.heap[g]?).map _=_
 rw[h]
 rfl
theorem Z18 (hk:∀ x,(ea x).length=k) (hk0:0<k) {g cap n:Nat} {d:Array α} {os:Array Obj} (h:Own ea k e base w (.slice (some ⟨g,0,none⟩) l.length cap) l) (hz:d.size=l.length) :
  Own ea k e base (sortWorldK ea k w g 0 n d os) (.slice (some ⟨g,0,none⟩) l.length cap) d.toList:=by
 obtain ⟨h1,h2⟩:=h
 rcases h2 with ⟨h3,_⟩|⟨g',cap',cur,h3,hb,hg,hnc,hcm,hcs,htake⟩
 ·cases h3
 ·cases h3
  have hzl:d.toList.length=l.length:=by simpa using hz
  refine ⟨by rw[Y5 hk],.inr ⟨g,cap,_,by rw[hzl],hb,TX w g n d os hg,by rw[hzl];exact hnc,hcm,by simpa [putCells] using hcs,?_⟩⟩
  refine List.ext_getElem? fun t=>?_
  rw[List.getElem?_take]
  split
  ·rename_i ht
   rw[Uu hk hk0 d.toList t ht]
   have hF:t<(flatK ea k d).size:=by rw[size_flatK];simpa using ht
   have htc:t<cur.size:=by
    rw[hcs]
    rw[hzl] at ht
    exact Nat.lt_of_lt_of_le ht (Nat.mul_le_mul_right _ hnc)
   rw[Array.getElem?_toList]
   unfold putCells
   rw[Array.getElem?_mapIdx,Array.getElem?_eq_getElem htc]
   simp only[Option.map_some,Nat.zero_le,true_and,Nat.zero_add,Nat.sub_zero,id_eq]
   rw[if_pos hF]
  ·rename_i ht
   rw[List.getElem?_eq_none]
   rw[Y5 hk]
   omega
theorem Tz {P:Program} {f:Nat} {fv:Value} {lt:α→α→Bool} (hk:∀ x,(ea x).length=k) (hk0:0<k)
  (hS:∀ (blk cap:Nat) (d:Array α) (w:World),HoldsK ea k w blk 0 d→blk<w.heap.size→d.size<4611686018427387904→Calls P f #[.slice (some ⟨blk,0,none⟩) d.size cap,fv] w fun e w' =>
   e=.returned (.tuple #[])∧∃ d' n os,PermIn 0 d.size d d'∧SortedIn lt 0 d.size d'∧w'=sortWorldK ea k w blk 0 n d' os)
  (h0:∀ (p:Option Addr) (cap:Nat) (w:World),Calls P f #[.slice p 0 cap,fv] w fun e w'=>e=.returned (.tuple #[])∧w'=w)
  (h:Own ea k e base w v l) (hl:l.length<4611686018427387904) :
  Calls P f #[v,fv] w fun e' w'=>e'=.returned (.tuple #[])∧∃ l',l'.Perm l∧l'.Pairwise (fun a b=>lt b a=false)∧Own ea k e base w' v l'∧Ext (fun b=>v.ownBlock=some b) w w':=by
 rcases h.eq_slice with ⟨rfl,rfl⟩|⟨g,cap,rfl,hb,hg⟩
 ·exact (h0 none 0 w).mono fun e w' ⟨he,hw⟩=>⟨he,[],.nil,.nil,by rw[hw];exact h,by rw[hw];exact Ext.refl _ _⟩
 ·obtain ⟨_,_,hcap⟩:∃ a c,(l.length≤cap∧cap≤maxLen):=by
   obtain ⟨h1,h2⟩:=h
   rcases h2 with ⟨h3,_⟩|⟨g',cap',cur,h3,_,_,h4,h5,_⟩
   ·cases h3
   ·cases h3;exact ⟨0,0,h4,h5⟩
  have hH:=h.holdsK hk hk0
  have:=hS g cap l.toArray w hH hg (by simpa using hl)
  simp only[List.size_toArray] at this
  refine this.mono fun e w' ⟨he,d',n,os,hp,hs,hw⟩=>⟨he,d'.toList,?_,?_,?_,?_⟩
  ·obtain ⟨hz,_,hperm⟩:=hp
   have hz':d'.size=l.length:=by simpa using hz
   have e1:d'.extract 0 l.length=d':=by rw[←hz'];exact Array.extract_size
   rw[e1] at hperm
   simpa using hperm
  ·have hz:d'.size=l.length:=by have:=hp.1;simpa using this
   rw[List.pairwise_iff_getElem]
   intro i j hi hj hij
   simp only[Array.length_toList] at hi hj
   have:=hs i j (Nat.zero_le _) hij (by omega)
   rw[getElem!_pos d' i hi,getElem!_pos d' j hj] at this
   simpa using this
  ·have hz:d'.size=l.length:=by have:=hp.1;simpa using this
   rw[hw]
   exact Z18 hk hk0 h hz
  ·rw[hw]
   exact (S7 w g n d' os).mono (fun b _ hb=>by rw[hb];rfl)
end
end Go.Proofs.YtlgipkemoldckaaGreatDoor
namespace Go.Proofs
open Go.Shelf
def Tryz.sortAttr_ren:Go.Shelf.Ren:=⟨fun|6=>60|15=>89|14=>88|28=>117|29=>118|20=>109|21=>110|22=>111|23=>112|24=>113|25=>114|26=>115|27=>116|46=>134|47=>135|48=>136|49=>137|50=>138|57=>146|n=>n,fun|22=>24|24=>73|25=>131|3=>3|39=>145|0=>0|53=>189|55=>192|4=>4|46=>199|45=>198|50=>171|5=>5|9=>9|66=>216|70=>220|76=>228|77=>229|n=>n,fun|n=>n⟩
theorem Tryz.sortAttr:Go.Proofs.SlLaysF0.n6 Tryz.prog Tryz.sortAttr_ren:={
 mixed:=by kernel_rfl
 f6:=⟨Tryz.f60.name,by decide,Tryz.func60.trans (congrArg some (by kernel_rfl))⟩
 f14:=⟨Tryz.f88.name,by decide,Tryz.func88.trans (congrArg some (by kernel_rfl))⟩
 f15:=Tryz.func89.trans (congrArg some (by kernel_rfl))
 f20:=⟨Tryz.f109.name,by decide,Tryz.func109.trans (congrArg some (by kernel_rfl))⟩
 f21:=⟨Tryz.f110.name,by decide,Tryz.func110.trans (congrArg some (by kernel_rfl))⟩
 f22:=⟨Tryz.f111.name,by decide,Tryz.func111.trans (congrArg some (by kernel_rfl))⟩
 f23:=⟨Tryz.f112.name,by decide,Tryz.func112.trans (congrArg some (by kernel_rfl))⟩
 f24:=⟨Tryz.f113.name,by decide,Tryz.func113.trans (congrArg some (by kernel_rfl))⟩
 f25:=⟨Tryz.f114.name,by decide,Tryz.func114.trans (congrArg some (by kernel_rfl))⟩
 f26:=⟨Tryz.f115.name,by decide,Tryz.func115.trans (congrArg some (by kernel_rfl))⟩
 f27:=⟨Tryz.f116.name,by decide,Tryz.func116.trans (congrArg some (by kernel_rfl))⟩
 f28:=Tryz.func117.trans (congrArg some (by kernel_rfl))
 f29:=Tryz.func118.trans (congrArg some (by kernel_rfl))
 f46:=⟨Tryz.f134.name,by decide,Tryz.func134.trans (congrArg some (by kernel_rfl))⟩
 f47:=Tryz.func135.trans (congrArg some (by kernel_rfl))
 f48:=Tryz.func136.trans (congrArg some (by kernel_rfl))
 f49:=⟨Tryz.f137.name,by decide,Tryz.func137.trans (congrArg some (by kernel_rfl))⟩
 f50:=⟨Tryz.f138.name,by decide,Tryz.func138.trans (congrArg some (by kernel_rfl))⟩
 f57:=⟨Tryz.f146.name,by decide,Tryz.func146.trans (congrArg some (by kernel_rfl))⟩
 t0:=Tryz.underlying0
 a0:=Tryz.isAgg0
 z0:=Tryz.sizeOf0
 v0:=Tryz.zeroValue0
 t3:=Tryz.underlying3
 a3:=Tryz.isAgg3
 z3:=Tryz.sizeOf3
 v3:=Tryz.zeroValue3
 t4:=Tryz.underlying4
 a4:=Tryz.isAgg4
 z4:=Tryz.sizeOf4
 v4:=Tryz.zeroValue4
 t5:=Tryz.underlying5
 a5:=Tryz.isAgg5
 z5:=Tryz.sizeOf5
 v5:=Tryz.zeroValue5
 t9:=Tryz.underlying9
 a9:=Tryz.isAgg9
 z9:=Tryz.sizeOf9
 v9:=Tryz.zeroValue9
 t22:=Tryz.underlying24
 a22:=Tryz.isAgg24
 z22:=Tryz.sizeOf24
 v22:=Tryz.zeroValue24
 t25:=Tryz.underlying131
 a25:=Tryz.isAgg131
 z25:=Tryz.sizeOf131
 v25:=Tryz.zeroValue131
 t39:=Tryz.underlying145
 a39:=Tryz.isAgg145
 z39:=Tryz.sizeOf145
 v39:=Tryz.zeroValue145
 t45:=Tryz.underlying198
 a45:=Tryz.isAgg198
 z45:=Tryz.sizeOf198
 v45:=Tryz.zeroValue198
 t46:=Tryz.underlying199
 a46:=Tryz.isAgg199
 z46:=Tryz.sizeOf199
 v46:=Tryz.zeroValue199
 t50:=Tryz.underlying171
 a50:=Tryz.isAgg171
 z50:=Tryz.sizeOf171
 v50:=Tryz.zeroValue171
 t53:=Tryz.underlying189
 a53:=Tryz.isAgg189
 z53:=Tryz.sizeOf189
 v53:=Tryz.zeroValue189
 t55:=Tryz.underlying192
 a55:=Tryz.isAgg192
 z55:=Tryz.sizeOf192
 v55:=Tryz.zeroValue192
 t66:=Tryz.underlying216
 a66:=Tryz.isAgg216
 z66:=Tryz.sizeOf216
 v66:=Tryz.zeroValue216
 t70:=Tryz.underlying220
 a70:=Tryz.isAgg220
 z70:=Tryz.sizeOf220
 v70:=Tryz.zeroValue220
 t76:=Tryz.underlying228
 a76:=Tryz.isAgg228
 z76:=Tryz.sizeOf228
 v76:=Tryz.zeroValue228
 t77:=Tryz.underlying229
 a77:=Tryz.isAgg229
 z77:=Tryz.sizeOf229
 v77:=Tryz.zeroValue229 }
def Tryz.sortChild_ren:Go.Shelf.Ren:=⟨fun|6=>65|15=>89|14=>93|28=>117|29=>118|20=>119|21=>120|22=>121|23=>122|24=>123|25=>124|26=>125|27=>126|46=>139|47=>135|48=>136|49=>140|50=>141|57=>147|n=>n,fun|22=>48|24=>53|25=>139|3=>3|39=>145|0=>0|53=>189|55=>192|4=>4|46=>199|45=>198|50=>171|5=>5|9=>9|66=>216|70=>220|76=>228|77=>229|n=>n,fun|n=>n⟩
theorem Tryz.sortChild:Go.Proofs.SlLaysF0.n6 Tryz.prog Tryz.sortChild_ren:={
 mixed:=by kernel_rfl
 f6:=⟨Tryz.f65.name,by decide,Tryz.func65.trans (congrArg some (by kernel_rfl))⟩
 f14:=⟨Tryz.f93.name,by decide,Tryz.func93.trans (congrArg some (by kernel_rfl))⟩
 f15:=Tryz.func89.trans (congrArg some (by kernel_rfl))
 f20:=⟨Tryz.f119.name,by decide,Tryz.func119.trans (congrArg some (by kernel_rfl))⟩
 f21:=⟨Tryz.f120.name,by decide,Tryz.func120.trans (congrArg some (by kernel_rfl))⟩
 f22:=⟨Tryz.f121.name,by decide,Tryz.func121.trans (congrArg some (by kernel_rfl))⟩
 f23:=⟨Tryz.f122.name,by decide,Tryz.func122.trans (congrArg some (by kernel_rfl))⟩
 f24:=⟨Tryz.f123.name,by decide,Tryz.func123.trans (congrArg some (by kernel_rfl))⟩
 f25:=⟨Tryz.f124.name,by decide,Tryz.func124.trans (congrArg some (by kernel_rfl))⟩
 f26:=⟨Tryz.f125.name,by decide,Tryz.func125.trans (congrArg some (by kernel_rfl))⟩
 f27:=⟨Tryz.f126.name,by decide,Tryz.func126.trans (congrArg some (by kernel_rfl))⟩
 f28:=Tryz.func117.trans (congrArg some (by kernel_rfl))
 f29:=Tryz.func118.trans (congrArg some (by kernel_rfl))
 f46:=⟨Tryz.f139.name,by decide,Tryz.func139.trans (congrArg some (by kernel_rfl))⟩
 f47:=Tryz.func135.trans (congrArg some (by kernel_rfl))
 f48:=Tryz.func136.trans (congrArg some (by kernel_rfl))
 f49:=⟨Tryz.f140.name,by decide,Tryz.func140.trans (congrArg some (by kernel_rfl))⟩
 f50:=⟨Tryz.f141.name,by decide,Tryz.func141.trans (congrArg some (by kernel_rfl))⟩
 f57:=⟨Tryz.f147.name,by decide,Tryz.func147.trans (congrArg some (by kernel_rfl))⟩
 t0:=Tryz.underlying0
 a0:=Tryz.isAgg0
 z0:=Tryz.sizeOf0
 v0:=Tryz.zeroValue0
 t3:=Tryz.underlying3
 a3:=Tryz.isAgg3
 z3:=Tryz.sizeOf3
 v3:=Tryz.zeroValue3
 t4:=Tryz.underlying4
 a4:=Tryz.isAgg4
 z4:=Tryz.sizeOf4
 v4:=Tryz.zeroValue4
 t5:=Tryz.underlying5
 a5:=Tryz.isAgg5
 z5:=Tryz.sizeOf5
 v5:=Tryz.zeroValue5
 t9:=Tryz.underlying9
 a9:=Tryz.isAgg9
 z9:=Tryz.sizeOf9
 v9:=Tryz.zeroValue9
 t22:=Tryz.underlying48
 a22:=Tryz.isAgg48
 z22:=Tryz.sizeOf48
 v22:=Tryz.zeroValue48
 t25:=Tryz.underlying139
 a25:=Tryz.isAgg139
 z25:=Tryz.sizeOf139
 v25:=Tryz.zeroValue139
 t39:=Tryz.underlying145
 a39:=Tryz.isAgg145
 z39:=Tryz.sizeOf145
 v39:=Tryz.zeroValue145
 t45:=Tryz.underlying198
 a45:=Tryz.isAgg198
 z45:=Tryz.sizeOf198
 v45:=Tryz.zeroValue198
 t46:=Tryz.underlying199
 a46:=Tryz.isAgg199
 z46:=Tryz.sizeOf199
 v46:=Tryz.zeroValue199
 t50:=Tryz.underlying171
 a50:=Tryz.isAgg171
 z50:=Tryz.sizeOf171
 v50:=Tryz.zeroValue171
 t53:=Tryz.underlying189
 a53:=Tryz.isAgg189
 z53:=Tryz.sizeOf189
 v53:=Tryz.zeroValue189
 t55:=Tryz.underlying192
 a55:=Tryz.isAgg192
 z55:=Tryz.sizeOf192
 v55:=Tryz.zeroValue192
 t66:=Tryz.underlying216
 a66:=Tryz.isAgg216
 z66:=Tryz.sizeOf216
 v66:=Tryz.zeroValue216
 t70:=Tryz.underlying220
 a70:=Tryz.isAgg220
 z70:=Tryz.sizeOf220
 v70:=Tryz.zeroValue220
 t76:=Tryz.underlying228
 a76:=Tryz.isAgg228
 z76:=Tryz.sizeOf228
 v76:=Tryz.zeroValue228
 t77:=Tryz.underlying229
 a77:=Tryz.isAgg229
 z77:=Tryz.sizeOf229
 v77:=Tryz.zeroValue229 }
end Go.Proofs
namespace Go.Proofs.YtlgipkemoldckaaGreatDoor
open Go.RowKit Go.Sort Go.Shelf
theorem WO {α:Type} {l:List α} {i:Nat} {x:α} (h:l[i]?=some x):l.Perm (x :: l.eraseIdx i):=by
 induction l generalizing i with
 | nil=>simp at h
 | cons y l ih =>
  cases i with
  | zero=>simp at h;subst h;simp
  | succ i =>
   simp at h
   exact (List.Perm.cons y (ih h)).trans (List.Perm.swap x y _)
theorem Xw:(Tryz.prog.info? 53).map (fun i=>(i.zero,i.size,i.bytes))=some (some (.agg #[.int .i64 0,.int .i64 0,.int .i64 0,.int .i64 0,.string ⟨#[]⟩]),5,48):=by kernel_rfl
end Go.Proofs.YtlgipkemoldckaaGreatDoor
namespace Go.Proofs.YtlgipkemoldckaaGreatDoor
open Go.RowKit
def St.cells (s:St):List Value:=[.int .i64 s.n,.int .i64 s.r]
theorem Z0X:(Tryz.prog.info? 23).map (fun i=>(i.zero,i.size,i.bytes))=some (some (.agg #[.int .i64 0,.int .i64 0]),2,16):=by kernel_rfl
section
variable {base:Nat} {w:World} {mh:Nat} {c:List (St × Ch)}
end
structure SlK where
 a:Option Addr
 n:Nat
 cap:Nat
theorem UK (W:World) (x:Ch):∀ j u,(Ch.cells x)[j]?=some u→(W.alloc (.cells #[.int .i64 x.block.n,.int .i64 x.block.r,.int .i64 x.under.n,.int .i64 x.under.r,.string x.key] 53)).cell? ⟨W.heap.size,j,none⟩=some u:=by
 intro j u hj
 rw[World.cell?_alloc_at _ _ _ _ rfl,←hj,Ch.cells]
 simp
theorem Ch.one (p:Ch):∀ u∈p.cells,u.oneCell'=true:=by
 intro u hu
 simp only[Ch.cells,List.mem_cons,List.not_mem_nil,or_false] at hu
 rcases hu with rfl|rfl|rfl|rfl|rfl <;> rfl
theorem Ch.len (p:Ch):p.cells.length=5:=rfl
theorem StC.one (p:St):∀ u∈St.cells p,u.oneCell'=true:=by
 intro u hu
 simp only[St.cells,List.mem_cons,List.not_mem_nil,or_false] at hu
 rcases hu with rfl|rfl <;> rfl
theorem StC.len (p:St):(St.cells p).length=2:=rfl
theorem RS (W:World) (x:St):∀ j u,(St.cells x)[j]?=some u→(W.alloc (.cells #[.int .i64 x.n,.int .i64 x.r] 23)).cell? ⟨W.heap.size,j,none⟩=some u:=by
 intro j u hj
 rw[World.cell?_alloc_at _ _ _ _ rfl,←hj,St.cells]
 simp
theorem Z0V {x:Ch} {bn br:Int} (h:x.under≠⟨bn,br⟩) (e:x.under.n=bn):¬ x.under.r=br:=fun e2=>h (by
 obtain ⟨b,⟨n,r⟩,k⟩:=x
 simp only at e e2
 rw[e,e2])
def Z1m (w:World) (hh:Zk) (u:St) (e:Ending) (w':World):Prop:=∃ v' K,e=.returned v'∧Own St.cells 2 23 w.heap.size w' v' (K.map Ch.block)∧WL hh u K∧Below w.heap.size w w'
theorem TE (v:Value) (l:List Ch) (un ur:Int) (w:World) (h:Z5 Ch.cells 5 w v l) (hl:l.length≤1000) {hh:Zk} (ha:Zo hh l) :
  Calls Tryz.prog 84 #[v,.agg #[.int .i64 un,.int .i64 ur]] w fun e w'=>Z1m w hh ⟨un,ur⟩ e w':=by
 obtain ⟨a,cap,rfl,hcap,hmax,_⟩:=id h
 unfold maxLen at hmax
 obtain ⟨i0,hi,hz0,hz1,hz2⟩:=info_parts Xw
 obtain ⟨i1,hi1,hy0,hy1,hy2⟩:=info_parts Z0X
 have q0:(w.alloc (.cells #[.int .i64 un,.int .i64 ur] 23)).cell? ⟨w.heap.size,0,none⟩=some (.int .i64 un):=by go_simp
 have q1:(w.alloc (.cells #[.int .i64 un,.int .i64 ur] 23)).cell? ⟨w.heap.size,1,none⟩=some (.int .i64 ur):=by go_simp
 have hB0:Below w.heap.size w (w.alloc (.cells #[.int .i64 un,.int .i64 ur] 23)):=(Below.refl _ _).alloc (Nat.le_refl _) _
 have HH:=Jh (h.below hB0)
 have HB0:=Lib.hid hB0
 have HA:=Lib.hid ha
 clear h hB0 ha
 go_enter Tryz.func84,Tryz.ntmps84
 go_upto_block 0 with fail
 generalize w.alloc (.cells #[.int .i64 un,.int .i64 ur] 23)=w1 at *
 go_wp2_with fail
 go_loopg [5,6] l.length (fun g vv iv wr=>∃ (k:Nat) (s:SlK) (M:List Ch),g=l.length - k∧k≤l.length∧vv=.slice s.a s.n s.cap∧iv=.int .i64 k∧Hid (YF hh ⟨un,ur⟩ l k M∧Own Ch.cells 5 53 w1.heap.size wr (.slice s.a s.n s.cap) M∧Below w1.heap.size w1 wr))
 case atStart=>exact ⟨0,⟨none,0,0⟩,[],by omega,by omega,rfl,rfl,Lib.hid ⟨RN _ _ _,Own.nil,Below.refl _ _⟩⟩
 case round =>
  obtain ⟨k,⟨sa,sn,sc⟩,M,hg,hk,rfl,rfl,hU⟩:=hrel
  dsimp only at hU ⊢
  have HGG:=Lib.hid hg
  clear hg
  by_cases hkl:k<l.length
  ·obtain ⟨x,hx⟩:∃ x,l[k]?=some x:=⟨_,List.getElem?_eq_getElem hkl⟩
   obtain ⟨b,o,c1,e1,h1⟩:=(HH.out.below hU.out.2.2).dcells (by intro e;rw[e] at hkl;simp at hkl)
   cases e1
   obtain ⟨-,-,x2,x3,-⟩:=h1 k x hx
   have q0':=Z0 hU.out.2.2 q0
   have q1':=Z0 hU.out.2.2 q1
   have HX:=Lib.hid hx
   have HD:Hid (∀ n,Own Ch.cells 5 53 w1.heap.size (wr.drewN n) (.slice sa sn sc) M∧Below w1.heap.size w1 (wr.drewN n)):=Jh (fun n=>⟨hU.out.2.1,below_drewN hU.out.2.2 n⟩)
   have HUT:=Lib.hid hU.out.1
   have hkk:(k:Int)<(l.length:Int):=by omega
   clear h1 hx hU
   by_cases hb:x.under=⟨un,ur⟩
   ·have e1:x.under.n=un:=by rw[hb]
    have e2:x.under.r=ur:=by rw[hb]
    have HBU:=Lib.hid hb
    rw[e1] at x2
    rw[e2] at x3
    clear hb e1 e2
    go_wp2_with fail
    go_quiet (fail)
    have hD:=HD.out nq
    generalize wr.drewN nq=wx at *
    clear HD x2 x3 q0' q1'
    obtain ⟨b2,o2,c2,e2,h2⟩:=(HH.out.below hD.2).dcells (by intro e;rw[e] at hkl;simp at hkl)
    cases e2
    obtain ⟨x0,x1,x2,x3,x4⟩:=h2 k x HX.out
    have hml:=HUT.out.len (by omega)
    have hsz:=hD.2.size
    obtain ⟨hsn,-,-⟩:=hD.1.slice Ch.len |> fun h=>(by obtain ⟨_,_,e,_⟩:=h;cases e;exact ⟨rfl,trivial,trivial⟩:sn=M.length∧True∧True)
    subst hsn
    clear h2
    go_wp2_with (at_builtin;refine Zq rfl _ _ _ rfl i0 _ 48 Tryz.underlying48 hi hz0 hz1 hz2 rfl (by omega) Ch.len Ch.one rfl (hD.1.alloc _) x wx.heap.size 1 rfl (UK _ x) (by unfold maxLen;omega) (by omega) (by simp;omega) ?_)
    intro v' w3 hown3 hx3
    obtain ⟨g3,c3,e3⟩:∃ g3 c3,v'=.slice (some ⟨g3,0,none⟩) (M++[x]).length c3:=by
     rcases hown3.eq_slice with ⟨_,e⟩|⟨g,c,e,_⟩
     ·simp at e
     ·exact ⟨g,c,e⟩
    subst e3
    have hB3:=Ext.new (hD.2.alloc hD.2.size (.cells #[.int .i64 x.block.n,.int .i64 x.block.r,.int .i64 x.under.n,.int .i64 x.under.r,.string x.key] 53)) hx3 (fun i hi _ e=>by have:=(hD.1.blk i e).1;omega) (by simp;omega)
    obtain ⟨-,hc3,hm3⟩:=hown3.lenI Ch.len
    have hins:=Vd HUT.out.ord x
    obtain ⟨mm,hmm⟩:=Je (M.length)
    have hlm:(M++[x]).length=mm+1:=by simp[hmm]
    rw[hmm] at hins hml
    rw[hlm] at hown3 hc3 ⊢
    have HI0:Hid (Wg YA (M++[x]) (M++[x]) mm∧Own Ch.cells 5 53 w1.heap.size w3 (.slice (some ⟨g3,0,none⟩) (mm+1) c3) (M++[x])∧Below w1.heap.size w1 w3):=Lib.hid ⟨hins,hown3,hB3⟩
    have HND:Hid ((M++[x]).Nodup):=Jh (by
     rw[List.nodup_append]
     refine ⟨HUT.out.ord.imp (fun {a b} h e=>by rw[e] at h;exact XX _ h),by simp,fun a ha b hb e=>?_⟩
     rw[List.mem_singleton] at hb
     subst hb
     have:=HUT.out.later HA.out HX.out ha
     rw[e] at this
     exact Zm _ this)
    have HMM:=Lib.hid hmm
    have HLM:=Lib.hid hlm
    clear hown3 hx3 hB3 hins hD hmm hlm x0 x1 x2 x3 x4
    obtain ⟨m,hm⟩:=Je (mm+1)
    have hm1:(m:Int) - 1=(mm:Int):=by omega
    rw[hm] at HI0 HLM hc3 ⊢
    have HM:=Lib.hid hm
    have hmb:m≤1001:=by omega
    go_wp2_with fail
    go_loopg [7] mm (fun g jv wr=>∃ (j:Nat) (zs:List Ch),g=j∧j≤mm∧jv=.int .i64 j∧zs.length=m∧Hid (zs[j]?=some x)∧Hid (Wg YA (M++[x]) zs j∧Own Ch.cells 5 53 w1.heap.size wr (.slice (some ⟨g3,0,none⟩) m c3) zs∧Below w1.heap.size w1 wr))
    case atStart=>exact ⟨mm,_,rfl,by omega,by simp,HLM.out,Jh (by rw[List.getElem?_append_right (by rw[HMM.out];omega),HMM.out,Nat.sub_self];rfl),HI0⟩
    case round =>
     obtain ⟨j,zs,hg,hj,rfl,hzl,hzx,hV⟩:=hrel
     have HGJ:=Lib.hid hg
     clear hg
     have hdone:zs.Pairwise YA→Hid (YF hh ⟨un,ur⟩ l (k+1) zs):=fun h=>Jh (HUT.out.put HX.out HBU.out hV.out.1.perm h)
     have HV2:Hid (∀ n,Own Ch.cells 5 53 w1.heap.size (wr.drewN n) (.slice (some ⟨g3,0,none⟩) m c3) zs∧Below w1.heap.size w1 (wr.drewN n)):=Jh (fun n=>⟨hV.out.2.1,below_drewN hV.out.2.2 n⟩)
     by_cases hj0:0<j
     ·obtain ⟨p,hp⟩:∃ p,zs[j]?=some p:=⟨_,List.getElem?_eq_getElem (by omega)⟩
      obtain ⟨q,hq⟩:∃ q,zs[j - 1]?=some q:=⟨_,List.getElem?_eq_getElem (by omega)⟩
      have ho:=hV.out.2.1
      have p4:=ho.cellI (j:=4) Ch.len hp rfl
      have q4:=ho.cellI (j:=4) Ch.len hq rfl
      have hj1:(0:Int)<(j:Int):=by omega
      have hjz:((j - 1:Nat):Int)=(j:Int) - 1:=by omega
      by_cases hlt:X3 p<X3 q
      ·have hb:Op.bytesLess p.key.toList q.key.toList=true:=by rw[bytesLess_eq];simpa [X3] using hlt
       have HSW:=Jh (hV.out.1.swap hj0 hp hq (.inl hlt))
       have HPQ:=Jh (And.intro hp hq)
       clear hV ho hp hq hdone hlt
       go_upto_region 8 with fail
       go_quiet (fail)
       have hV3:=HV2.out nq
       generalize wr.drewN nq=wx at *
       clear HV2 p4 q4 hb
       obtain ⟨ho,hbx⟩:=hV3
       have p0:=ho.cellI (j:=0) Ch.len HPQ.out.1 rfl
       have p1:=ho.cellI (j:=1) Ch.len HPQ.out.1 rfl
       have p2:=ho.cellI (j:=2) Ch.len HPQ.out.1 rfl
       have p3:=ho.cellI (j:=3) Ch.len HPQ.out.1 rfl
       have p4:=ho.cellI (j:=4) Ch.len HPQ.out.1 rfl
       simp only[Nat.add_zero] at p0
       have hgb:=ho.blk g3 rfl
       have hoy:=ho.alloc (.cells #[.int .i64 p.block.n,.int .i64 p.block.r,.int .i64 p.under.n,.int .i64 p.under.r,.string p.key] 53)
       have hby:=hbx.alloc hbx.size (.cells #[.int .i64 p.block.n,.int .i64 p.block.r,.int .i64 p.under.n,.int .i64 p.under.r,.string p.key] 53)
       have z0:(wx.alloc (.cells #[.int .i64 p.block.n,.int .i64 p.block.r,.int .i64 p.under.n,.int .i64 p.under.r,.string p.key] 53)).cell? ⟨wx.heap.size,0,none⟩=some (.int .i64 p.block.n):=by go_simp
       have z1:(wx.alloc (.cells #[.int .i64 p.block.n,.int .i64 p.block.r,.int .i64 p.under.n,.int .i64 p.under.r,.string p.key] 53)).cell? ⟨wx.heap.size,1,none⟩=some (.int .i64 p.block.r):=by go_simp
       have z2:(wx.alloc (.cells #[.int .i64 p.block.n,.int .i64 p.block.r,.int .i64 p.under.n,.int .i64 p.under.r,.string p.key] 53)).cell? ⟨wx.heap.size,2,none⟩=some (.int .i64 p.under.n):=by go_simp
       have z3:(wx.alloc (.cells #[.int .i64 p.block.n,.int .i64 p.block.r,.int .i64 p.under.n,.int .i64 p.under.r,.string p.key] 53)).cell? ⟨wx.heap.size,3,none⟩=some (.int .i64 p.under.r):=by go_simp
       have z4:(wx.alloc (.cells #[.int .i64 p.block.n,.int .i64 p.block.r,.int .i64 p.under.n,.int .i64 p.under.r,.string p.key] 53)).cell? ⟨wx.heap.size,4,none⟩=some (.string p.key):=by go_simp
       have HOY:=Jh (And.intro hoy hby)
       clear hoy hby
       go_upto_region 11 with fail
       generalize wx.alloc (.cells #[.int .i64 p.block.n,.int .i64 p.block.r,.int .i64 p.under.n,.int .i64 p.under.r,.string p.key] 53)=wy at *
       clear p0 p1 p2 p3 p4
       obtain ⟨hoy,hby⟩:=HOY.out
       have q0:=hoy.cellI (j:=0) Ch.len HPQ.out.2 rfl
       have f0:=hoy.freeI (j*5)
       have r0:=hoy.cellI (j:=0) Ch.len HPQ.out.1 rfl
       have q1:=hoy.cellI (j:=1) Ch.len HPQ.out.2 rfl
       have f1:=hoy.freeI (j*5+1)
       have r1:=hoy.cellI (j:=1) Ch.len HPQ.out.1 rfl
       have q2:=hoy.cellI (j:=2) Ch.len HPQ.out.2 rfl
       have f2:=hoy.freeI (j*5+2)
       have r2:=hoy.cellI (j:=2) Ch.len HPQ.out.1 rfl
       have q3:=hoy.cellI (j:=3) Ch.len HPQ.out.2 rfl
       have f3:=hoy.freeI (j*5+3)
       have r3:=hoy.cellI (j:=3) Ch.len HPQ.out.1 rfl
       have q4:=hoy.cellI (j:=4) Ch.len HPQ.out.2 rfl
       have f4:=hoy.freeI (j*5+4)
       have r4:=hoy.cellI (j:=4) Ch.len HPQ.out.1 rfl
       simp only[Nat.add_zero] at q0 r0
       have ho1:Own Ch.cells 5 53 w1.heap.size (((((wy.setCell ⟨g3,j*5,none⟩ (.int .i64 q.block.n)).setCell ⟨g3,j*5+1,none⟩ (.int .i64 q.block.r)).setCell ⟨g3,j*5+2,none⟩ (.int .i64 q.under.n)).setCell ⟨g3,j*5+3,none⟩ (.int .i64 q.under.r)).setCell ⟨g3,j*5+4,none⟩ (.string q.key)) (.slice (some ⟨g3,0,none⟩) m c3) (zs.set j q):=X9 (y:=q) Ch.len (by omega) hzl hoy HPQ.out.1
       have hb1:Below w1.heap.size _ (((((wy.setCell ⟨g3,j*5,none⟩ (.int .i64 q.block.n)).setCell ⟨g3,j*5+1,none⟩ (.int .i64 q.block.r)).setCell ⟨g3,j*5+2,none⟩ (.int .i64 q.under.n)).setCell ⟨g3,j*5+3,none⟩ (.int .i64 q.under.r)).setCell ⟨g3,j*5+4,none⟩ (.string q.key)):=(((((hby.setCell hgb.1 _).setCell hgb.1 _).setCell hgb.1 _).setCell hgb.1 _).setCell hgb.1 _)
       have hx1:Ext (·=g3) wy (((((wy.setCell ⟨g3,j*5,none⟩ (.int .i64 q.block.n)).setCell ⟨g3,j*5+1,none⟩ (.int .i64 q.block.r)).setCell ⟨g3,j*5+2,none⟩ (.int .i64 q.under.n)).setCell ⟨g3,j*5+3,none⟩ (.int .i64 q.under.r)).setCell ⟨g3,j*5+4,none⟩ (.string q.key)):=X1 (o:=j*5) (Ch.cells q) 0 wy
       have hne:¬ wx.heap.size=g3:=by omega
       replace z0:=hx1.keep z0 hne
       replace z1:=hx1.keep z1 hne
       replace z2:=hx1.keep z2 hne
       replace z3:=hx1.keep z3 hne
       replace z4:=hx1.keep z4 hne
       have HO1:=Jh (And.intro ho1 hb1)
       clear ho1 hb1 hx1 hoy hby HOY
       have HZ0:=Lib.hid z0
       have HZ1:=Lib.hid z1
       have HZ2:=Lib.hid z2
       have HZ3:=Lib.hid z3
       have HZ4:=Lib.hid z4
       clear z0 z1 z2 z3 z4
       go_upto_region 12 with fail
       generalize (((((wy.setCell ⟨g3,j*5,none⟩ (.int .i64 q.block.n)).setCell ⟨g3,j*5+1,none⟩ (.int .i64 q.block.r)).setCell ⟨g3,j*5+2,none⟩ (.int .i64 q.under.n)).setCell ⟨g3,j*5+3,none⟩ (.int .i64 q.under.r)).setCell ⟨g3,j*5+4,none⟩ (.string q.key))=wz at *
       clear q0 f0 r0 q1 f1 r1 q2 f2 r2 q3 f3 r3 q4 f4 r4
       obtain ⟨ho1,hb1⟩:=HO1.out
       have z0:=HZ0.out
       have z1:=HZ1.out
       have z2:=HZ2.out
       have z3:=HZ3.out
       have z4:=HZ4.out
       have f0:=ho1.freeI ((j - 1)*5)
       have f1:=ho1.freeI ((j - 1)*5+1)
       have f2:=ho1.freeI ((j - 1)*5+2)
       have f3:=ho1.freeI ((j - 1)*5+3)
       have f4:=ho1.freeI ((j - 1)*5+4)
       have hq1:(zs.set j q)[j - 1]?=some q:=by rw[List.getElem?_set,if_neg (by omega)];exact HPQ.out.2
       have e0:=ho1.cellI (j:=0) Ch.len hq1 rfl
       have e1:=ho1.cellI (j:=1) Ch.len hq1 rfl
       have e2:=ho1.cellI (j:=2) Ch.len hq1 rfl
       have e3:=ho1.cellI (j:=3) Ch.len hq1 rfl
       have e4:=ho1.cellI (j:=4) Ch.len hq1 rfl
       simp only[Nat.add_zero] at e0
       have ho2:Own Ch.cells 5 53 w1.heap.size (((((wz.setCell ⟨g3,(j - 1)*5,none⟩ (.int .i64 p.block.n)).setCell ⟨g3,(j - 1)*5+1,none⟩ (.int .i64 p.block.r)).setCell ⟨g3,(j - 1)*5+2,none⟩ (.int .i64 p.under.n)).setCell ⟨g3,(j - 1)*5+3,none⟩ (.int .i64 p.under.r)).setCell ⟨g3,(j - 1)*5+4,none⟩ (.string p.key)) (.slice (some ⟨g3,0,none⟩) m c3) (YL zs j p q):=X9 (y:=p) Ch.len (by omega) (by rw[List.length_set];exact hzl) ho1 hq1
       have hb2:Below w1.heap.size _ (((((wz.setCell ⟨g3,(j - 1)*5,none⟩ (.int .i64 p.block.n)).setCell ⟨g3,(j - 1)*5+1,none⟩ (.int .i64 p.block.r)).setCell ⟨g3,(j - 1)*5+2,none⟩ (.int .i64 p.under.n)).setCell ⟨g3,(j - 1)*5+3,none⟩ (.int .i64 p.under.r)).setCell ⟨g3,(j - 1)*5+4,none⟩ (.string p.key)):=(((((hb1.setCell hgb.1 _).setCell hgb.1 _).setCell hgb.1 _).setCell hgb.1 _).setCell hgb.1 _)
       clear ho1 hb1 hq1 HO1 HZ0 HZ1 HZ2 HZ3 HZ4
       have HN:=Jh (And.intro HSW.out (And.intro ho2 hb2))
       clear ho2 hb2 ho hbx hgb hne
       go_wp2_with fail
       go_roundg (j - 1)
       case measure=>rw[HGJ.out];omega
       case rel=>exact ⟨j - 1,_,rfl,by omega,by simp;omega,by rw[Vz];exact hzl,Jh (by rw[Xu zs hj0 HPQ.out.1 HPQ.out.2,if_pos rfl,←HPQ.out.1,hzx.out]),HN⟩
      ·have hb:Op.bytesLess p.key.toList q.key.toList=false:=by rw[bytesLess_eq];simpa [X3] using hlt
       have HN0:=hdone (hV.out.1.stands (fun _ _ _ a b=>WX a b) (fun x' y' _ hx' hy'=>by
        rw[hp] at hx';rw[hq] at hy';cases hx';cases hy'
        have hpx:p=x:=by have:=hzx.out;rw[hp] at this;exact Option.some.inj this
        have hqM:q∈M:=by
         have h1:=hV.out.1.perm.mem_iff.1 (List.mem_of_getElem? hq)
         rcases List.mem_append.1 h1 with h1|h1
         ·exact h1
         ·have hnd:=hV.out.1.perm.nodup_iff.2 HND.out
          rw[List.mem_singleton.1 h1,←hpx] at hq
          exact absurd rfl (X2.1 hnd (j - 1) j p p (by omega) hq hp)
        have hlater:=HUT.out.later HA.out HX.out hqM
        rw[←hpx] at hlater
        rcases Te p q with t|t|t
        ·rcases t with t|⟨t,t2⟩
         ·exact absurd t hlt
         ·exact absurd (ZC t2 hlater) (Zm _)
        ·rw[t] at hlater;exact absurd hlater (Zm _)
        ·exact t))
       clear hV ho hp hq hdone hlt
       go_upto_region 8 with fail
       go_quiet (fail)
       have HN1:=Jh (And.intro HN0.out (HV2.out nq))
       go_wp2_with fail
       go_roundg (l.length - (k+1))
       case measure=>rw[HGG.out];omega
       case rel=>exact ⟨k+1,⟨_,_,_⟩,zs,rfl,by omega,rfl,by simp,HN1⟩
     ·have HN0:=hdone (hV.out.1.stands (fun _ _ _ a b=>WX a b) (fun x y h0 _ _=>absurd h0 hj0))
      have hj1:¬ (0:Int)<(j:Int):=by omega
      clear hV hdone
      go_upto_region 8 with fail
      go_quiet (fail)
      have HN1:=Jh (And.intro HN0.out (HV2.out nq))
      go_wp2_with fail
      go_roundg (l.length - (k+1))
      case measure=>rw[HGG.out];omega
      case rel=>exact ⟨k+1,⟨_,_,_⟩,zs,rfl,by omega,rfl,by simp,HN1⟩
   ·have hor:(¬ x.under.n=un)∨(x.under.n=un∧¬ x.under.r=ur):=by
     by_cases e1:x.under.n=un
     ·exact .inr ⟨e1,Z0V hb e1⟩
     ·exact .inl e1
    have HUT2:=Jh (HUT.out.skip HX.out hb)
    clear hb
    rcases hor with e1|⟨e1,e2⟩
    ·go_wp2_with fail
     go_quiet (fail)
     have HN1:=Jh (And.intro HUT2.out (HD.out nq))
     go_wp2_with fail
     go_roundg (l.length - (k+1))
     case measure=>rw[HGG.out];omega
     case rel=>exact ⟨k+1,⟨_,_,_⟩,M,rfl,by omega,rfl,by simp,HN1⟩
    ·rw[e1] at x2
     clear e1
     go_wp2_with fail
     go_quiet (fail)
     have HN1:=Jh (And.intro HUT2.out (HD.out nq))
     go_wp2_with fail
     go_roundg (l.length - (k+1))
     case measure=>rw[HGG.out];omega
     case rel=>exact ⟨k+1,⟨_,_,_⟩,M,rfl,by omega,rfl,by simp,HN1⟩
  ·obtain rfl:k=l.length:=by omega
   have hK:=hU.out.1.all HA.out
   have hml:=hU.out.1.len (Nat.le_refl _)
   obtain ⟨hsn,hc3,hm3⟩:=(hU.out.2.1.slice Ch.len) |> fun h=>(by obtain ⟨_,_,e,h2,h3,_⟩:=h;cases e;exact ⟨rfl,h2,h3⟩:sn=M.length∧M.length≤sc∧sc≤maxLen)
   subst hsn
   unfold maxLen at hm3
   obtain ⟨wm,hwm⟩:∃ wm,wm=wr:=⟨_,rfl⟩
   subst hwm
   have HK:=Jh (And.intro hK hU.out.2)
   have hwz:=hU.out.2.2.size
   have hkk:¬ (l.length:Int)<(l.length:Int):=by omega
   clear hU hK hk hkl
   go_wp2_with fail
   go_loopg [9,10] M.length (fun g vv iv wr=>∃ (j:Nat) (s:SlK),g=M.length - j∧j≤M.length∧vv=.slice s.a s.n s.cap∧iv=.int .i64 j∧Hid (Own St.cells 2 23 wm.heap.size wr (.slice s.a s.n s.cap) ((M.take j).map Ch.block)∧Below wm.heap.size wm wr))
   case atStart=>exact ⟨0,⟨none,0,0⟩,by omega,by omega,rfl,rfl,Lib.hid ⟨Own.nil,Below.refl _ _⟩⟩
   case round =>
    obtain ⟨j,⟨ta,tn,tc⟩,hg,hj,rfl,rfl,hV⟩:=hrel
    dsimp only at hV ⊢
    have HGJ:=Lib.hid hg
    clear hg
    by_cases hjl:j<M.length
    ·obtain ⟨y,hy⟩:∃ y,M[j]?=some y:=⟨_,List.getElem?_eq_getElem hjl⟩
     obtain ⟨b,o,c9,e9,h9⟩:=((HK.out.2.1.slice Ch.len).below hV.out.2).dcells (by intro e;rw[e] at hjl;simp at hjl)
     cases e9
     obtain ⟨y0,y1,-,-,-⟩:=h9 j y hy
     have hst:=hV.out.2.size
     have htk:(M.take (j+1)).map Ch.block=(M.take j).map Ch.block++[y.block]:=by rw[List.take_add_one,hy];simp
     have HTK:=Lib.hid htk
     have htl:((M.take j).map Ch.block).length=j:=by rw[List.length_map,List.length_take];omega
     clear hy h9 htk
     go_wp2_with (at_builtin;refine Zq rfl _ _ _ rfl i1 _ 16 Tryz.underlying43 hi1 hy0 hy1 hy2 rfl (by omega) StC.len StC.one rfl (hV.out.1.alloc _) y.block wr.heap.size 1 rfl (RS _ y.block) (by unfold maxLen;omega) (by omega) (by simp;omega) ?_)
     intro v' w3 hown3 hx3
     obtain ⟨⟨ua,un',uc⟩,e3⟩:∃ s:SlK,v'=.slice s.a s.n s.cap:=by
      rcases hown3.eq_slice with ⟨e,_⟩|⟨g,c,e,_⟩
      ·exact ⟨⟨_,_,_⟩,e⟩
      ·exact ⟨⟨_,_,_⟩,e⟩
     dsimp only at e3
     subst e3
     have hB3:=Ext.new (hV.out.2.alloc hV.out.2.size (.cells #[.int .i64 y.block.n,.int .i64 y.block.r] 23)) hx3 (fun i hi _ e=>by have:=(hV.out.1.blk i e).1;omega) (by simp;omega)
     have HN:Hid (Own St.cells 2 23 wm.heap.size w3 (.slice ua un' uc) ((M.take (j+1)).map Ch.block)∧Below wm.heap.size wm w3):=Lib.hid ⟨by rw[HTK.out,List.map_take];exact hown3,hB3⟩
     clear hown3 hx3 hB3 hV
     go_wp2_with fail
     go_roundg (M.length - (j+1))
     case measure=>rw[HGJ.out];omega
     case rel=>exact ⟨j+1,⟨ua,un',uc⟩,rfl,by omega,rfl,by simp,HN⟩
    ·obtain rfl:j=M.length:=by omega
     have hjj:¬ (M.length:Int)<(M.length:Int):=by omega
     have hV1:=hV.out.1
     rw[List.take_length] at hV1
     have hw:=HB0.out.trans ((HK.out.2.2.trans (hV.out.2.mono HK.out.2.2.size)).mono HB0.out.size)
     have HN:=Jh (And.intro (hV1.mono (Nat.le_trans HB0.out.size hwz)) hw)
     clear hV hV1 hw hjl
     go_wp2_with fail
     go_ret
     exact ⟨_,M,rfl,HN.out.1,HK.out.1,HN.out.2⟩
end Go.Proofs.YtlgipkemoldckaaGreatDoor
