/- ViewKinds, part 2 of what the proof leans on (made short by a program). -/
import Derived.Test.YtlgipkemoldckaaGreatDoorVkZ1
import Derived.Sort.Walk0
import Derived.Deep.CutBlock
import Derived.Deep.DeepCutAuto
set_option linter.unusedSimpArgs false
set_option linter.unusedVariables false
set_option linter.unusedSectionVars false
set_option maxRecDepth 20000
set_option maxHeartbeats 30000000
namespace Go.Proofs.YtlgipkemoldckaaGreatDoor
open Go.RowKit
def upd {α:Type} (f:Nat→α) (i:Nat) (x:α):Nat→α:=fun t=>if t=i then x else f t
theorem Ri {α:Type} (f:Nat→α) (i:Nat) (x:α):upd f i x i=x:=by simp[upd]
theorem Sx {α:Type} (f:Nat→α) {i t:Nat} (x:α) (h:t≠i):upd f i x t=f t:=by simp[upd,h]
def Vn (w:World) (blk o:Nat):Nat→List Value→World
 | _,[]=>w
 | j,v :: vs=>Vn (w.setCell ⟨blk,o+j,none⟩ v) blk o (j+1) vs
def V3 (cur:Array Value) (o:Nat):Nat→List Value→Array Value
 | _,[]=>cur
 | j,v :: vs=>V3 (cur.setIfInBounds (o+j) v) o (j+1) vs
theorem T8 (o:Nat):∀ (vs:List Value) (j:Nat) (cur:Array Value),(V3 cur o j vs).size=cur.size
 | [],_,_=>rfl
 | v :: vs,j,cur=>by rw[V3,T8 o vs];simp
theorem TD (o:Nat):∀ (vs:List Value) (j:Nat) (cur:Array Value),o+j+vs.length≤cur.size→∀ t,(V3 cur o j vs)[t]?=if o+j≤t∧t<o+j+vs.length then vs[t - (o+j)]? else cur[t]?
 | [],j,cur,_,t=>by simp[V3];intro h1 h2;omega
 | v :: vs,j,cur,hs,t=>by
  simp only[List.length_cons] at hs
  rw[V3,TD o vs (j+1) _ (by simp;omega) t]
  by_cases h1:t=o+j
  ·subst h1
   have:(o+j)<cur.size:=by omega
   rw[if_neg (by omega),if_pos (by simp)]
   simp[this]
  ·by_cases h2:o+(j+1)≤t∧t<o+(j+1)+vs.length
   ·rw[if_pos h2,if_pos (by simp only[List.length_cons];omega)]
    have:t - (o+j)=(t - (o+(j+1)))+1:=by omega
    rw[this,List.getElem?_cons_succ]
   ·rw[if_neg h2,if_neg (by simp only[List.length_cons];omega),Array.getElem?_setIfInBounds_ne (fun e=>h1 e.symm)]
theorem Q4 {w:World} {blk o:Nat} {cur:Array Value} {T:TypeId} {fr:Nat × Nat} (h:w.heap[blk]?=some (.cells cur T fr)) (v:Value):(w.setCell ⟨blk,o,none⟩ v).heap[blk]?=some (.cells (cur.setIfInBounds o v) T fr):=by
 simp only[World.setCell,Array.getElem?_modify,if_true,h]
 rfl
theorem UV {blk o:Nat} {T:TypeId} {fr:Nat × Nat}:∀ (vs:List Value) (j:Nat) (w:World) (cur:Array Value),w.heap[blk]?=some (.cells cur T fr)→(Vn w blk o j vs).heap[blk]?=some (.cells (V3 cur o j vs) T fr)
 | [],_,_,_,h=>h
 | v :: vs,j,w,cur,h=>UV vs (j+1) _ _ (Q4 h v)
theorem X1 {blk o:Nat}:∀ (vs:List Value) (j:Nat) (w:World),Ext (·=blk) w (Vn w blk o j vs)
 | [],_,_=>Ext.refl _ _
 | v :: vs,j,w=>((Ext.refl (·=blk) w).setCell (p:=⟨blk,o+j,none⟩) (.inr rfl) v).trans (X1 vs (j+1) _)
section
variable {α:Type} {ea:α→List Value} {k:Nat} {T:TypeId} {sz:Nat} {w w':World} {blk n:Nat} {f:Nat→α}
def Z9 (ea:α→List Value) (k:Nat) (T:TypeId) (sz:Nat) (w:World) (blk n:Nat) (f:Nat→α):Prop :=
 ∃ cur,w.heap[blk]?=some (.cells cur T (0,0))∧cur.size=sz∧n*k≤sz∧∀ i,i<n→∀ j u,(ea (f i))[j]?=some u→cur[i*k+j]?=some u
theorem Z9.cell (h:Z9 ea k T sz w blk n f) {i j:Nat} {u:Value} (hi:i<n) (hj:(ea (f i))[j]?=some u):w.cell? ⟨blk,i*k+j,none⟩=some u:=by
 obtain ⟨cur,h1,_,_,h2⟩:=h
 simp only[World.cell?,h1]
 exact h2 i hi j u hj
theorem Z9.lt (h:Z9 ea k T sz w blk n f):blk<w.heap.size:=by
 obtain ⟨cur,h1,_⟩:=h
 exact (Array.getElem?_eq_some_iff.1 h1).1
theorem Z9.ext {S:Nat→Prop} (h:Z9 ea k T sz w blk n f) (hx:Ext S w w') (hn:¬ S blk):Z9 ea k T sz w' blk n f:=by
 have hl:=h.lt
 obtain ⟨cur,h1,h2⟩:=h
 exact ⟨cur,(hx.block blk hl hn).trans h1,h2⟩
theorem Z9.below (h:Z9 ea k T sz w blk n f) (hb:Below w.heap.size w w'):Z9 ea k T sz w' blk n f :=
 h.ext (Ext.of_below (S:=fun _=>False) hb) id
theorem Z9.drew (h:Z9 ea k T sz w blk n f):Z9 ea k T sz w.drew blk n f:=h
theorem Z9.put (h:Z9 ea k T sz w blk n f) (hk:∀ x,(ea x).length=k) {i:Nat} (hi:i<n) (x:α):Z9 ea k T sz (Vn w blk (i*k) 0 (ea x)) blk n (upd f i x):=by
 obtain ⟨cur,h1,h2,h3,h4⟩:=h
 have hik:i*k+k≤n*k:=by
  have:=Nat.mul_le_mul_right k (show i+1≤n from hi)
  rwa [Nat.add_mul,Nat.one_mul] at this
 refine ⟨V3 cur (i*k) 0 (ea x),UV _ _ _ _ h1,by rw[T8];exact h2,h3,fun t ht j u hj=>?_⟩
 rw[TD _ _ _ _ (by rw[hk];omega),hk]
 by_cases hti:t=i
 ·subst hti
  rw[Ri] at hj
  have hjk:j<k:=by rw[←hk x];exact (List.getElem?_eq_some_iff.1 hj).1
  rw[if_pos (by omega)]
  have:t*k+j - (t*k+0)=j:=by omega
  rw[this];exact hj
 ·rw[Sx _ _ hti] at hj
  have hjk:j<k:=by rw[←hk (f t)];exact (List.getElem?_eq_some_iff.1 hj).1
  have hne:¬ (i*k+0≤t*k+j∧t*k+j<i*k+0+k):=by
   rintro ⟨a1,a2⟩
   rcases Nat.lt_or_gt_of_ne hti with hlt|hgt
   ·have:=Nat.mul_le_mul_right k (show t+1≤i from hlt)
    rw[Nat.add_mul,Nat.one_mul] at this;omega
   ·have:=Nat.mul_le_mul_right k (show i+1≤t from hgt)
    rw[Nat.add_mul,Nat.one_mul] at this;omega
  rw[if_neg hne]
  exact h4 t ht j u hj
def Ym (f:Nat→α) (p q:Nat):Nat→α:=fun t=>if t=p then f q else if t=q then f p else f t
theorem Own.slab {base g cap:Nat} {l:List α} [Inhabited α] (hk:∀ x,(ea x).length=k) (h:Own ea k T base w (.slice (some ⟨g,0,none⟩) l.length cap) l):Z9 ea k T (cap*k) w g l.length (fun i=>l[i]!)∧base≤g∧l.length≤cap∧cap≤maxLen:=by
 obtain ⟨h1,h2⟩:=h
 rcases h2 with ⟨h3,_⟩|⟨g',cap',cur,h3,hb,hg,hnc,hcm,hcs,htake⟩
 ·cases h3
 ·cases h3
  refine ⟨⟨cur,hg,hcs,Nat.mul_le_mul_right k hnc,fun i hi j u hj=>?_⟩,hb,hnc,hcm⟩
  have hx:l[i]?=some l[i]!:=by rw[List.getElem?_eq_getElem hi,getElem!_pos l i hi]
  have h4:=getElem?_flatMap_k hk l i _ hx j u hj
  rw[←htake,List.getElem?_take] at h4
  split at h4
  ·rw[Array.getElem?_toList] at h4;exact h4
  ·cases h4
theorem Z9.own {base cap:Nat} (hk:∀ x,(ea x).length=k) (hk0:0<k) (h:Z9 ea k T (cap*k) w blk n f) (hb:base≤blk) (hc:n≤cap) (hm:cap≤maxLen):Own ea k T base w (.slice (some ⟨blk,0,none⟩) n cap) ((List.range n).map f):=by
 obtain ⟨cur,h1,h2,h3,h4⟩:=h
 have hlen:((List.range n).map f).length=n:=by simp
 refine ⟨Y5 hk _,.inr ⟨blk,cap,cur,by rw[hlen],hb,h1,by rw[hlen];exact hc,hm,h2,?_⟩⟩
 rw[hlen]
 refine List.ext_getElem? fun t=>?_
 rw[List.getElem?_take]
 by_cases ht:t<n*k
 ·rw[if_pos ht,Array.getElem?_toList]
  have hd:t / k<n:=(Nat.div_lt_iff_lt_mul hk0).2 ht
  have hm':t % k<k:=Nat.mod_lt _ hk0
  have he:t / k*k+t % k=t:=by rw[Nat.mul_comm];exact Nat.div_add_mod t k
  obtain ⟨u,hu⟩:∃ u,(ea (f (t / k)))[t % k]?=some u:=⟨_,List.getElem?_eq_getElem (by rw[hk];exact hm')⟩
  have h5:=h4 (t / k) hd (t % k) u hu
  have h6:=getElem?_flatMap_k hk ((List.range n).map f) (t / k) (f (t / k)) (by simp[hd]) (t % k) u hu
  rw[he] at h5 h6
  rw[h5,h6]
 ·rw[if_neg ht,List.getElem?_eq_none]
  rw[Y5 hk,hlen];omega
end
end Go.Proofs.YtlgipkemoldckaaGreatDoor
namespace Go.Proofs.YtlgipkemoldckaaGreatDoor
section
variable {α:Type}
def Zt (a b:Nat) (f g:Nat→α):Prop :=
 ∃ s t:Nat→Nat,(∀ i,s (t i)=i)∧(∀ i,t (s i)=i)∧(∀ i,i<a∨b≤i→s i=i)∧∀ i,g i=f (s i)
theorem Zt.refl (a b:Nat) (f:Nat→α):Zt a b f f:=⟨id,id,fun _=>rfl,fun _=>rfl,fun _ _=>rfl,fun _=>rfl⟩
theorem Zt.trans {a b:Nat} {f g h:Nat→α} (h1:Zt a b f g) (h2:Zt a b g h):Zt a b f h:=by
 obtain ⟨s,t,st,ts,so,hg⟩:=h1
 obtain ⟨s',t',st',ts',so',hh⟩:=h2
 exact ⟨fun i=>s (s' i),fun i=>t' (t i),fun i=>by simp only[st',st],fun i=>by simp only[ts,ts'],fun i hi=>by simp only[so' i hi,so i hi],fun i=>by simp only[hh,hg]⟩
theorem Zt.mono {a b a' b':Nat} {f g:Nat→α} (h:Zt a b f g) (ha:a'≤a) (hb:b≤b'):Zt a' b' f g:=by
 obtain ⟨s,t,st,ts,so,hg⟩:=h
 exact ⟨s,t,st,ts,fun i hi=>so i (by omega),hg⟩
theorem Zt.out {a b:Nat} {f g:Nat→α} (h:Zt a b f g) {i:Nat} (hi:i<a∨b≤i):g i=f i:=by
 obtain ⟨s,t,st,ts,so,hg⟩:=h
 rw[hg,so i hi]
theorem Zt.from {a b:Nat} {f g:Nat→α} (h:Zt a b f g) {i:Nat} (h1:a≤i) (h2:i<b):∃ j,a≤j∧j<b∧g i=f j:=by
 obtain ⟨s,t,st,ts,so,hg⟩:=h
 refine ⟨s i,?_,?_,hg i⟩
 ·refine Nat.le_of_not_lt fun hn=>?_
  have:=so (s i) (.inl hn)
  have h3:=congrArg t this
  rw[ts,ts] at h3
  omega
 ·refine Nat.lt_of_not_le fun hn=>?_
  have:=so (s i) (.inr hn)
  have h3:=congrArg t this
  rw[ts,ts] at h3
  omega
theorem Zt.swap {a b p q:Nat} (f:Nat→α) (hp:a≤p∧p<b) (hq:a≤q∧q<b):Zt a b f (Ym f p q):=by
 refine ⟨fun i=>if i=p then q else if i=q then p else i,fun i=>if i=p then q else if i=q then p else i,fun i=>?_,fun i=>?_,fun i hi=>?_,fun i=>?_⟩
 ·simp only;(repeat' split) <;> omega
 ·simp only;(repeat' split) <;> omega
 ·simp only;rw[if_neg (by omega),if_neg (by omega)]
 ·unfold Ym;simp only;split
  ·rfl
  ·split <;> rfl
def ZS (lt:α→α→Prop) (a b:Nat) (f:Nat→α):Prop:=∀ i j,a≤i→i<j→j<b→lt (f i) (f j)
theorem ZS.congr {lt:α→α→Prop} {a b:Nat} {f g:Nat→α} (h:ZS lt a b f) (hg:∀ i,a≤i→i<b→g i=f i):ZS lt a b g:=fun i j h1 h2 h3=>by
 rw[hg i h1 (by omega),hg j (by omega) h3];exact h i j h1 h2 h3
structure Wd (lt:α→α→Prop) (pos:α→Nat) (cf:α→α→Int):Prop where
 irrefl:∀ x,¬ lt x x
 trans:∀ x y z,lt x y→lt y z→lt x z
 total:∀ x y,pos x≠pos y→lt x y∨lt y x
 says:∀ x y,pos x<pos y→(cf y x<0↔lt y x)
variable {lt:α→α→Prop} {pos:α→Nat} {cf:α→α→Int}
structure Wl (lt:α→α→Prop) (pos:α→Nat) (a i j:Nat) (f g:Nat→α):Prop where
 perm:Zt a (i+1) f g
 lo:a≤j
 hi:j≤i
 rest:∀ p q,a≤p→p<q→q≤i→p≠j→q≠j→lt (g p) (g q)
 above:∀ q,j<q→q≤i→lt (g j) (g q)
 later:∀ p,a≤p→p≤i→p≠j→pos (g p)<pos (g j)
theorem Wl.start {a i:Nat} {f:Nat→α} (hai:a≤i) (hs:ZS lt a i f) (hp:∀ p,a≤p→p<i→pos (f p)<pos (f i)):Wl lt pos a i i f f :=
 ⟨Zt.refl _ _ _,hai,Nat.le_refl _,fun p q h1 h2 h3 h4 h5=>hs p q h1 h2 (by omega),fun q h1 h2=>by omega,fun p h1 h2 h3=>hp p h1 (by omega)⟩
theorem Wl.down {a i j:Nat} {f g:Nat→α} (h:Wl lt pos a i (j+1) f g) (haj:a≤j) (hlt:lt (g (j+1)) (g j)):Wl lt pos a i j f (Ym g (j+1) j):=by
 have hi:=h.hi
 have e0:Ym g (j+1) j j=g (j+1):=by simp[Ym]
 have e1:Ym g (j+1) j (j+1)=g j:=by simp[Ym]
 have eo:∀ t,t≠j→t≠j+1→Ym g (j+1) j t=g t:=fun t h1 h2=>by simp[Ym,h1,h2]
 refine ⟨h.perm.trans (Zt.swap g ⟨by omega,by omega⟩ ⟨by omega,by omega⟩),haj,by omega,fun p q h1 h2 h3 h4 h5=>?_,fun q h1 h2=>?_,fun p h1 h2 h3=>?_⟩
 ·by_cases hp:p=j+1
  ·subst hp
   rw[e1,eo q h5 (by omega)]
   exact h.rest j q haj (by omega) h3 (by omega) (by omega)
  ·by_cases hq:q=j+1
   ·subst hq
    rw[e1,eo p h4 hp]
    exact h.rest p j h1 (by omega) (by omega) (by omega) (by omega)
   ·rw[eo p h4 hp,eo q h5 hq]
    exact h.rest p q h1 h2 h3 hp hq
 ·rw[e0]
  by_cases hq:q=j+1
  ·subst hq;rw[e1];exact hlt
  ·rw[eo q (by omega) hq];exact h.above q (by omega) h2
 ·rw[e0]
  by_cases hp:p=j+1
  ·subst hp;rw[e1];exact h.later j haj (by omega) (by omega)
  ·rw[eo p h3 hp];exact h.later p h1 h2 hp
theorem Wl.done {a i j:Nat} {f g:Nat→α} (R:Wd lt pos cf) (h:Wl lt pos a i j f g) (hst:j=a∨¬ lt (g j) (g (j - 1))):ZS lt a (i+1) g:=by
 have hlo:=h.lo
 have hbelow:∀ p,a≤p→p<j→lt (g p) (g j):=fun p h1 h2=>by
  have hl:lt (g (j - 1)) (g j):=by
   rcases hst with e|hn
   ·omega
   ·have:=h.later (j - 1) (by omega) (by have:=h.hi;omega) (by omega)
    rcases R.total (g j) (g (j - 1)) (by omega) with t|t
    ·exact absurd t hn
    ·exact t
  by_cases hp:p=j - 1
  ·rw[hp];exact hl
  ·exact R.trans _ _ _ (h.rest p (j - 1) h1 (by omega) (by have:=h.hi;omega) (by omega) (by omega)) hl
 intro p q h1 h2 h3
 by_cases hp:p=j
 ·subst hp;exact h.above q h2 (by omega)
 ·by_cases hq:q=j
  ·subst hq;exact hbelow p h1 h2
  ·exact h.rest p q h1 h2 (by omega) hp hq
def YY (f:Nat→α) (a k:Nat):Nat→α:=fun t=>if a≤t∧t<k then f (t+1) else if t=k then f a else f t
theorem Z0H (f:Nat→α) (a:Nat):YY f a a=f:=by
 funext t;unfold YY;rw[if_neg (by omega)];split
 ·rename_i h;rw[h]
 ·rfl
theorem Z13 (f:Nat→α) (a k:Nat) (h:a≤k):Ym (YY f a k) k (k+1)=YY f a (k+1):=by
 funext t
 unfold Ym YY
 by_cases h1:t=k
 ·subst h1;rw[if_pos rfl,if_neg (by omega),if_neg (by omega),if_pos (by omega)]
 ·by_cases h2:t=k+1
  ·subst h2;rw[if_neg (by omega),if_pos rfl,if_neg (by omega),if_pos rfl,if_neg (by omega),if_pos rfl]
  ·rw[if_neg h1,if_neg h2]
   by_cases h3:a≤t∧t<k
   ·rw[if_pos h3,if_pos (by omega)]
   ·rw[if_neg h3,if_neg h1,if_neg (by omega),if_neg h2]
theorem Z02 (f:Nat→α) {a k lo hi:Nat} (h:a≤k) (h1:lo≤a) (h2:k<hi):Zt lo hi f (YY f a k):=by
 refine ⟨fun t=>if a≤t∧t<k then t+1 else if t=k then a else t,fun t=>if t=a then k else if a<t∧t≤k then t - 1 else t,fun i=>?_,fun i=>?_,fun i hi=>?_,fun i=>?_⟩
 ·simp only;(repeat' split) <;> omega
 ·simp only;(repeat' split) <;> omega
 ·simp only;rw[if_neg (by omega),if_neg (by omega)]
 ·unfold YY;simp only;split
  ·rfl
  ·split <;> rfl
def YZ (f:Nat→α) (m k:Nat):Nat→α:=fun t=>if k<t∧t≤m then f (t - 1) else if t=k then f m else f t
theorem Z0Y (f:Nat→α) (m:Nat):YZ f m m=f:=by
 funext t;unfold YZ;rw[if_neg (by omega)];split
 ·rename_i h;rw[h]
 ·rfl
theorem Z0D (f:Nat→α) (m k:Nat) (h:k+1≤m):Ym (YZ f m (k+1)) (k+1) k=YZ f m k:=by
 funext t
 unfold Ym YZ
 by_cases h1:t=k+1
 ·subst h1;rw[if_pos rfl,if_neg (by omega),if_neg (by omega),if_pos (by omega)];rfl
 ·by_cases h2:t=k
  ·subst h2;rw[if_neg (by omega),if_pos rfl,if_neg (by omega),if_pos rfl,if_neg (by omega),if_pos rfl]
  ·rw[if_neg h1,if_neg h2]
   by_cases h3:k+1<t∧t≤m
   ·rw[if_pos h3,if_pos (by omega)]
   ·rw[if_neg h3,if_neg h1,if_neg (by omega),if_neg h2]
theorem QV (f:Nat→α) {m k lo hi:Nat} (h:k≤m) (h1:lo≤k) (h2:m<hi):Zt lo hi f (YZ f m k):=by
 refine ⟨fun t=>if k<t∧t≤m then t - 1 else if t=k then m else t,fun t=>if t=m then k else if k≤t∧t<m then t+1 else t,fun i=>?_,fun i=>?_,fun i hi=>?_,fun i=>?_⟩
 ·simp only;(repeat' split) <;> omega
 ·simp only;(repeat' split) <;> omega
 ·simp only;rw[if_neg (by omega),if_neg (by omega)]
 ·unfold YZ;simp only;split
  ·rfl
  ·split <;> rfl
def Xj (f:Nat→α) (a b n:Nat):Nat→α:=fun t=>if a≤t∧t<a+n then f (t - a+b) else if b≤t∧t<b+n then f (t - b+a) else f t
theorem Z11 (f:Nat→α) (a b:Nat):Xj f a b 0=f:=by
 funext t;unfold Xj;rw[if_neg (by omega),if_neg (by omega)]
theorem Z00 (f:Nat→α) {a b n:Nat} (h:a+n<b):Ym (Xj f a b n) (a+n) (b+n)=Xj f a b (n+1):=by
 funext t
 unfold Ym Xj
 by_cases h1:t=a+n
 ·subst h1
  rw[if_pos rfl,if_neg (by omega),if_neg (by omega),if_pos (by omega)]
  congr 1;omega
 ·by_cases h2:t=b+n
  ·subst h2
   rw[if_neg h1,if_pos rfl,if_neg (by omega),if_neg (by omega),if_neg (by omega),if_pos (by omega)]
   congr 1;omega
  ·rw[if_neg h1,if_neg h2]
   by_cases h3:a≤t∧t<a+n
   ·rw[if_pos h3,if_pos (by omega)]
   ·rw[if_neg h3,if_neg (show ¬ (a≤t∧t<a+(n+1)) by omega)]
    by_cases h4:b≤t∧t<b+n
    ·rw[if_pos h4,if_pos (by omega)]
    ·rw[if_neg h4,if_neg (by omega)]
def Yr (f:Nat→α) (a m b:Nat):Nat→α:=fun t=>if a≤t∧t<a+(b - m) then f (t+(m - a)) else if a+(b - m)≤t∧t<b then f (t - (b - m)) else f t
theorem Z1S (f:Nat→α) {a m b lo hi:Nat} (h1:a≤m) (h2:m≤b) (h3:lo≤a) (h4:b≤hi):Zt lo hi f (Yr f a m b):=by
 refine ⟨fun t=>if a≤t∧t<a+(b - m) then t+(m - a) else if a+(b - m)≤t∧t<b then t - (b - m) else t,fun t=>if a≤t∧t<m then t+(b - m) else if m≤t∧t<b then t - (m - a) else t,fun i=>?_,fun i=>?_,fun i hi=>?_,fun i=>?_⟩
 ·simp only;(repeat' split) <;> omega
 ·simp only;(repeat' split) <;> omega
 ·simp only;rw[if_neg (by omega),if_neg (by omega)]
 ·unfold Yr;simp only;split
  ·rfl
  ·split <;> rfl
theorem Z3M (f:Nat→α) {m i j:Nat} (hi:i≤m) (hij:j<i):Yr (Xj f (m - i) m j) (m - (i - j)) m (m+j)=Yr f (m - i) m (m+j):=by
 funext t
 have e1:m+j - m=j:=by omega
 have e2:m - (m - (i - j))=i - j:=by omega
 have e3:m - (m - i)=i:=by omega
 unfold Yr Xj
 simp only[e1,e2,e3]
 by_cases c1:t<m - i
 ·rw[if_neg (by omega),if_neg (by omega),if_neg (by omega),if_neg (by omega),if_neg (by omega),if_neg (by omega)]
 ·by_cases c2:t<m - i+j
  ·rw[if_neg (by omega),if_neg (by omega),if_pos (by omega),if_pos (by omega)]
   congr 1;omega
  ·by_cases c3:t<m - i+j+j
   ·rw[if_pos (by omega),if_neg (by omega),if_pos (by omega),if_neg (by omega),if_pos (by omega)]
    congr 1;omega
   ·by_cases c4:t<m+j
    ·rw[if_neg (by omega),if_pos (by omega),if_neg (by omega),if_neg (by omega),if_neg (by omega),if_pos (by omega)]
    ·rw[if_neg (by omega),if_neg (by omega),if_neg (by omega),if_neg (by omega),if_neg (by omega),if_neg (by omega)]
theorem Z3H (f:Nat→α) {m i j:Nat} (hi:i≤m) (hij:i<j):Yr (Xj f (m - i) (m+j - i) i) (m - i) m (m+(j - i))=Yr f (m - i) m (m+j):=by
 funext t
 have e1:m+(j - i) - m=j - i:=by omega
 have e2:m - (m - i)=i:=by omega
 have e3:m+j - m=j:=by omega
 unfold Yr Xj
 simp only[e1,e2,e3]
 by_cases c1:t<m - i
 ·rw[if_neg (by omega),if_neg (by omega),if_neg (by omega),if_neg (by omega),if_neg (by omega),if_neg (by omega)]
 ·by_cases c2:t<m - i+(j - i)
  ·rw[if_pos (by omega),if_neg (by omega),if_neg (by omega),if_pos (by omega)]
  ·by_cases c3:t<m+(j - i)
   ·rw[if_neg (by omega),if_pos (by omega),if_pos (by omega),if_pos (by omega)]
    congr 1;omega
   ·by_cases c4:t<m+j
    ·rw[if_neg (by omega),if_neg (by omega),if_neg (by omega),if_pos (by omega),if_neg (by omega),if_pos (by omega)]
     congr 1;omega
    ·rw[if_neg (by omega),if_neg (by omega),if_neg (by omega),if_neg (by omega),if_neg (by omega),if_neg (by omega)]
theorem Z3E (f:Nat→α) {m i:Nat} (hi:i≤m):Xj f (m - i) m i=Yr f (m - i) m (m+i):=by
 funext t
 have e1:m+i - m=i:=by omega
 have e2:m - (m - i)=i:=by omega
 unfold Yr Xj
 simp only[e1,e2]
 by_cases c1:t<m - i
 ·rw[if_neg (by omega),if_neg (by omega),if_neg (by omega),if_neg (by omega)]
 ·by_cases c2:t<m
  ·rw[if_pos (by omega),if_pos (by omega)]
   congr 1;omega
  ·by_cases c3:t<m+i
   ·rw[if_neg (by omega),if_pos (by omega),if_neg (by omega),if_pos (by omega)]
    congr 1;omega
   ·rw[if_neg (by omega),if_neg (by omega),if_neg (by omega),if_neg (by omega)]
end
section
variable {α:Type} {lt:α→α→Prop} {pos:α→Nat} {cf:α→α→Int}
structure Y2 (lt:α→α→Prop) (pos:α→Nat) (a m b:Nat) (f:Nat→α):Prop where
 am:a<m
 mb:m<b
 left:ZS lt a m f
 right:ZS lt m b f
 apart:∀ i j,a≤i→i<m→m≤j→j<b→pos (f i)<pos (f j)
theorem Z3h (f:Nat→α) {s m e:Nat} (h1:s≤m) (h2:m≤e) (h:s=m∨e=m):Yr f s m e=f:=by
 funext t
 unfold Yr
 split
 ·congr 1;omega
 ·split
  ·congr 1;omega
  ·rfl
theorem Z2C (R:Wd lt pos cf) {a b i:Nat} {f:Nat→α} (h:Y2 lt pos a (a+1) b f) (hi1:a+1≤i) (hi2:i≤b) (q1:i=a+1∨lt (f (i - 1)) (f a)) (q2:i=b∨¬ lt (f i) (f a)) :
  ZS lt a b (YY f a (i - 1))∧Zt a b f (YY f a (i - 1)):=by
 have hmb:=h.mb
 refine ⟨?_,Z02 f (by omega) (Nat.le_refl _) (by omega)⟩
 have below:∀ t,a+1≤t→t<i→lt (f t) (f a):=fun t h1 h2=>by
  rcases q1 with e|hl
  ·omega
  ·by_cases ht:t=i - 1
   ·rw[ht];exact hl
   ·exact R.trans _ _ _ (h.right t (i - 1) h1 (by omega) (by omega)) hl
 have above:∀ t,i≤t→t<b→lt (f a) (f t):=fun t h1 h2=>by
  have hl:lt (f a) (f i):=by
   rcases q2 with e|hn
   ·omega
   ·have:=h.apart a i (Nat.le_refl _) (by omega) hi1 (by omega)
    rcases R.total (f a) (f i) (by omega) with t|t
    ·exact t
    ·exact absurd t hn
  by_cases ht:t=i
  ·rw[ht];exact hl
  ·exact R.trans _ _ _ hl (h.right i t hi1 (by omega) h2)
 have e1:∀ t,a≤t→t<i - 1→YY f a (i - 1) t=f (t+1):=fun t h1 h2=>by unfold YY;rw[if_pos ⟨h1,h2⟩]
 have e2:YY f a (i - 1) (i - 1)=f a:=by unfold YY;rw[if_neg (by omega),if_pos rfl]
 have e3:∀ t,i≤t→YY f a (i - 1) t=f t:=fun t h1=>by unfold YY;rw[if_neg (by omega),if_neg (by omega)]
 intro p q h1 h2 h3
 by_cases hp:p<i - 1
 ·rw[e1 p h1 hp]
  by_cases hq:q<i - 1
  ·rw[e1 q (by omega) hq];exact h.right (p+1) (q+1) (by omega) (by omega) (by omega)
  ·by_cases hq2:q=i - 1
   ·rw[hq2,e2];exact below (p+1) (by omega) (by omega)
   ·rw[e3 q (by omega)];exact h.right (p+1) q (by omega) (by omega) h3
 ·by_cases hp2:p=i - 1
  ·rw[hp2,e2,e3 q (by omega)];exact above q (by omega) h3
  ·rw[e3 p (by omega),e3 q (by omega)];exact h.right p q (by omega) h2 h3
theorem Z1s (R:Wd lt pos cf) {a m i:Nat} {f:Nat→α} (h:Y2 lt pos a m (m+1) f) (hi1:a≤i) (hi2:i≤m) (q1:i=a∨¬ lt (f m) (f (i - 1))) (q2:i=m∨lt (f m) (f i)) :
  ZS lt a (m+1) (YZ f m i)∧Zt a (m+1) f (YZ f m i):=by
 have ham:=h.am
 refine ⟨?_,QV f hi2 hi1 (by omega)⟩
 have below:∀ t,a≤t→t<i→lt (f t) (f m):=fun t h1 h2=>by
  have hl:lt (f (i - 1)) (f m):=by
   rcases q1 with e|hn
   ·omega
   ·have:=h.apart (i - 1) m (by omega) (by omega) (Nat.le_refl _) (by omega)
    rcases R.total (f (i - 1)) (f m) (by omega) with t|t
    ·exact t
    ·exact absurd t hn
  by_cases ht:t=i - 1
  ·rw[ht];exact hl
  ·exact R.trans _ _ _ (h.left t (i - 1) h1 (by omega) (by omega)) hl
 have above:∀ t,i≤t→t<m→lt (f m) (f t):=fun t h1 h2=>by
  rcases q2 with e|hl
  ·omega
  ·by_cases ht:t=i
   ·rw[ht];exact hl
   ·exact R.trans _ _ _ hl (h.left i t hi1 (by omega) h2)
 have e1:∀ t,t<i→YZ f m i t=f t:=fun t h1=>by unfold YZ;rw[if_neg (by omega),if_neg (by omega)]
 have e2:YZ f m i i=f m:=by unfold YZ;rw[if_neg (by omega),if_pos rfl]
 have e3:∀ t,i<t→t≤m→YZ f m i t=f (t - 1):=fun t h1 h2=>by unfold YZ;rw[if_pos ⟨h1,h2⟩]
 intro p q h1 h2 h3
 by_cases hp:p<i
 ·rw[e1 p hp]
  by_cases hq:q<i
  ·rw[e1 q hq];exact h.left p q h1 h2 (by omega)
  ·by_cases hq2:q=i
   ·rw[hq2,e2];exact below p h1 hp
   ·rw[e3 q (by omega) (by omega)]
    by_cases hpq:p=q - 1
    ·omega
    ·exact h.left p (q - 1) h1 (by omega) (by omega)
 ·by_cases hp2:p=i
  ·rw[hp2,e2,e3 q (by omega) (by omega)];exact above (q - 1) (by omega) (by omega)
  ·rw[e3 p (by omega) (by omega),e3 q (by omega) (by omega)];exact h.left (p - 1) (q - 1) (by omega) (by omega) (by omega)
structure Xa (lt:α→α→Prop) (a m b mid s e:Nat) (f:Nat→α):Prop where
 lea:a≤s
 sm:s≤m
 me:m≤e
 eb:e≤b
 sum:s+e=mid+m
 lo:s=a∨e=b∨¬ lt (f e) (f (s - 1))
 hi:s=m∨e=m∨lt (f (e - 1)) (f s)
section
variable {a m b mid s e:Nat} {f:Nat→α}
theorem Xa.g1 (c:Xa lt a m b mid s e f) {t:Nat} (h1:s≤t) (h2:t<mid):Yr f s m e t=f (t+(m - s)):=by
 have:=c.sum;have:=c.sm;have:=c.me
 unfold Yr;rw[if_pos (by omega)]
theorem Xa.g2 (c:Xa lt a m b mid s e f) {t:Nat} (h1:mid≤t) (h2:t<e):Yr f s m e t=f (t - (e - m)):=by
 have:=c.sum;have:=c.sm;have:=c.me
 unfold Yr;rw[if_neg (by omega),if_pos (by omega)]
theorem Xa.g0 (c:Xa lt a m b mid s e f) {t:Nat} (h:t<s∨e≤t):Yr f s m e t=f t:=by
 have:=c.sum;have:=c.sm;have:=c.me
 unfold Yr;rw[if_neg (by omega),if_neg (by omega)]
theorem Xa.cross (R:Wd lt pos cf) (h:Y2 lt pos a m b f) (c:Xa lt a m b mid s e f) {i j:Nat} (h1:a≤i) (h2:i<mid) (h3:mid≤j) (h4:j<b):lt (Yr f s m e i) (Yr f s m e j):=by
 have hs:=c.sum;have hsm:=c.sm;have hme:=c.me;have has:=c.lea;have heb:=c.eb
 have ham:=h.am;have hmb:=h.mb
 have lr:∀ p q,a≤p→p<s→e≤q→q<b→lt (f p) (f q):=fun p q k1 k2 k3 k4=>by
  have hl:lt (f (s - 1)) (f e):=by
   rcases c.lo with e1|e1|hn
   ·omega
   ·omega
   ·have:=h.apart (s - 1) e (by omega) (by omega) hme (by omega)
    rcases R.total (f (s - 1)) (f e) (by omega) with t|t
    ·exact t
    ·exact absurd t hn
  have hl2:lt (f p) (f e):=by
   by_cases hp:p=s - 1
   ·rw[hp];exact hl
   ·exact R.trans _ _ _ (h.left p (s - 1) k1 (by omega) (by omega)) hl
  by_cases hq:q=e
  ·rw[hq];exact hl2
  ·exact R.trans _ _ _ hl2 (h.right e q hme (by omega) k4)
 have rl:∀ p q,m≤p→p<e→s≤q→q<m→lt (f p) (f q):=fun p q k1 k2 k3 k4=>by
  have hl:lt (f (e - 1)) (f s):=by
   rcases c.hi with e1|e1|hl
   ·omega
   ·omega
   ·exact hl
  have hl2:lt (f p) (f s):=by
   by_cases hp:p=e - 1
   ·rw[hp];exact hl
   ·exact R.trans _ _ _ (h.right p (e - 1) k1 (by omega) (by omega)) hl
  by_cases hq:q=s
  ·rw[hq];exact hl2
  ·exact R.trans _ _ _ hl2 (h.left s q has (by omega) k4)
 by_cases hi:i<s
 ·rw[c.g0 (.inl hi)]
  by_cases hj:j<e
  ·rw[c.g2 h3 hj];exact h.left i _ h1 (by omega) (by omega)
  ·rw[c.g0 (.inr (by omega))];exact lr i j h1 hi (by omega) h4
 ·rw[c.g1 (by omega) h2]
  by_cases hj:j<e
  ·rw[c.g2 h3 hj];exact rl _ _ (by omega) (by omega) (by omega) (by omega)
  ·rw[c.g0 (.inr (by omega))];exact h.right _ j (by omega) (by omega) h4
theorem Xa.pre1 (h:Y2 lt pos a m b f) (c:Xa lt a m b mid s e f) (h1:a<s) (h2:s<mid):Y2 lt pos a s mid (Yr f s m e):=by
 have hs:=c.sum;have hsm:=c.sm;have hme:=c.me;have has:=c.lea;have heb:=c.eb
 refine ⟨h1,h2,fun i j k1 k2 k3=>?_,fun i j k1 k2 k3=>?_,fun i j k1 k2 k3 k4=>?_⟩
 ·rw[c.g0 (.inl (by omega)),c.g0 (.inl k3)];exact h.left i j k1 k2 (by omega)
 ·rw[c.g1 k1 (by omega),c.g1 (by omega) k3];exact h.right _ _ (by omega) (by omega) (by omega)
 ·rw[c.g0 (.inl k2),c.g1 k3 k4];exact h.apart _ _ k1 (by omega) (by omega) (by omega)
theorem Xa.pre2 (h:Y2 lt pos a m b f) (c:Xa lt a m b mid s e f) (h1:mid<e) (h2:e<b):Y2 lt pos mid e b (Yr f s m e):=by
 have hs:=c.sum;have hsm:=c.sm;have hme:=c.me;have has:=c.lea;have heb:=c.eb
 refine ⟨h1,h2,fun i j k1 k2 k3=>?_,fun i j k1 k2 k3=>?_,fun i j k1 k2 k3 k4=>?_⟩
 ·rw[c.g2 k1 (by omega),c.g2 (by omega) k3];exact h.left _ _ (by omega) (by omega) (by omega)
 ·rw[c.g0 (.inr k1),c.g0 (.inr (by omega))];exact h.right _ _ (by omega) (by omega) (by omega)
 ·rw[c.g2 k1 k2,c.g0 (.inr k3)];exact h.apart _ _ (by omega) (by omega) (by omega) k4
theorem Xa.sort1 (h:Y2 lt pos a m b f) (c:Xa lt a m b mid s e f) (hn:¬ (a<s∧s<mid)):ZS lt a mid (Yr f s m e):=by
 have hs:=c.sum;have hsm:=c.sm;have hme:=c.me;have has:=c.lea;have heb:=c.eb
 intro i j k1 k2 k3
 by_cases hsa:s=a
 ·rw[c.g1 (by omega) (by omega),c.g1 (by omega) k3];exact h.right _ _ (by omega) (by omega) (by omega)
 ·rw[c.g0 (.inl (by omega)),c.g0 (.inl (by omega))];exact h.left i j k1 k2 (by omega)
theorem Xa.sort2 (h:Y2 lt pos a m b f) (c:Xa lt a m b mid s e f) (hn:¬ (mid<e∧e<b)):ZS lt mid b (Yr f s m e):=by
 have hs:=c.sum;have hsm:=c.sm;have hme:=c.me;have has:=c.lea;have heb:=c.eb
 intro i j k1 k2 k3
 by_cases hb:e=b
 ·rw[c.g2 k1 (by omega),c.g2 (by omega) (by omega)];exact h.left _ _ (by omega) (by omega) (by omega)
 ·rw[c.g0 (.inr (by omega)),c.g0 (.inr (by omega))];exact h.right _ _ (by omega) (by omega) k3
end
theorem Qt {a mid b:Nat} {g h1 h2:Nat→α} (cross:∀ i j,a≤i→i<mid→mid≤j→j<b→lt (g i) (g j)) (p1:Zt a mid g h1) (s1:ZS lt a mid h1) (p2:Zt mid b h1 h2) (s2:ZS lt mid b h2):ZS lt a b h2:=by
 intro i j k1 k2 k3
 by_cases hi:i<mid
 ·have ei:h2 i=h1 i:=p2.out (.inl hi)
  by_cases hj:j<mid
  ·rw[ei,p2.out (.inl hj)];exact s1 i j k1 k2 hj
  ·obtain ⟨i',a1,a2,a3⟩:=p1.from k1 hi
   obtain ⟨j',b1,b2,b3⟩:=p2.from (show mid≤j by omega) k3
   rw[ei,a3,b3,p1.out (.inr b1)]
   exact cross i' j' a1 a2 b1 b2
 ·exact s2 i j (by omega) k2 k3
end
section
variable {α:Type} {lt:α→α→Prop} {f g h:Nat→α}
def Wo (lt:α→α→Prop) (f:Nat→α) (a b:Nat) (g:Nat→α):Prop:=ZS lt a b g∧∀ i,a≤i→i<b→∃ j,a≤j∧j<b∧g i=f j
theorem Wo.congr {a b:Nat} (H:Wo lt f a b g) (hg:∀ i,a≤i→i<b→h i=g i):Wo lt f a b h :=
 ⟨H.1.congr hg,fun i h1 h2=>by rw[hg i h1 h2];exact H.2 i h1 h2⟩
inductive Xy (lt:α→α→Prop) (f:Nat→α) (s n:Nat) (g:Nat→α):Nat→Prop
 | done {a:Nat} (h:n≤a):Xy lt f s n g a
 | step {a:Nat} (h:a<n) (r:Wo lt f a (min (a+s) n) g) (k:Xy lt f s n g (a+s)):Xy lt f s n g a
inductive Wn (lt:α→α→Prop) (f:Nat→α) (t:Nat) (g:Nat→α):Nat→Prop
 | zero:Wn lt f t g 0
 | snoc {a:Nat} (k:Wn lt f t g a) (r:Wo lt f a (a+t) g):Wn lt f t g (a+t)
theorem Xy.congr {s n a:Nat} (H:Xy lt f s n g a):(∀ i,a≤i→i<n→h i=g i)→Xy lt f s n h a:=by
 induction H with
 | done hn=>exact fun _=>.done hn
 | step hn r k ih=>exact fun hg=>.step hn (r.congr fun i h1 h2=>hg i h1 (by omega)) (ih fun i h1 h2=>hg i (by omega) h2)
theorem Wn.congr {t a:Nat} (H:Wn lt f t g a):(∀ i,i<a→h i=g i)→Wn lt f t h a:=by
 induction H with
 | zero=>exact fun _=>.zero
 | snoc k r ih=>exact fun hg=>.snoc (ih fun i h1=>hg i (by omega)) (r.congr fun i h1 h2=>hg i h2)
theorem Xy.first {s n a:Nat} (H:Xy lt f s n g a) (ha:a<n):Wo lt f a (min (a+s) n) g∧Xy lt f s n g (a+s):=by
 cases H with
 | done hn=>omega
 | step hn r k=>exact ⟨r,k⟩
theorem Wn.runs {t n a:Nat} (H:Wn lt f t g a):a≤n→Xy lt f t n g a→Xy lt f t n g 0:=by
 induction H with
 | zero=>exact fun _ r=>r
 | @snoc a k r ih =>
  intro hn hr
  by_cases ht:t=0
  ·subst ht;exact ih (by omega) hr
  ·exact ih (by omega) (.step (by omega) (by rw[Nat.min_eq_left (by omega)];exact r) hr)
theorem Xy.all {s n:Nat} (H:Xy lt f s n g 0) (hs:n≤s):ZS lt 0 n g:=by
 by_cases hn:0<n
 ·have:=(H.first hn).1.1
  rwa [Nat.zero_add,Nat.min_eq_right hs] at this
 ·exact fun i j _ h1 h2=>by omega
theorem T7 {pos:α→Nat} {a m b n:Nat} (am:a<m) (mb:m<b) (bn:b≤n) (hp:∀ p q,p<q→q<n→pos (f p)<pos (f q)) (r1:Wo lt f a m g) (r2:Wo lt f m b g):Y2 lt pos a m b g :=
 ⟨am,mb,r1.1,r2.1,fun i j h1 h2 h3 h4=>by
  obtain ⟨p,p1,p2,e1⟩:=r1.2 i h1 h2
  obtain ⟨q,q1,q2,e2⟩:=r2.2 j h3 h4
  rw[e1,e2];exact hp p q (by omega) (by omega)⟩
theorem Z28 {a m b:Nat} (am:a≤m) (mb:m≤b) (r1:Wo lt f a m g) (r2:Wo lt f m b g) (p:Zt a b g h) (s:ZS lt a b h):Wo lt f a b h :=
 ⟨s,fun i h1 h2=>by
  obtain ⟨j,j1,j2,e⟩:=p.from h1 h2
  rw[e]
  by_cases hj:j<m
  ·obtain ⟨q,q1,q2,e2⟩:=r1.2 j j1 hj
   exact ⟨q,q1,by omega,e2⟩
  ·obtain ⟨q,q1,q2,e2⟩:=r2.2 j (by omega) j2
   exact ⟨q,by omega,q2,e2⟩⟩
theorem TY {a b:Nat} (hg:∀ i,a≤i→i<b→g i=f i) (p:Zt a b g h) (s:ZS lt a b h):Wo lt f a b h :=
 ⟨s,fun i h1 h2=>by
  obtain ⟨j,j1,j2,e⟩:=p.from h1 h2
  exact ⟨j,j1,j2,e.trans (hg j j1 j2)⟩⟩
theorem Xy.last {s t n a:Nat} (H:Xy lt f s n g a) (hst:s≤t) (hn:n≤a+s):Xy lt f t n g a:=by
 by_cases ha:a<n
 ·have:=(H.first ha).1
  rw[Nat.min_eq_right hn] at this
  exact .step ha (by rw[Nat.min_eq_right (by omega)];exact this) (.done (by omega))
 ·exact .done (by omega)
theorem Zt.list {n:Nat} (H:Zt 0 n f g):((List.range n).map g).Perm ((List.range n).map f):=by
 obtain ⟨s,t,st,ts,so,hg⟩:=H
 have e:(List.range n).map g=((List.range n).map s).map f:=by rw[List.map_map];exact List.map_congr_left fun i _=>hg i
 rw[e]
 refine List.Perm.map f ((List.perm_ext_iff_of_nodup ?_ List.nodup_range).2 fun i=>?_)
 ·refine List.pairwise_map.2 (List.nodup_range.imp fun {a b} hne h=>hne ?_)
  have:=congrArg t h
  rwa [ts,ts] at this
 ·have inn:∀ j,j<n→s j<n:=fun j hj=>Nat.lt_of_not_le fun hn=>by
   have h1:=so (s j) (.inr hn)
   have h2:=congrArg t h1
   rw[ts,ts] at h2
   omega
  simp only[List.mem_map,List.mem_range]
  constructor
  ·rintro ⟨j,hj,rfl⟩;exact inn j hj
  ·intro hi
   refine ⟨t i,?_,st i⟩
   refine Nat.lt_of_not_le fun hn=>?_
   have h1:=so (t i) (.inr hn)
   rw[st] at h1
   omega
theorem ZS.list {n:Nat} (H:ZS lt 0 n g):((List.range n).map g).Pairwise lt:=by
 rw[List.pairwise_map]
 refine List.pairwise_iff_getElem.2 fun i j hi hj hij=>?_
 simp only[List.length_range] at hi hj
 simp only[List.getElem_range]
 exact H i j (Nat.zero_le _) hij hj
end
end Go.Proofs.YtlgipkemoldckaaGreatDoor
namespace Go.Proofs.YtlgipkemoldckaaGreatDoor
open Go
section
variable {P:Program} {ops:Array Oper} {Q:Exit→Act→World→Prop} {md:Region.Mode} {S:World→Prop}
theorem Za {i:Nat} {oi:Oper} {d:Option Tmp} {v:Value} {fuel:Nat} {listed:Array Bool} {a:Act} {w:World} (hi:ops[i]?=some oi) (hd:oi.dst=d)
  (hs:Region.noSelect ops=true) (hf:Region.free md ops listed i=true) (hr:(Region.ready md ops listed).contains i=true)
  (hQ:∀ c a w,Q (.panic c) (a.put d v) w→Q (.panic c) a w) (hy:YieldsIf P ops S oi v a) (hS:S w)
  (h:wpAnyH P md ops Q S fuel (listed.setIfInBounds i true) (a.put d v) w):wpAnyH P md ops Q S (fuel+1) listed a w:=by
 subst hd
 exact wpAnyH_take hi hs hf hr hQ hy hS h
theorem VK {i:Nat} {o:Oper} {d:Option Tmp} {f:FuncId} {args:Array Value} {fuel:Nat} {listed:Array Bool} {a:Act} {w w':World} (hr:Region.ready md ops listed=[i]) (ho:ops[i]?=some o) (hd:o.dst=d) (hw:Region.wanted o (yielded ops a.tmps)=true)
  (hv:(execOp a.eval o).run P w=.ok (.enter f args) w')
  (h:Calls P f args w' fun e w''=>∃ v,e=.returned v∧S w''∧wpAnyH P md ops Q S fuel (listed.setIfInBounds i true) (a.put d v) w''):wpAnyH P md ops Q S (fuel+1) listed a w:=by
 subst hd
 exact wpAnyH_all hr (by simp) (fun j hj=>by
  obtain rfl:=List.mem_singleton.1 hj
  exact wpOp_step ho fun K' hK=>by
   rw[if_pos hw,Oper.wp,hv,Oper.upon_enter]
   refine Calls.mono h ?_
   rintro e w'' ⟨v,rfl,h1,h2⟩
   exact hK _ _ ⟨h1,h2⟩)
end
end Go.Proofs.YtlgipkemoldckaaGreatDoor
namespace Go.Proofs.YtlgipkemoldckaaGreatDoor
open Go.RowKit
def Yv (a b:ByteArray):Int:=if Op.bytesLess a.toList b.toList=true then -1 else if (a.toList == b.toList)=true then 0 else 1
theorem Ue (a b:ByteArray) (w:World) :
  Calls Tryz.prog 62 #[.string a,.string b] w fun e w'=>e=.returned (.int .i64 (Yv a b))∧w=w':=by
 by_cases h1:Op.bytesLess a.toList b.toList=true
 ·go_enter Tryz.func62,Tryz.ntmps62
  go_wp2
  go_ret
  exact ⟨by simp[Yv,h1],rfl⟩
 ·have h1:Op.bytesLess a.toList b.toList=false:=by simpa using h1
  by_cases h2:(a.toList == b.toList)=true
  ·go_enter Tryz.func62,Tryz.ntmps62
   go_wp2
   go_ret
   exact ⟨by simp[Yv,h1,h2],rfl⟩
  ·have h2:(a.toList == b.toList)=false:=by simpa using h2
   go_enter Tryz.func62,Tryz.ntmps62
   go_wp2
   go_ret
   exact ⟨by simp[Yv,h1,h2],rfl⟩
theorem ltB (a b:ByteArray):decide (Yv a b<0)=decide (a.toList<b.toList):=by
 unfold Yv
 rw[bytesLess_eq]
 by_cases h:a.toList<b.toList
 ·simp[h]
 ·simp only[h,decide_false,Bool.false_eq_true,if_false]
  split <;> simp
theorem WE (a b:List UInt8) (h1:¬ a<b) (h2:¬ b<a):a=b:=List.le_antisymm h2 h1
section
variable {α κ:Type} {klt:κ→κ→Prop} {key:α→κ}
def ltT (klt:κ→κ→Prop) (key:α→κ) (p q:α × Nat):Prop:=klt (key p.1) (key q.1)∨(key p.1=key q.1∧p.2<q.2)
theorem Rm {cf:α→α→Int} (irr:∀ a,¬ klt a a) (tr:∀ a b c,klt a b→klt b c→klt a c) (tot:∀ a b,klt a b∨a=b∨klt b a) (hcf:∀ x y,cf x y<0↔klt (key x) (key y)) :
  Wd (ltT klt key) Prod.snd (fun x y:α × Nat=>cf x.1 y.1) where
 irrefl x h:=by
  rcases h with h|⟨_,h⟩
  ·exact irr _ h
  ·omega
 trans x y z h1 h2:=by
  rcases h1 with h1|⟨e1,h1⟩ <;> rcases h2 with h2|⟨e2,h2⟩
  ·exact .inl (tr _ _ _ h1 h2)
  ·exact .inl (by rw[←e2];exact h1)
  ·exact .inl (by rw[e1];exact h2)
  ·exact .inr ⟨e1.trans e2,by omega⟩
 total x y h:=by
  rcases tot (key x.1) (key y.1) with t|t|t
  ·exact .inl (.inl t)
  ·rcases Nat.lt_or_gt_of_ne h with h|h
   ·exact .inl (.inr ⟨t,h⟩)
   ·exact .inr (.inr ⟨t.symm,h⟩)
  ·exact .inr (.inl t)
 says x y h:=by
  rw[hcf]
  constructor
  ·exact .inl
  ·rintro (t|⟨_,t⟩)
   ·exact t
   ·omega
def Z0i [Inhabited α] (l:List α):Nat→α × Nat:=fun i=>(l[i]!,i)
theorem Z2w [Inhabited α] (l:List α):(List.range l.length).map (Z0i l)=l.zipIdx:=by
 refine List.ext_getElem (by simp) fun i h1 h2=>?_
 simp only[List.length_map,List.length_range] at h1
 simp[Z0i,h1]
def XS (klt:κ→κ→Prop) (key:α→κ) (l l':List α):Prop:=∃ G:List (α × Nat),G.Perm l.zipIdx∧G.Pairwise (ltT klt key)∧l'=G.map (·.1)
theorem XS.perm {l l':List α} (h:XS klt key l l'):l'.Perm l:=by
 obtain ⟨G,h1,_,rfl⟩:=h
 have:=h1.map (·.1)
 rwa [show l.zipIdx.map (·.1)=l from by simp] at this
end
instance:Inhabited Ch:=⟨⟨⟨0,0⟩,⟨0,0⟩,⟨#[]⟩⟩⟩
def X3 (c:Ch):List UInt8:=c.key.toList
section
variable {cap sz blk n:Nat}
end
def ZZ (h:Zk):Prop:=∀ k c,h k=some c→c.block=k
theorem Z1W:ZZ (fun _=>none):=fun k c h=>by cases h
theorem Z0A {h:Zk} (hk:ZZ h) (c:Ch):ZZ (Xt h c):=by
 cases ht:WD h c with
 | false=>rw[UA ht];exact hk
 | true =>
  rw[Ub ht]
  intro k d hd
  by_cases e:k=c.block
  ·subst e;rw[Wv] at hd;cases hd;rfl
  ·rw[Xd _ _ e] at hd;exact hk k d hd
theorem Z0O (cs:List Ch):ZZ (UL cs):=by
 have:∀ (cs:List Ch) (h:Zk),ZZ h→ZZ (cs.foldl Xt h):=fun cs=>by
  induction cs with
  | nil=>intro h ha;exact ha
  | cons c cs ih=>intro h ha;exact ih _ (Z0A ha c)
 exact this cs _ Z1W
theorem Tq:∀ (cs:List Ch) (h:Zk) (k:St) (c:Ch),cs.foldl Xt h k=some c→c∈cs∨h k=some c
 | [],h,k,c,e=>.inr e
 | d :: cs,h,k,c,e=>by
  rcases Tq cs (Xt h d) k c e with m|m
  ·exact .inl (List.mem_cons_of_mem _ m)
  ·cases ht:WD h d with
   | false=>rw[UA ht] at m;exact .inr m
   | true =>
    rw[Ub ht] at m
    by_cases e:k=d.block
    ·subst e;rw[Wv] at m;cases m;exact .inl (List.mem_cons_self ..)
    ·rw[Xd _ _ e] at m;exact .inr m
def Zo (h:Zk) (l:List Ch):Prop:=(∀ c,c∈l↔h c.block=some c)∧l.Pairwise (fun a b=>ZK a.block b.block)
def YA (a b:Ch):Prop:=X3 a<X3 b∨(X3 a=X3 b∧ZK a.block b.block)
def WL (h:Zk) (u:St) (l:List Ch):Prop:=(∀ c,c∈l↔h c.block=some c∧c.under=u)∧l.Pairwise YA
theorem XX (a:Ch):¬ YA a a:=by
 rintro (h|⟨_,h⟩)
 ·exact List.lt_irrefl _ h
 ·exact Zm _ h
theorem WX {a b c:Ch} (h:YA a b) (k:YA b c):YA a c:=by
 rcases h with h|⟨e,h⟩ <;> rcases k with k|⟨e2,k⟩
 ·exact .inl (List.lt_trans h k)
 ·exact .inl (by rw[←e2];exact h)
 ·exact .inl (by rw[e];exact k)
 ·exact .inr ⟨e.trans e2,ZC h k⟩
theorem Te (a b:Ch):YA a b∨a.block=b.block∨YA b a:=by
 by_cases h1:X3 a<X3 b
 ·exact .inl (.inl h1)
 ·by_cases h2:X3 b<X3 a
  ·exact .inr (.inr (.inl h2))
  ·have e:=WE _ _ h1 h2
   rcases Y8 a.block b.block with t|t|t
   ·exact .inl (.inr ⟨e,t⟩)
   ·exact .inr (.inl t)
   ·exact .inr (.inr (.inr ⟨e.symm,t⟩))
theorem Xz {α:Type} {R:α→α→Prop} (irr:∀ a,¬ R a a) (tr:∀ a b c,R a b→R b c→R a c):∀ {l l':List α},l.Pairwise R→l'.Pairwise R→(∀ x,x∈l↔x∈l')→l=l'
 | [],[],_,_,_=>rfl
 | [],y :: l',_,_,h=>absurd ((h y).2 (List.mem_cons_self ..)) (by simp)
 | x :: l,[],_,_,h=>absurd ((h x).1 (List.mem_cons_self ..)) (by simp)
 | x :: l,y :: l',h1,h2,h=>by
  rw[List.pairwise_cons] at h1 h2
  have e:x=y:=by
   rcases List.mem_cons.1 ((h x).1 (List.mem_cons_self ..)) with e|e
   ·exact e
   ·rcases List.mem_cons.1 ((h y).2 (List.mem_cons_self ..)) with e'|e'
    ·exact e'.symm
    ·exact absurd (tr _ _ _ (h2.1 x e) (h1.1 y e')) (irr _)
  subst e
  congr 1
  refine Xz irr tr h1.2 h2.2 fun z=>?_
  constructor
  ·intro hz
   rcases List.mem_cons.1 ((h z).1 (List.mem_cons_of_mem _ hz)) with e|e
   ·rw[e] at hz;exact absurd (h1.1 x hz) (irr _)
   ·exact e
  ·intro hz
   rcases List.mem_cons.1 ((h z).2 (List.mem_cons_of_mem _ hz)) with e|e
   ·rw[e] at hz;exact absurd (h2.1 x hz) (irr _)
   ·exact e
theorem Zo.unique {h:Zk} {l l':List Ch} (a:Zo h l) (b:Zo h l'):l=l' :=
 Xz (R:=fun a b:Ch=>ZK a.block b.block) (fun x=>Zm x.block) (fun _ _ _ h k=>ZC h k) a.2 b.2 fun c=>(a.1 c).trans (b.1 c).symm
theorem WL.unique {h:Zk} {u:St} {l l':List Ch} (a:WL h u l) (b:WL h u l'):l=l' :=
 Xz XX (fun _ _ _ h k=>WX h k) a.2 b.2 fun c=>(a.1 c).trans (b.1 c).symm
theorem Zo.length {cs:List Ch} {l:List Ch} (a:Zo (UL cs) l):l.length≤cs.length:=by
 have hn:l.Nodup:=a.2.imp fun {x y} h e=>by rw[e] at h;exact Zm _ h
 refine hn.length_le_of_subset fun c hc=>?_
 rcases Tq cs _ _ c ((a.1 c).1 hc) with m|m
 ·exact m
 ·cases m
theorem XN {h:Zk}:∀ (m n:Nat) (u:St),Y9 h m u→Y9 h n u→m=n
 | 0,0,_,_,_=>rfl
 | 0,n+1,u,h1,⟨c,hc,_⟩=>by rw[show h u=none from h1] at hc;cases hc
 | m+1,0,u,⟨c,hc,_⟩,h2=>by rw[show h u=none from h2] at hc;cases hc
 | m+1,n+1,u,⟨c,hc,h1⟩,⟨d,hd,h2⟩=>by
  rw[hc] at hd;cases hd
  rw[XN m n _ h1 h2]
theorem Sy {h:Zk} (hk:ZZ h):∀ (m:Nat) (u:St),Y9 h m u→∃ l:List Ch,l.length=m∧l.Nodup∧∀ c∈l,h c.block=some c∧∃ j,j≤m∧Y9 h j c.block
 | 0,u,_=>⟨[],rfl,List.nodup_nil,fun c hc=>by simp at hc⟩
 | m+1,u,⟨c,hc,he⟩=>by
  obtain ⟨l,h1,h2,h3⟩:=Sy hk m c.under he
  have hb:c.block=u:=hk u c hc
  refine ⟨c :: l,by simp[h1],List.nodup_cons.2 ⟨fun hcl=>?_,h2⟩,fun d hd=>?_⟩
  ·obtain ⟨_,j,hj,hej⟩:=h3 c hcl
   have hu:Y9 h (m+1) c.block:=by rw[hb];exact ⟨c,hc,he⟩
   have:=XN _ _ _ hej hu
   omega
  ·rcases List.mem_cons.1 hd with rfl|hd
   ·exact ⟨by rw[hb];exact hc,m+1,Nat.le_refl _,by rw[hb];exact ⟨d,hc,he⟩⟩
   ·obtain ⟨a1,j,a2,a3⟩:=h3 d hd
    exact ⟨a1,j,by omega,a3⟩
theorem Sk {h:Zk} {A:List Ch} (hk:ZZ h) (ha:XI h) (hA:Zo h A) (u:St):∃ m,Y9 h m u∧m≤A.length:=by
 obtain ⟨m,hm⟩:=ha u
 obtain ⟨l,h1,h2,h3⟩:=Sy hk m u hm
 refine ⟨m,hm,?_⟩
 rw[←h1]
 exact h2.length_le_of_subset fun c hc=>(hA.1 c).2 (h3 c hc).1
theorem SB {h:Zk} {m:Nat} {b:St} {y:Ch} (he:Y9 h m b) (hy:h b=some y):∃ k,m=k+1∧Y9 h k y.under:=by
 cases m with
 | zero=>rw[show h b=none from he] at hy;cases hy
 | succ k=>obtain ⟨c,hc,h2⟩:=he;rw[hc] at hy;cases hy;exact ⟨k,rfl,h2⟩
theorem Z5.dcells {w:World} {v:Value} {l:List Ch} (h:Z5 Ch.cells 5 w v l) (hne:l≠[]):∃ b o cap,v=.slice (some ⟨b,o,none⟩) l.length cap∧∀ i (x:Ch),l[i]?=some x →
  w.cell? ⟨b,o+i*5,none⟩=some (.int .i64 x.block.n)∧w.cell? ⟨b,o+i*5+1,none⟩=some (.int .i64 x.block.r)∧w.cell? ⟨b,o+i*5+2,none⟩=some (.int .i64 x.under.n)∧w.cell? ⟨b,o+i*5+3,none⟩=some (.int .i64 x.under.r)∧w.cell? ⟨b,o+i*5+4,none⟩=some (.string x.key):=by
 obtain ⟨a,cap,rfl,_,_,h4⟩:=h
 obtain ⟨b,o,rfl,h6⟩:=h4 hne
 exact ⟨b,o,cap,rfl,fun i x hi=>⟨h6 i x hi 0 _ rfl,h6 i x hi 1 _ rfl,h6 i x hi 2 _ rfl,h6 i x hi 3 _ rfl,h6 i x hi 4 _ rfl⟩⟩
section
variable {α:Type} {R:α→α→Prop}
theorem X2 {l:List α}:l.Pairwise R↔∀ (i j:Nat) x y,i<j→l[i]?=some x→l[j]?=some y→R x y:=by
 rw[List.pairwise_iff_getElem]
 constructor
 ·intro h i j x y hij hx hy
  obtain ⟨hi,rfl⟩:=List.getElem?_eq_some_iff.1 hx
  obtain ⟨hj,rfl⟩:=List.getElem?_eq_some_iff.1 hy
  exact h i j hi hj hij
 ·intro h i j hi hj hij
  exact h i j _ _ hij (List.getElem?_eq_getElem hi) (List.getElem?_eq_getElem hj)
theorem Xo (l:List α) {i j:Nat} (h:j<i):(l.eraseIdx i)[j]?=l[j]?:=by rw[List.getElem?_eraseIdx,if_pos h]
theorem V7 (l:List α) {i j:Nat} (h:i≤j):(l.eraseIdx i)[j]?=l[j+1]?:=by rw[List.getElem?_eraseIdx,if_neg (by omega)]
theorem Tb {l:List α} {i:Nat} {x:α} (h:l[i]?=some x):l.Perm (x :: l.eraseIdx i):=by
 obtain ⟨hi,hx⟩:=List.getElem?_eq_some_iff.1 h
 have e:l=l.take i++x :: l.drop (i+1):=by
  rw[←hx,←List.drop_eq_getElem_cons hi,List.take_append_drop]
 rw[List.eraseIdx_eq_take_drop_succ]
 conv=>lhs;rw[e]
 exact List.perm_middle
structure Wg (R:α→α→Prop) (xs ys:List α) (k:Nat):Prop where
 perm:ys.Perm xs
 lt:k<ys.length
 rest:(ys.eraseIdx k).Pairwise R
 up:∀ (j:Nat) x y,k<j→ys[k]?=some x→ys[j]?=some y→R x y
theorem Vd {l:List α} (h:l.Pairwise R) (x:α):Wg R (l++[x]) (l++[x]) l.length:=by
 refine ⟨List.Perm.refl _,by simp,?_,fun j a b hj ha hb=>?_⟩
 ·rw[List.eraseIdx_append_of_length_le (Nat.le_refl _)];simpa using h
 ·have:=(List.getElem?_eq_some_iff.1 hb).1
  rw[List.length_append] at this
  simp at this
  omega
theorem Wg.stands {xs ys:List α} {k:Nat} (tr:∀ a b c,R a b→R b c→R a c) (h:Wg R xs ys k) (hk:∀ (x y:α),0<k→ys[k]?=some x→ys[k - 1]?=some y→R y x):ys.Pairwise R:=by
 have hr:=X2.1 h.rest
 refine X2.2 (fun i j x y hij hx hy=>?_)
 by_cases h1:i<k
 ·by_cases h2:j<k
  ·exact hr i j x y hij (by rw[Xo _ h1];exact hx) (by rw[Xo _ h2];exact hy)
  ·by_cases h3:j=k
   ·subst h3
    obtain ⟨z,hz⟩:∃ z,ys[j - 1]?=some z:=⟨_,List.getElem?_eq_getElem (by have:=h.lt;omega)⟩
    have hzy:=hk y z (by omega) hy hz
    by_cases h4:i=j - 1
    ·subst h4;rw[hz] at hx;cases hx;exact hzy
    ·exact tr _ _ _ (hr i (j - 1) x z (by omega) (by rw[Xo _ h1];exact hx) (by rw[Xo _ (by omega)];exact hz)) hzy
   ·exact hr i (j - 1) x y (by omega) (by rw[Xo _ h1];exact hx) (by rw[V7 _ (by omega),show j - 1+1=j by omega];exact hy)
 ·by_cases h2:i=k
  ·subst h2;exact h.up j x y hij hx hy
  ·exact hr (i - 1) (j - 1) x y (by omega) (by rw[V7 _ (by omega),show i - 1+1=i by omega];exact hx) (by rw[V7 _ (by omega),show j - 1+1=j by omega];exact hy)
def YL (ys:List α) (k:Nat) (x y:α):List α:=(ys.set k y).set (k - 1) x
theorem Vz (ys:List α) (k:Nat) (x y:α):(YL ys k x y).length=ys.length:=by simp[YL]
theorem Xu (ys:List α) {k:Nat} {x y:α} (hk0:0<k) (hx:ys[k]?=some x) (hy:ys[k - 1]?=some y) (i:Nat):(YL ys k x y)[i]?=if i=k - 1 then some x else if i=k then some y else ys[i]?:=by
 have h1:=(List.getElem?_eq_some_iff.1 hx).1
 unfold YL
 rw[List.getElem?_set,List.getElem?_set,List.length_set]
 by_cases e1:k - 1=i
 ·rw[if_pos e1,if_pos (by omega),if_pos e1.symm]
 ·rw[if_neg e1,if_neg (show ¬ i=k - 1 from fun e=>e1 e.symm)]
  by_cases e2:k=i
  ·rw[if_pos e2,if_pos (by omega),if_pos e2.symm]
  ·rw[if_neg e2,if_neg (show ¬ i=k from fun e=>e2 e.symm)]
theorem Wg.swap {xs ys:List α} {k:Nat} (h:Wg R xs ys k) {x y:α} (hk0:0<k) (hx:ys[k]?=some x) (hy:ys[k - 1]?=some y) (hlt:R x y):Wg R xs (YL ys k x y) (k - 1):=by
 have hr:=X2.1 h.rest
 have hl:(YL ys k x y).length=ys.length:=by simp[YL]
 have he:(YL ys k x y).eraseIdx (k - 1)=ys.eraseIdx k:=by
  apply List.ext_getElem?
  intro i
  by_cases h1:i<k - 1
  ·rw[Xo _ h1,Xo _ (by omega),Xu ys hk0 hx hy,if_neg (by omega),if_neg (by omega)]
  ·rw[V7 _ (by omega),Xu ys hk0 hx hy,if_neg (by omega)]
   by_cases h2:i+1=k
   ·rw[if_pos h2,Xo _ (by omega),←hy];congr 1;omega
   ·rw[if_neg h2,V7 _ (by omega)]
 refine ⟨?_,by rw[hl];have:=h.lt;omega,by rw[he];exact h.rest,fun j a b hj ha hb=>?_⟩
 ·refine List.Perm.trans ?_ h.perm
  have p1:=Tb (l:=ys) (i:=k) hx
  have p2:=Tb (l:=YL ys k x y) (i:=k - 1) (x:=x) (by rw[Xu ys hk0 hx hy,if_pos rfl])
  rw[he] at p2
  exact p2.trans p1.symm
 ·rw[Xu ys hk0 hx hy,if_pos rfl] at ha
  cases ha
  rw[Xu ys hk0 hx hy,if_neg (by omega)] at hb
  by_cases e:j=k
  ·rw[if_pos e] at hb;cases hb;exact hlt
  ·rw[if_neg e] at hb
   exact h.up j x b (by omega) hx hb
end
theorem X9 {α:Type} {ea:α→List Value} {q:Nat} {T:TypeId} {base g n cap:Nat} {w:World} {zs:List α} (hk:∀ x,(ea x).length=q) (hq0:0<q) (hn:zs.length=n) (h:Own ea q T base w (.slice (some ⟨g,0,none⟩) n cap) zs)
  {k:Nat} {x y:α} (hx:zs[k]?=some x):Own ea q T base (Vn w g (k*q) 0 (ea y)) (.slice (some ⟨g,0,none⟩) n cap) (zs.set k y):=by
 subst hn
 have hxl:=(List.getElem?_eq_some_iff.1 hx).1
 haveI:Inhabited α:=⟨x⟩
 obtain ⟨hs,hb,hc,hm⟩:=h.slab hk
 have h2:=(hs.put hk hxl y).own hk hq0 hb hc hm
 have e:(List.range zs.length).map (upd (fun i=>zs[i]!) k y)=zs.set k y:=by
  apply List.ext_getElem?
  intro i
  rw[List.getElem?_map,List.getElem?_set]
  by_cases hi:i<zs.length
  ·rw[List.getElem?_range hi,Option.map_some]
   unfold upd
   by_cases h1:i=k
   ·rw[if_pos h1,if_pos h1.symm,if_pos hxl]
   ·rw[if_neg h1,if_neg (fun e=>h1 e.symm),List.getElem?_eq_getElem hi];exact congrArg some (getElem!_pos zs i hi)
  ·rw[if_neg (show ¬ k=i by omega),List.getElem?_eq_none (l:=List.range zs.length) (by simp;omega),List.getElem?_eq_none (l:=zs) (by omega)]
   rfl
 rw[e] at h2
 exact h2
theorem Own.cellI {α:Type} {ea:α→List Value} {q:Nat} {T:TypeId} {base g n cap:Nat} {w:World} {l:List α} (h:Own ea q T base w (.slice (some ⟨g,0,none⟩) n cap) l) (hk:∀ x,(ea x).length=q) {i j:Nat} {x:α} {u:Value} (hx:l[i]?=some x) (hu:(ea x)[j]?=some u) :
  w.cell? ⟨g,i*q+j,none⟩=some u:=by
 obtain ⟨a,c,e1,_,_,h4⟩:=h.slice hk
 cases e1
 obtain ⟨b,o,e2,h5⟩:=h4 (by rintro rfl;simp at hx)
 cases e2
 have:=h5 i x hx j u hu
 rw[Nat.zero_add] at this
 exact this
theorem Own.freeI {α:Type} {ea:α→List Value} {q:Nat} {T:TypeId} {base g n cap:Nat} {w:World} {l:List α} (h:Own ea q T base w (.slice (some ⟨g,0,none⟩) n cap) l) (o:Nat):w.frozen? ⟨g,o,none⟩=false:=by
 obtain ⟨cur,hc⟩:=h.tag (b:=g) rfl
 simp[World.frozen?,hc]
theorem Own.lenI {α:Type} {ea:α→List Value} {q:Nat} {T:TypeId} {base g n cap:Nat} {w:World} {l:List α} (h:Own ea q T base w (.slice (some ⟨g,0,none⟩) n cap) l) (hk:∀ x,(ea x).length=q):n=l.length∧n≤cap∧cap≤9223372036854775807:=by
 obtain ⟨a,c,e1,h2,h3,h4⟩:=h.slice hk
 cases e1
 exact ⟨rfl,h2,by unfold maxLen at h3;exact h3⟩
theorem Us {B:Nat} {w0:World} {g o:Nat} (hg:B≤g):∀ (vs:List Value) (j:Nat) (w:World),Below B w0 w→Below B w0 (Vn w g o j vs)
 | [],_,_,h=>h
 | v :: vs,j,w,h=>Us hg vs (j+1) _ (h.setCell hg v)
def UX (x:RMv):St × Ch:=(x.at_,x.ch)
def RLt (x y:RMv):Prop:=ZK x.at_ y.at_
def BLt (x y:Ch):Prop:=ZK x.block y.block
def YT (L:List RMv) (c:List (St × Ch)):Prop:=L.map UX=c∧L.Pairwise RLt
theorem YT.ris {L:List RMv} {c:List (St × Ch)} (h:YT L c):Sd c:=by
 rw[←h.1]
 exact List.pairwise_map.2 h.2
theorem YT.len {L:List RMv} {c:List (St × Ch)} (h:YT L c):L.length=c.length:=by rw[←h.1,List.length_map]
theorem Qv {a b:List (St × Ch)} (ha:Sd a) (hb:Sd b) (h:∀ x,x∈a↔x∈b):a=b :=
 Xz (R:=fun x y:St × Ch=>ZK x.1 y.1) (fun x=>Zm x.1) (fun _ _ _ h k=>ZC h k) ha hb h
theorem YT.add {L M:List RMv} {c:List (St × Ch)} (h:YT L c) {x:RMv} (hn:∀ y∈c,y.1≠x.at_) (hp:M.Perm (L++[x])) (hs:M.Pairwise RLt):YT M (Vu c (x.at_,x.ch)):=by
 refine ⟨Qv (List.pairwise_map.2 hs) (Z2D h.ris hn) (fun z=>?_),hs⟩
 rw[Tt,←h.1,List.mem_map,List.mem_map]
 constructor
 ·rintro ⟨y,hy,rfl⟩
  rcases List.mem_append.1 (hp.mem_iff.1 hy) with hy|hy
  ·exact .inr ⟨y,hy,rfl⟩
  ·exact .inl (by rw[List.mem_singleton.1 hy];rfl)
 ·rintro (rfl|⟨y,hy,rfl⟩)
  ·exact ⟨x,hp.mem_iff.2 (by simp),rfl⟩
  ·exact ⟨y,hp.mem_iff.2 (by simp[hy]),rfl⟩
theorem SQ (a b c:RMv) (h:RLt a b) (k:RLt b c):RLt a c:=ZC h k
theorem VI (a b c:Ch) (h:BLt a b) (k:BLt b c):BLt a c:=ZC h k
def Xx:List Ch→St→Option Nat
 | [],_=>none
 | x :: l,b=>if x.block=b then some 0 else (Xx l b).map (·+1)
theorem WG:∀ {l:List Ch} {b:St} {i:Nat},Xx l b=some i→∃ x,l[i]?=some x∧x.block=b∧∀ j y,j<i→l[j]?=some y→y.block≠b
 | [],_,_,h=>by cases h
 | x :: l,b,i,h=>by
  unfold Xx at h
  split at h
  ·cases h;exact ⟨x,rfl,by assumption,fun j y hj=>absurd hj (by omega)⟩
  ·rename_i hn
   cases hf:Xx l b with
   | none=>rw[hf] at h;cases h
   | some k =>
    rw[hf] at h
    cases h
    obtain ⟨y,h1,h2,h3⟩:=WG hf
    refine ⟨y,by simpa using h1,h2,fun j z hj hz=>?_⟩
    cases j with
    | zero=>simp at hz;subst hz;exact hn
    | succ j=>exact h3 j z (Nat.lt_of_succ_lt_succ hj) (by simpa using hz)
theorem W9:∀ {l:List Ch} {b:St},Xx l b=none↔∀ x∈l,x.block≠b
 | [],b=>by simp[Xx]
 | x :: l,b=>by
  unfold Xx
  split
  ·rename_i h;constructor
   ·intro e;cases e
   ·intro e;exact absurd h (e x (by simp))
  ·rename_i h
   rw[Option.map_eq_none_iff,W9]
   simp[h]
theorem Z2l {l:List Ch} {b:St} {i:Nat} {x:Ch} (hx:l[i]?=some x) (hb:x.block=b) (hn:∀ j y,j<i→l[j]?=some y→y.block≠b):Xx l b=some i:=by
 cases hf:Xx l b with
 | none=>exact absurd hb (W9.1 hf x (List.mem_of_getElem? hx))
 | some k =>
  obtain ⟨y,h1,h2,h3⟩:=WG hf
  rcases Nat.lt_trichotomy i k with h|h|h
  ·exact absurd hb (h3 i x h hx)
  ·rw[h]
  ·exact absurd h2 (hn k y h h1)
def Yz (l:List Ch) (b:St):Int:=match Xx l b with
 | some i=>i
 | none=>-1
theorem Zo.find {h:Zk} {l:List Ch} (a:Zo h l) (hk:ZZ h) {b:St}:(Xx l b=none∧h b=none)∨∃ i x,Xx l b=some i∧l[i]?=some x∧h b=some x∧x.block=b:=by
 cases hf:Xx l b with
 | none =>
  refine .inl ⟨rfl,?_⟩
  cases hb:h b with
  | none=>rfl
  | some x =>
   have:=hk b x hb
   exact absurd this (W9.1 hf x ((a.1 x).2 (by rw[this];exact hb)))
 | some i =>
  obtain ⟨x,h1,h2,_⟩:=WG hf
  refine .inr ⟨i,x,rfl,h1,?_,h2⟩
  have:=(a.1 x).1 (List.mem_of_getElem? h1)
  rw[h2] at this
  exact this
theorem Zo.setAt {h:Zk} {l:List Ch} (a:Zo h l) (hk:ZZ h) {c x:Ch} {i:Nat} (hi:l[i]?=some x) (hb:x.block=c.block):Zo (Va h c.block c) (l.set i c):=by
 have hil:=(List.getElem?_eq_some_iff.1 hi).1
 have hp:=X2.1 a.2
 refine ⟨fun d=>?_,X2.2 (fun p q y z hpq hy hz=>?_)⟩
 ·constructor
  ·intro hd
   obtain ⟨p,hpd⟩:=List.getElem?_of_mem hd
   rw[List.getElem?_set] at hpd
   by_cases e:i=p
   ·rw[if_pos e,if_pos (by omega)] at hpd
    cases hpd
    rw[Wv]
   ·rw[if_neg e] at hpd
    have hne:d.block≠c.block:=fun e2=>by
     rcases Nat.lt_or_gt_of_ne e with h1|h1
     ·have:=hp i p x d h1 hi hpd;rw[hb,←e2] at this;exact Zm _ this
     ·have:=hp p i d x h1 hpd hi;rw[hb,←e2] at this;exact Zm _ this
    rw[Xd _ _ hne]
    exact (a.1 d).1 (List.mem_of_getElem? hpd)
  ·intro hd
   by_cases e:d.block=c.block
   ·rw[e,Wv] at hd
    cases hd
    exact List.mem_of_getElem? (i:=i) (by rw[List.getElem?_set,if_pos rfl,if_pos (by omega)])
   ·rw[Xd _ _ e] at hd
    obtain ⟨p,hpd⟩:=List.getElem?_of_mem ((a.1 d).2 hd)
    have:i≠p:=fun e2=>by
     subst e2
     rw[hi] at hpd;cases hpd;exact e hb
    exact List.mem_of_getElem? (i:=p) (by rw[List.getElem?_set,if_neg this];exact hpd)
 ·have key:∀ (p:Nat) (y:Ch),(l.set i c)[p]?=some y→∃ y',l[p]?=some y'∧y'.block=y.block:=fun p y hy=>by
   rw[List.getElem?_set] at hy
   by_cases e:i=p
   ·rw[if_pos e,if_pos (by omega)] at hy
    cases hy
    exact ⟨x,e ▸ hi,hb⟩
   ·rw[if_neg e] at hy
    exact ⟨y,hy,rfl⟩
  obtain ⟨y',h1,h2⟩:=key p y hy
  obtain ⟨z',h3,h4⟩:=key q z hz
  rw[←h2,←h4]
  exact hp p q y' z' hpq h1 h3
theorem Zo.insert {h:Zk} {l M:List Ch} (a:Zo h l) (hk:ZZ h) {c:Ch} (hn:h c.block=none) (hp:M.Perm (l++[c])) (hs:M.Pairwise BLt):Zo (Va h c.block c) M:=by
 refine ⟨fun d=>?_,hs⟩
 rw[hp.mem_iff,List.mem_append,List.mem_singleton]
 by_cases e:d.block=c.block
 ·rw[e,Wv]
  constructor
  ·rintro (h1|rfl)
   ·have:=(a.1 d).1 h1
    rw[e,hn] at this
    cases this
   ·rfl
  ·intro h1;cases h1;exact .inr rfl
 ·rw[Xd _ _ e,a.1 d]
  constructor
  ·rintro (h1|rfl)
   ·exact h1
   ·exact absurd rfl e
  ·exact .inl
theorem Zo.nil:Zo (Y1 []) []:=⟨fun c=>by simp[Z2m],List.Pairwise.nil⟩
theorem YV (c:List (St × Ch)):ZZ (Y1 c):=Z0O _
theorem VH (c:List (St × Ch)):XI (Y1 c):=Z1e _
theorem SU {c:List (St × Ch)} {k:Nat} {x:St × Ch} (h:c[k]?=some x):Y1 (c.take (k+1))=Xt (Y1 (c.take k)) x.2:=by
 unfold Y1
 rw[List.take_add_one,h,Option.toList_some,List.map_append,List.map_cons,List.map_nil,Z23]
noncomputable def Xs (c:List (St × Ch)):List Bool:=(List.range c.length).map fun i=>match c[i]? with
 | some x=>WD (Y1 (c.take i)) x.2
 | none=>false
theorem UT {c:List (St × Ch)} {i:Nat} {x:St × Ch} (h:c[i]?=some x):(Xs c)[i]?=some (WD (Y1 (c.take i)) x.2):=by
 have hi:=(List.getElem?_eq_some_iff.1 h).1
 unfold Xs
 rw[List.getElem?_map,List.getElem?_range hi,Option.map_some,h]
theorem Wu (c:List (St × Ch)):(Xs c).length=c.length:=by simp[Xs]
theorem Z0t {c:List (St × Ch)} {k:Nat} {x:St × Ch} (h:c[k]?=some x):Xs (c.take (k+1))=Xs (c.take k)++[WD (Y1 (c.take k)) x.2]:=by
 have hk:=(List.getElem?_eq_some_iff.1 h).1
 apply List.ext_getElem?
 intro i
 by_cases h1:i<k
 ·obtain ⟨y,hy⟩:∃ y,c[i]?=some y:=⟨_,List.getElem?_eq_getElem (by omega)⟩
  rw[List.getElem?_append_left (by rw[Wu,List.length_take];omega)]
  rw[UT (x:=y) (by rw[List.getElem?_take,if_pos (by omega)];exact hy),UT (x:=y) (by rw[List.getElem?_take,if_pos (by omega)];exact hy),List.take_take,List.take_take,Nat.min_eq_left (by omega),Nat.min_eq_left (by omega)]
 ·by_cases h2:i=k
  ·subst h2
   rw[UT (x:=x) (by rw[List.getElem?_take,if_pos (by omega)];exact h),List.getElem?_append_right (by rw[Wu,List.length_take];omega),Wu,List.length_take,Nat.min_eq_left (by omega),List.take_take,Nat.min_eq_left (by omega)]
   simp
  ·rw[List.getElem?_eq_none (by rw[Wu,List.length_take];omega),List.getElem?_eq_none (by rw[List.length_append,Wu,List.length_take];simp;omega)]
structure YF (h:Zk) (u:St) (l:List Ch) (k:Nat) (M:List Ch):Prop where
 mem:∀ c,c∈M↔c∈l.take k∧c.under=u
 ord:M.Pairwise YA
theorem RN (h:Zk) (u:St) (l:List Ch):YF h u l 0 []:=⟨fun c=>by simp,List.Pairwise.nil⟩
theorem YF.skip {h:Zk} {u:St} {l M:List Ch} {k:Nat} (t:YF h u l k M) {x:Ch} (hx:l[k]?=some x) (hne:x.under≠u):YF h u l (k+1) M:=by
 refine ⟨fun c=>?_,t.ord⟩
 rw[t.mem,List.take_add_one,hx,Option.toList_some,List.mem_append,List.mem_singleton]
 constructor
 ·rintro ⟨h1,h2⟩;exact ⟨.inl h1,h2⟩
 ·rintro ⟨h1|rfl,h2⟩
  ·exact ⟨h1,h2⟩
  ·exact absurd h2 hne
theorem YF.put {h:Zk} {u:St} {l M M':List Ch} {k:Nat} (t:YF h u l k M) {x:Ch} (hx:l[k]?=some x) (he:x.under=u) (hp:M'.Perm (M++[x])) (hs:M'.Pairwise YA):YF h u l (k+1) M':=by
 refine ⟨fun c=>?_,hs⟩
 rw[hp.mem_iff,List.mem_append,List.mem_singleton,t.mem,List.take_add_one,hx,Option.toList_some,List.mem_append,List.mem_singleton]
 constructor
 ·rintro (⟨h1,h2⟩|rfl)
  ·exact ⟨.inl h1,h2⟩
  ·exact ⟨.inr rfl,he⟩
 ·rintro ⟨h1|rfl,h2⟩
  ·exact .inl ⟨h1,h2⟩
  ·exact .inr rfl
theorem YF.len {h:Zk} {u:St} {l M:List Ch} {k:Nat} (t:YF h u l k M) (hk:k≤l.length):M.length≤k:=by
 have hn:M.Nodup:=t.ord.imp fun {x y} h e=>by rw[e] at h;exact XX _ h
 have:=hn.length_le_of_subset (l₂:=l.take k) fun c hc=>((t.mem c).1 hc).1
 rw[List.length_take] at this
 omega
theorem YF.all {h:Zk} {u:St} {l M:List Ch} (a:Zo h l) (t:YF h u l l.length M):WL h u M:=by
 refine ⟨fun c=>?_,t.ord⟩
 rw[t.mem,List.take_length,a.1 c]
theorem YF.later {h:Zk} {u:St} {l M:List Ch} {k:Nat} (a:Zo h l) (t:YF h u l k M) {x y:Ch} (hx:l[k]?=some x) (hy:y∈M):ZK y.block x.block:=by
 obtain ⟨h1,_⟩:=(t.mem y).1 hy
 obtain ⟨j,hj⟩:=List.getElem?_of_mem h1
 rw[List.getElem?_take] at hj
 split at hj
 ·exact X2.1 a.2 j k y x (by assumption) hj hx
 ·cases hj
end Go.Proofs.YtlgipkemoldckaaGreatDoor
