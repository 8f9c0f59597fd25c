/- VAll2, part 2 of what the proof leans on (made short by a program). -/
import Derived.Test.YtlgipkemoldckaaGreatDoorVrZ1
import Derived.Laws.EntriesVeiled
import Derived.Shelf.SlSortCmp.NoneTotal
import Derived.Lib.AppendZerosOnto
import Derived.Shelf.Spec.SlicesInsert
set_option linter.unusedSimpArgs false
set_option linter.unusedVariables false
set_option linter.unusedSectionVars false
set_option maxRecDepth 20000
set_option maxHeartbeats 30000000
namespace Go.Proofs.YtlgipkemoldckaaGreatDoor
section
variable {α:Type} {lt:α→α→Prop} {pos:α→Nat} {cf:α→α→Int}
structure ZM (lt:α→α→Prop) (pos:α→Nat) (a m b:Nat) (f:Nat→α):Prop where
 am:a<m
 mb:m<b
 left:ZE lt a m f
 right:ZE lt m b f
 apart:∀ i j,a≤i→i<m→m≤j→j<b→pos (f i)<pos (f j)
theorem QS (f:Nat→α) {s m e:Nat} (h1:s≤m) (h2:m≤e) (h:s=m∨e=m):Y4 f s m e=f:=by
 funext t
 unfold Y4
 split
 ·congr 1;omega
 ·split
  ·congr 1;omega
  ·rfl
theorem Qf (R:YW lt pos cf) {a b i:Nat} {f:Nat→α} (h:ZM lt pos a (a+1) b f) (hi1:a+1≤i) (hi2:i≤b) (q1:i=a+1∨lt (f (i - 1)) (f a)) (q2:i=b∨¬ lt (f i) (f a)) :
  ZE lt a b (Yj f a (i - 1))∧Zj a b f (Yj f a (i - 1)):=by
 have hmb:=h.mb
 refine ⟨?_,Sz f (by omega) (Nat.le_refl _) (by omega)⟩
 have below:∀ t,a+1≤t→t<i→lt (f t) (f a):=fun t h1 h2=>by
  rcases q1 with e|hl
  ·omega
  ·by_cases ht:t=i - 1
   ·rw[ht];exact hl
   ·exact R.trans _ _ _ (h.right t (i - 1) h1 (by omega) (by omega)) hl
 have above:∀ t,i≤t→t<b→lt (f a) (f t):=fun t h1 h2=>by
  have hl:lt (f a) (f i):=by
   rcases q2 with e|hn
   ·omega
   ·have:=h.apart a i (Nat.le_refl _) (by omega) hi1 (by omega)
    rcases R.total (f a) (f i) (by omega) with t|t
    ·exact t
    ·exact absurd t hn
  by_cases ht:t=i
  ·rw[ht];exact hl
  ·exact R.trans _ _ _ hl (h.right i t hi1 (by omega) h2)
 have e1:∀ t,a≤t→t<i - 1→Yj f a (i - 1) t=f (t+1):=fun t h1 h2=>by unfold Yj;rw[if_pos ⟨h1,h2⟩]
 have e2:Yj f a (i - 1) (i - 1)=f a:=by unfold Yj;rw[if_neg (by omega),if_pos rfl]
 have e3:∀ t,i≤t→Yj f a (i - 1) t=f t:=fun t h1=>by unfold Yj;rw[if_neg (by omega),if_neg (by omega)]
 intro p q h1 h2 h3
 by_cases hp:p<i - 1
 ·rw[e1 p h1 hp]
  by_cases hq:q<i - 1
  ·rw[e1 q (by omega) hq];exact h.right (p+1) (q+1) (by omega) (by omega) (by omega)
  ·by_cases hq2:q=i - 1
   ·rw[hq2,e2];exact below (p+1) (by omega) (by omega)
   ·rw[e3 q (by omega)];exact h.right (p+1) q (by omega) (by omega) h3
 ·by_cases hp2:p=i - 1
  ·rw[hp2,e2,e3 q (by omega)];exact above q (by omega) h3
  ·rw[e3 p (by omega),e3 q (by omega)];exact h.right p q (by omega) h2 h3
theorem RB (R:YW lt pos cf) {a m i:Nat} {f:Nat→α} (h:ZM lt pos a m (m+1) f) (hi1:a≤i) (hi2:i≤m) (q1:i=a∨¬ lt (f m) (f (i - 1))) (q2:i=m∨lt (f m) (f i)) :
  ZE lt a (m+1) (Yl f m i)∧Zj a (m+1) f (Yl f m i):=by
 have ham:=h.am
 refine ⟨?_,SY f hi2 hi1 (by omega)⟩
 have below:∀ t,a≤t→t<i→lt (f t) (f m):=fun t h1 h2=>by
  have hl:lt (f (i - 1)) (f m):=by
   rcases q1 with e|hn
   ·omega
   ·have:=h.apart (i - 1) m (by omega) (by omega) (Nat.le_refl _) (by omega)
    rcases R.total (f (i - 1)) (f m) (by omega) with t|t
    ·exact t
    ·exact absurd t hn
  by_cases ht:t=i - 1
  ·rw[ht];exact hl
  ·exact R.trans _ _ _ (h.left t (i - 1) h1 (by omega) (by omega)) hl
 have above:∀ t,i≤t→t<m→lt (f m) (f t):=fun t h1 h2=>by
  rcases q2 with e|hl
  ·omega
  ·by_cases ht:t=i
   ·rw[ht];exact hl
   ·exact R.trans _ _ _ hl (h.left i t hi1 (by omega) h2)
 have e1:∀ t,t<i→Yl f m i t=f t:=fun t h1=>by unfold Yl;rw[if_neg (by omega),if_neg (by omega)]
 have e2:Yl f m i i=f m:=by unfold Yl;rw[if_neg (by omega),if_pos rfl]
 have e3:∀ t,i<t→t≤m→Yl f m i t=f (t - 1):=fun t h1 h2=>by unfold Yl;rw[if_pos ⟨h1,h2⟩]
 intro p q h1 h2 h3
 by_cases hp:p<i
 ·rw[e1 p hp]
  by_cases hq:q<i
  ·rw[e1 q hq];exact h.left p q h1 h2 (by omega)
  ·by_cases hq2:q=i
   ·rw[hq2,e2];exact below p h1 hp
   ·rw[e3 q (by omega) (by omega)]
    by_cases hpq:p=q - 1
    ·omega
    ·exact h.left p (q - 1) h1 (by omega) (by omega)
 ·by_cases hp2:p=i
  ·rw[hp2,e2,e3 q (by omega) (by omega)];exact above (q - 1) (by omega) (by omega)
  ·rw[e3 p (by omega) (by omega),e3 q (by omega) (by omega)];exact h.left (p - 1) (q - 1) (by omega) (by omega) (by omega)
structure Yq (lt:α→α→Prop) (a m b mid s e:Nat) (f:Nat→α):Prop where
 lea:a≤s
 sm:s≤m
 me:m≤e
 eb:e≤b
 sum:s+e=mid+m
 lo:s=a∨e=b∨¬ lt (f e) (f (s - 1))
 hi:s=m∨e=m∨lt (f (e - 1)) (f s)
section
variable {a m b mid s e:Nat} {f:Nat→α}
theorem Yq.g1 (c:Yq lt a m b mid s e f) {t:Nat} (h1:s≤t) (h2:t<mid):Y4 f s m e t=f (t+(m - s)):=by
 have:=c.sum;have:=c.sm;have:=c.me
 unfold Y4;rw[if_pos (by omega)]
theorem Yq.g2 (c:Yq lt a m b mid s e f) {t:Nat} (h1:mid≤t) (h2:t<e):Y4 f s m e t=f (t - (e - m)):=by
 have:=c.sum;have:=c.sm;have:=c.me
 unfold Y4;rw[if_neg (by omega),if_pos (by omega)]
theorem Yq.g0 (c:Yq lt a m b mid s e f) {t:Nat} (h:t<s∨e≤t):Y4 f s m e t=f t:=by
 have:=c.sum;have:=c.sm;have:=c.me
 unfold Y4;rw[if_neg (by omega),if_neg (by omega)]
theorem Yq.cross (R:YW lt pos cf) (h:ZM lt pos a m b f) (c:Yq lt a m b mid s e f) {i j:Nat} (h1:a≤i) (h2:i<mid) (h3:mid≤j) (h4:j<b):lt (Y4 f s m e i) (Y4 f s m e j):=by
 have hs:=c.sum;have hsm:=c.sm;have hme:=c.me;have has:=c.lea;have heb:=c.eb
 have ham:=h.am;have hmb:=h.mb
 have lr:∀ p q,a≤p→p<s→e≤q→q<b→lt (f p) (f q):=fun p q k1 k2 k3 k4=>by
  have hl:lt (f (s - 1)) (f e):=by
   rcases c.lo with e1|e1|hn
   ·omega
   ·omega
   ·have:=h.apart (s - 1) e (by omega) (by omega) hme (by omega)
    rcases R.total (f (s - 1)) (f e) (by omega) with t|t
    ·exact t
    ·exact absurd t hn
  have hl2:lt (f p) (f e):=by
   by_cases hp:p=s - 1
   ·rw[hp];exact hl
   ·exact R.trans _ _ _ (h.left p (s - 1) k1 (by omega) (by omega)) hl
  by_cases hq:q=e
  ·rw[hq];exact hl2
  ·exact R.trans _ _ _ hl2 (h.right e q hme (by omega) k4)
 have rl:∀ p q,m≤p→p<e→s≤q→q<m→lt (f p) (f q):=fun p q k1 k2 k3 k4=>by
  have hl:lt (f (e - 1)) (f s):=by
   rcases c.hi with e1|e1|hl
   ·omega
   ·omega
   ·exact hl
  have hl2:lt (f p) (f s):=by
   by_cases hp:p=e - 1
   ·rw[hp];exact hl
   ·exact R.trans _ _ _ (h.right p (e - 1) k1 (by omega) (by omega)) hl
  by_cases hq:q=s
  ·rw[hq];exact hl2
  ·exact R.trans _ _ _ hl2 (h.left s q has (by omega) k4)
 by_cases hi:i<s
 ·rw[c.g0 (.inl hi)]
  by_cases hj:j<e
  ·rw[c.g2 h3 hj];exact h.left i _ h1 (by omega) (by omega)
  ·rw[c.g0 (.inr (by omega))];exact lr i j h1 hi (by omega) h4
 ·rw[c.g1 (by omega) h2]
  by_cases hj:j<e
  ·rw[c.g2 h3 hj];exact rl _ _ (by omega) (by omega) (by omega) (by omega)
  ·rw[c.g0 (.inr (by omega))];exact h.right _ j (by omega) (by omega) h4
theorem Yq.pre1 (h:ZM lt pos a m b f) (c:Yq lt a m b mid s e f) (h1:a<s) (h2:s<mid):ZM lt pos a s mid (Y4 f s m e):=by
 have hs:=c.sum;have hsm:=c.sm;have hme:=c.me;have has:=c.lea;have heb:=c.eb
 refine ⟨h1,h2,fun i j k1 k2 k3=>?_,fun i j k1 k2 k3=>?_,fun i j k1 k2 k3 k4=>?_⟩
 ·rw[c.g0 (.inl (by omega)),c.g0 (.inl k3)];exact h.left i j k1 k2 (by omega)
 ·rw[c.g1 k1 (by omega),c.g1 (by omega) k3];exact h.right _ _ (by omega) (by omega) (by omega)
 ·rw[c.g0 (.inl k2),c.g1 k3 k4];exact h.apart _ _ k1 (by omega) (by omega) (by omega)
theorem Yq.pre2 (h:ZM lt pos a m b f) (c:Yq lt a m b mid s e f) (h1:mid<e) (h2:e<b):ZM lt pos mid e b (Y4 f s m e):=by
 have hs:=c.sum;have hsm:=c.sm;have hme:=c.me;have has:=c.lea;have heb:=c.eb
 refine ⟨h1,h2,fun i j k1 k2 k3=>?_,fun i j k1 k2 k3=>?_,fun i j k1 k2 k3 k4=>?_⟩
 ·rw[c.g2 k1 (by omega),c.g2 (by omega) k3];exact h.left _ _ (by omega) (by omega) (by omega)
 ·rw[c.g0 (.inr k1),c.g0 (.inr (by omega))];exact h.right _ _ (by omega) (by omega) (by omega)
 ·rw[c.g2 k1 k2,c.g0 (.inr k3)];exact h.apart _ _ (by omega) (by omega) (by omega) k4
theorem Yq.sort1 (h:ZM lt pos a m b f) (c:Yq lt a m b mid s e f) (hn:¬ (a<s∧s<mid)):ZE lt a mid (Y4 f s m e):=by
 have hs:=c.sum;have hsm:=c.sm;have hme:=c.me;have has:=c.lea;have heb:=c.eb
 intro i j k1 k2 k3
 by_cases hsa:s=a
 ·rw[c.g1 (by omega) (by omega),c.g1 (by omega) k3];exact h.right _ _ (by omega) (by omega) (by omega)
 ·rw[c.g0 (.inl (by omega)),c.g0 (.inl (by omega))];exact h.left i j k1 k2 (by omega)
theorem Yq.sort2 (h:ZM lt pos a m b f) (c:Yq lt a m b mid s e f) (hn:¬ (mid<e∧e<b)):ZE lt mid b (Y4 f s m e):=by
 have hs:=c.sum;have hsm:=c.sm;have hme:=c.me;have has:=c.lea;have heb:=c.eb
 intro i j k1 k2 k3
 by_cases hb:e=b
 ·rw[c.g2 k1 (by omega),c.g2 (by omega) (by omega)];exact h.left _ _ (by omega) (by omega) (by omega)
 ·rw[c.g0 (.inr (by omega)),c.g0 (.inr (by omega))];exact h.right _ _ (by omega) (by omega) k3
end
theorem TK {a mid b:Nat} {g h1 h2:Nat→α} (cross:∀ i j,a≤i→i<mid→mid≤j→j<b→lt (g i) (g j)) (p1:Zj a mid g h1) (s1:ZE lt a mid h1) (p2:Zj mid b h1 h2) (s2:ZE lt mid b h2):ZE lt a b h2:=by
 intro i j k1 k2 k3
 by_cases hi:i<mid
 ·have ei:h2 i=h1 i:=p2.out (.inl hi)
  by_cases hj:j<mid
  ·rw[ei,p2.out (.inl hj)];exact s1 i j k1 k2 hj
  ·obtain ⟨i',a1,a2,a3⟩:=p1.from k1 hi
   obtain ⟨j',b1,b2,b3⟩:=p2.from (show mid≤j by omega) k3
   rw[ei,a3,b3,p1.out (.inr b1)]
   exact cross i' j' a1 a2 b1 b2
 ·exact s2 i j (by omega) k2 k3
end
section
variable {α:Type} {lt:α→α→Prop} {f g h:Nat→α}
def X9 (lt:α→α→Prop) (f:Nat→α) (a b:Nat) (g:Nat→α):Prop:=ZE lt a b g∧∀ i,a≤i→i<b→∃ j,a≤j∧j<b∧g i=f j
theorem X9.congr {a b:Nat} (H:X9 lt f a b g) (hg:∀ i,a≤i→i<b→h i=g i):X9 lt f a b h :=
 ⟨H.1.congr hg,fun i h1 h2=>by rw[hg i h1 h2];exact H.2 i h1 h2⟩
inductive YB (lt:α→α→Prop) (f:Nat→α) (s n:Nat) (g:Nat→α):Nat→Prop
 | done {a:Nat} (h:n≤a):YB lt f s n g a
 | step {a:Nat} (h:a<n) (r:X9 lt f a (min (a+s) n) g) (k:YB lt f s n g (a+s)):YB lt f s n g a
inductive X8 (lt:α→α→Prop) (f:Nat→α) (t:Nat) (g:Nat→α):Nat→Prop
 | zero:X8 lt f t g 0
 | snoc {a:Nat} (k:X8 lt f t g a) (r:X9 lt f a (a+t) g):X8 lt f t g (a+t)
theorem YB.congr {s n a:Nat} (H:YB lt f s n g a):(∀ i,a≤i→i<n→h i=g i)→YB lt f s n h a:=by
 induction H with
 | done hn=>exact fun _=>.done hn
 | step hn r k ih=>exact fun hg=>.step hn (r.congr fun i h1 h2=>hg i h1 (by omega)) (ih fun i h1 h2=>hg i (by omega) h2)
theorem X8.congr {t a:Nat} (H:X8 lt f t g a):(∀ i,i<a→h i=g i)→X8 lt f t h a:=by
 induction H with
 | zero=>exact fun _=>.zero
 | snoc k r ih=>exact fun hg=>.snoc (ih fun i h1=>hg i (by omega)) (r.congr fun i h1 h2=>hg i h2)
theorem YB.first {s n a:Nat} (H:YB lt f s n g a) (ha:a<n):X9 lt f a (min (a+s) n) g∧YB lt f s n g (a+s):=by
 cases H with
 | done hn=>omega
 | step hn r k=>exact ⟨r,k⟩
theorem X8.runs {t n a:Nat} (H:X8 lt f t g a):a≤n→YB lt f t n g a→YB lt f t n g 0:=by
 induction H with
 | zero=>exact fun _ r=>r
 | @snoc a k r ih =>
  intro hn hr
  by_cases ht:t=0
  ·subst ht;exact ih (by omega) hr
  ·exact ih (by omega) (.step (by omega) (by rw[Nat.min_eq_left (by omega)];exact r) hr)
theorem YB.all {s n:Nat} (H:YB lt f s n g 0) (hs:n≤s):ZE lt 0 n g:=by
 by_cases hn:0<n
 ·have:=(H.first hn).1.1
  rwa [Nat.zero_add,Nat.min_eq_right hs] at this
 ·exact fun i j _ h1 h2=>by omega
theorem Vc {pos:α→Nat} {a m b n:Nat} (am:a<m) (mb:m<b) (bn:b≤n) (hp:∀ p q,p<q→q<n→pos (f p)<pos (f q)) (r1:X9 lt f a m g) (r2:X9 lt f m b g):ZM lt pos a m b g :=
 ⟨am,mb,r1.1,r2.1,fun i j h1 h2 h3 h4=>by
  obtain ⟨p,p1,p2,e1⟩:=r1.2 i h1 h2
  obtain ⟨q,q1,q2,e2⟩:=r2.2 j h3 h4
  rw[e1,e2];exact hp p q (by omega) (by omega)⟩
theorem Ro {a m b:Nat} (am:a≤m) (mb:m≤b) (r1:X9 lt f a m g) (r2:X9 lt f m b g) (p:Zj a b g h) (s:ZE lt a b h):X9 lt f a b h :=
 ⟨s,fun i h1 h2=>by
  obtain ⟨j,j1,j2,e⟩:=p.from h1 h2
  rw[e]
  by_cases hj:j<m
  ·obtain ⟨q,q1,q2,e2⟩:=r1.2 j j1 hj
   exact ⟨q,q1,by omega,e2⟩
  ·obtain ⟨q,q1,q2,e2⟩:=r2.2 j (by omega) j2
   exact ⟨q,by omega,q2,e2⟩⟩
theorem VN {a b:Nat} (hg:∀ i,a≤i→i<b→g i=f i) (p:Zj a b g h) (s:ZE lt a b h):X9 lt f a b h :=
 ⟨s,fun i h1 h2=>by
  obtain ⟨j,j1,j2,e⟩:=p.from h1 h2
  exact ⟨j,j1,j2,e.trans (hg j j1 j2)⟩⟩
theorem YB.last {s t n a:Nat} (H:YB lt f s n g a) (hst:s≤t) (hn:n≤a+s):YB lt f t n g a:=by
 by_cases ha:a<n
 ·have:=(H.first ha).1
  rw[Nat.min_eq_right hn] at this
  exact .step ha (by rw[Nat.min_eq_right (by omega)];exact this) (.done (by omega))
 ·exact .done (by omega)
theorem Zj.list {n:Nat} (H:Zj 0 n f g):((List.range n).map g).Perm ((List.range n).map f):=by
 obtain ⟨s,t,st,ts,so,hg⟩:=H
 have e:(List.range n).map g=((List.range n).map s).map f:=by rw[List.map_map];exact List.map_congr_left fun i _=>hg i
 rw[e]
 refine List.Perm.map f ((List.perm_ext_iff_of_nodup ?_ List.nodup_range).2 fun i=>?_)
 ·refine List.pairwise_map.2 (List.nodup_range.imp fun {a b} hne h=>hne ?_)
  have:=congrArg t h
  rwa [ts,ts] at this
 ·have inn:∀ j,j<n→s j<n:=fun j hj=>Nat.lt_of_not_le fun hn=>by
   have h1:=so (s j) (.inr hn)
   have h2:=congrArg t h1
   rw[ts,ts] at h2
   omega
  simp only[List.mem_map,List.mem_range]
  constructor
  ·rintro ⟨j,hj,rfl⟩;exact inn j hj
  ·intro hi
   refine ⟨t i,?_,st i⟩
   refine Nat.lt_of_not_le fun hn=>?_
   have h1:=so (t i) (.inr hn)
   rw[st] at h1
   omega
theorem ZE.list {n:Nat} (H:ZE lt 0 n g):((List.range n).map g).Pairwise lt:=by
 rw[List.pairwise_map]
 refine List.pairwise_iff_getElem.2 fun i j hi hj hij=>?_
 simp only[List.length_range] at hi hj
 simp only[List.getElem_range]
 exact H i j (Nat.zero_le _) hij hj
end
end Go.Proofs.YtlgipkemoldckaaGreatDoor
namespace Go.Proofs.YtlgipkemoldckaaGreatDoor
open Go
section
variable {P:Program} {ops:Array Oper} {Q:Exit→Act→World→Prop} {md:Region.Mode} {S:World→Prop}
theorem Z7 {i:Nat} {oi:Oper} {d:Option Tmp} {v:Value} {fuel:Nat} {listed:Array Bool} {a:Act} {w:World} (hi:ops[i]?=some oi) (hd:oi.dst=d)
  (hs:Region.noSelect ops=true) (hf:Region.free md ops listed i=true) (hr:(Region.ready md ops listed).contains i=true)
  (hQ:∀ c a w,Q (.panic c) (a.put d v) w→Q (.panic c) a w) (hy:YieldsIf P ops S oi v a) (hS:S w)
  (h:wpAnyH P md ops Q S fuel (listed.setIfInBounds i true) (a.put d v) w):wpAnyH P md ops Q S (fuel+1) listed a w:=by
 subst hd
 exact wpAnyH_take hi hs hf hr hQ hy hS h
theorem Wb {i:Nat} {o:Oper} {d:Option Tmp} {f:FuncId} {args:Array Value} {fuel:Nat} {listed:Array Bool} {a:Act} {w w':World} (hr:Region.ready md ops listed=[i]) (ho:ops[i]?=some o) (hd:o.dst=d) (hw:Region.wanted o (yielded ops a.tmps)=true)
  (hv:(execOp a.eval o).run P w=.ok (.enter f args) w')
  (h:Calls P f args w' fun e w''=>∃ v,e=.returned v∧S w''∧wpAnyH P md ops Q S fuel (listed.setIfInBounds i true) (a.put d v) w''):wpAnyH P md ops Q S (fuel+1) listed a w:=by
 subst hd
 exact wpAnyH_all hr (by simp) (fun j hj=>by
  obtain rfl:=List.mem_singleton.1 hj
  exact wpOp_step ho fun K' hK=>by
   rw[if_pos hw,Oper.wp,hv,Oper.upon_enter]
   refine Calls.mono h ?_
   rintro e w'' ⟨v,rfl,h1,h2⟩
   exact hK _ _ ⟨h1,h2⟩)
end
end Go.Proofs.YtlgipkemoldckaaGreatDoor
namespace Go.Proofs.YtlgipkemoldckaaGreatDoor
open Go.RowKit
section
variable {cap sz blk n:Nat} {lt:(Z9 × Nat)→(Z9 × Nat)→Prop}
abbrev Zd (p:Z9 × Nat):List Value:=Z9.cells p.1
theorem ZY (x:(Z9 × Nat)):(Zd x).length=28:=rfl
theorem XW (x:(Z9 × Nat)):∀ u∈Zd x,u.oneCell'=true:=fun u hu=>List.all_eq_true.1 (show (Zd x).all (fun v=>v.oneCell')=true from rfl) u hu
theorem Yi:Xc Tryz.prog 183 28:=⟨Tryz.isAgg183,Tryz.sizeOf183⟩
theorem Xy (a b m:Nat) (f:Nat→(Z9 × Nat)) (fv:Value) (w:World) (hS:Z8 Zd 28 183 sz w blk n f) (h1:a+m≤b) (h2:b+m≤n) (hcap:n≤cap) (hn:cap≤maxLen) :
  Calls Tryz.prog 153 #[.slice (some ⟨blk,0,none⟩) n cap,.int .i64 a,.int .i64 b,.int .i64 m,fv] w fun e w'=>(∃ v,e=.returned v)∧Z8 Zd 28 183 sz w' blk n (Yu f a b m)∧Ext (·=blk) w w':=by
 unfold maxLen at hn
 go_enter Tryz.func153,Tryz.ntmps153
 go_wp2_with fail
 go_loopg [10] m (fun g iv wx=>∃ i:Nat,g=m - i∧i≤m∧iv=.int .i64 i∧Z8 Zd 28 183 sz wx blk n (Yu f a b i)∧Ext (·=blk) w wx)
 case atStart=>exact ⟨0,rfl,Nat.zero_le _,rfl,by rw[SB];exact hS,Ext.refl _ _⟩
 case round =>
  obtain ⟨i,hg,hi,rfl,hW,hx⟩:=hrel
  have HG:=Lib.hid hg
  clear hg hS
  have HX:=Lib.hid hx
  clear hx
  by_cases hlt:i<m
  ·have hp:a+i<n:=by omega
   have hq:b+i<n:=by omega
   have HW:Hid (ZZ (Yu f a b i) (a+i) (b+i)=Yu f a b (i+1)):=SP f (by omega)
   generalize Yu f a b i=g0 at *
   have HSL:=Lib.hid hW
   clear hW
   have iap:(0:Int)≤(a:Int)+(i:Int):=by omega
   have ibp:(a:Int)+(i:Int)<(n:Int):=by omega
   have icp:((a:Int)+(i:Int)).toNat=a+i:=by omega
   have idp:IntKind.i64.wrap ((a:Int)+(i:Int))=(a:Int)+(i:Int):=IntWalk.i64_in _ (by omega)
   have iaq:(0:Int)≤(b:Int)+(i:Int):=by omega
   have ibq:(b:Int)+(i:Int)<(n:Int):=by omega
   have icq:((b:Int)+(i:Int)).toNat=b+i:=by omega
   have idq:IntKind.i64.wrap ((b:Int)+(i:Int))=(b:Int)+(i:Int):=IntWalk.i64_in _ (by omega)
   go_wp2_with fail
   refine Zq (fun W=>Z8 Zd 28 183 sz W blk n g0) (fun i=>!(i == 13 || i == 19)) (by kernel_rfl) ?_
   have hS0:Z8 Zd 28 183 sz wr.drew blk n g0:=HSL.out.drew
   have X0:Ext (·=blk) wr wr.drew:=(Ext.refl _ _).drew
   generalize wr.drew=W1 at hS0 X0 ⊢
   refine Z1 (i:=0) (d:=some 16) rfl rfl rfl (by kernel_rfl) (by kernel_rfl) (by kernel_rfl) (fun _ _ _ h=>h) (.inl ⟨by rfl,fun W hW=>by go_simp;rfl⟩) ?_
   try simp only[Ja]
   refine Z1 (i:=1) (d:=some 17) rfl rfl rfl (by kernel_rfl) (by kernel_rfl) (by kernel_rfl) (fun _ _ _ h=>h) (.inl ⟨by rfl,fun W hW=>by go_simp;rfl⟩) ?_
   try simp only[Ja]
   refine Z1 (i:=2) (d:=some 18) rfl rfl rfl (by kernel_rfl) (by kernel_rfl) (by kernel_rfl) (fun _ _ _ h=>h) (.inl ⟨by rfl,fun W hW=>by go_simp;rfl⟩) ?_
   try simp only[Ja]
   refine Z1 (i:=3) (d:=some 19) rfl rfl rfl (by kernel_rfl) (by kernel_rfl) (by kernel_rfl) (fun _ _ _ h=>h) (.inl ⟨by rfl,fun W hW=>by go_simp;rfl⟩) ?_
   try simp only[Ja]
   refine Z1 (i:=4) (d:=some 20) rfl rfl rfl (by kernel_rfl) (by kernel_rfl) (by kernel_rfl) (fun _ _ _ h=>h) (.inl ⟨by rfl,fun W hW=>by go_simp;rfl⟩) ?_
   try simp only[Ja]
   refine Z1 (i:=5) (d:=some 21) rfl rfl rfl (by kernel_rfl) (by kernel_rfl) (by kernel_rfl) (fun _ _ _ h=>h) (.inl ⟨by rfl,fun W hW=>by go_simp;rfl⟩) ?_
   try simp only[Ja]
   refine Z1 (i:=6) (d:=some 22) rfl rfl rfl (by kernel_rfl) (by kernel_rfl) (by kernel_rfl) (fun _ _ _ h=>h) (.inl ⟨by rfl,fun W hW=>by go_simp;rfl⟩) ?_
   try simp only[Ja]
   refine Z1 (i:=7) (d:=some 23) rfl rfl rfl (by kernel_rfl) (by kernel_rfl) (by kernel_rfl) (fun _ _ _ h=>h) (.inl ⟨by rfl,fun W hW=>by go_simp;rfl⟩) ?_
   try simp only[Ja]
   refine Z1 (i:=8) (d:=some 24) rfl rfl rfl (by kernel_rfl) (by kernel_rfl) (by kernel_rfl) (fun _ _ _ h=>h) (.inl ⟨by rfl,fun W hW=>by go_simp;rfl⟩) ?_
   try simp only[Ja]
   refine Z1 (i:=9) (d:=some 25) rfl rfl rfl (by kernel_rfl) (by kernel_rfl) (by kernel_rfl) (fun _ _ _ h=>h) (.inl ⟨by rfl,fun W hW=>by go_simp;rfl⟩) ?_
   try simp only[Ja]
   refine Z1 (i:=10) (d:=some 26) rfl rfl rfl (by kernel_rfl) (by kernel_rfl) (by kernel_rfl) (fun _ _ _ h=>h) (.inl ⟨by rfl,fun W hW=>by go_simp;rfl⟩) ?_
   try simp only[Ja]
   refine Z1 (i:=11) (d:=some 27) rfl rfl rfl (by kernel_rfl) (by kernel_rfl) (by kernel_rfl) (fun _ _ _ h=>h) (.inl ⟨by rfl,fun W hW=>by go_simp;rfl⟩) ?_
   try simp only[Ja]
   refine Z1 (i:=12) (d:=some 28) rfl rfl rfl (by kernel_rfl) (by kernel_rfl) (by kernel_rfl) (fun _ _ _ h=>h) (.inl ⟨by rfl,fun W hW=>by go_simp;rfl⟩) ?_
   try simp only[Ja]
   refine Z1 (i:=14) (d:=some 30) rfl rfl rfl (by kernel_rfl) (by kernel_rfl) (by kernel_rfl) (fun _ _ _ h=>h) (.inl ⟨by rfl,fun W hW=>by go_simp;rfl⟩) ?_
   try simp only[Ja]
   refine Z1 (i:=15) (d:=some 31) rfl rfl rfl (by kernel_rfl) (by kernel_rfl) (by kernel_rfl) (fun _ _ _ h=>h) (.inl ⟨by rfl,fun W hW=>by go_simp;rfl⟩) ?_
   try simp only[Ja]
   refine Z1 (i:=16) (d:=some 32) rfl rfl rfl (by kernel_rfl) (by kernel_rfl) (by kernel_rfl) (fun _ _ _ h=>h) (.inl ⟨by rfl,fun W hW=>by go_simp;rfl⟩) ?_
   try simp only[Ja]
   refine Z1 (i:=17) (d:=some 33) rfl rfl rfl (by kernel_rfl) (by kernel_rfl) (by kernel_rfl) (fun _ _ _ h=>h) (.inl ⟨by rfl,fun W hW=>by go_simp;rfl⟩) ?_
   try simp only[Ja]
   refine Z1 (i:=18) (d:=some 34) rfl rfl rfl (by kernel_rfl) (by kernel_rfl) (by kernel_rfl) (fun _ _ _ h=>h) (.inl ⟨by rfl,fun W hW=>by go_simp;rfl⟩) ?_
   try simp only[Ja]
   refine JR 13 29 (.agg (Zd (g0 (b+i))).toArray) rfl rfl hS0 (fun W hW=>ZG rfl rfl (Z8.load hW ZY Yi hq)) ?_
   try simp only[Ja]
   refine JR 19 35 (.agg (Zd (g0 (a+i))).toArray) rfl rfl hS0 (fun W hW=>ZG rfl rfl (Z8.load hW ZY Yi hp)) ?_
   try simp only[Ja]
   refine Z1 (i:=20) (d:=some 36) rfl rfl rfl (by kernel_rfl) (by kernel_rfl) (by kernel_rfl) (fun _ _ _ h=>h) (.inl ⟨by rfl,fun W hW=>by go_simp;rfl⟩) ?_
   try simp only[Ja]
   obtain ⟨W2,st2,s2,e2⟩:=Z8.store hS0 ZY XW Yi hp (g0 (b+i))
   refine Zn (i:=21) (d:=none) (by kernel_rfl) rfl rfl (by rfl) (Yk rfl rfl rfl st2) (fun h=>by cases h) ?_
   try simp only[Ja]
   refine Z1 (i:=22) (d:=some 37) rfl rfl rfl (by kernel_rfl) (by kernel_rfl) (by kernel_rfl) (fun _ _ _ h=>h) (.inl ⟨by rfl,fun W hW=>by go_simp;rfl⟩) ?_
   try simp only[Ja]
   obtain ⟨W3,st3,s3,e3⟩:=Z8.store s2 ZY XW Yi hq (g0 (a+i))
   refine Zn (i:=23) (d:=none) (by kernel_rfl) rfl rfl (by rfl) (Yk rfl rfl rfl st3) (fun h=>by cases h) ?_
   try simp only[Ja]
   refine Zi (by kernel_rfl) ?_ _
   have HSW:Hid (Z8 Zd 28 183 sz W3 blk n (ZZ g0 (a+i) (b+i))∧Ext (·=blk) wr W3):=Lib.hid ⟨by rw[Wa];exact s3,(X0.trans e2).trans e3⟩
   clear hS0 X0 st2 s2 e2 st3 s3 e3
   clear HSL
   go_wp2_with fail
   go_roundg (m - (i+1))
   case measure=>rw[HG.out];omega
   case rel=>exact ⟨i+1,rfl,hlt,by go_num,by rw[←HW.out];exact HSW.out.1,HX.out.trans HSW.out.2⟩
  ·obtain rfl:i=m:=by omega
   go_wp2_with fail
   go_end0
   exact ⟨⟨_,rfl⟩,hW,HX.out⟩
theorem SI (a m b:Nat) (f:Nat→(Z9 × Nat)) (fv:Value) (w:World) (hS:Z8 Zd 28 183 sz w blk n f) (h1:a<m) (h2:m<b) (h3:b≤n) (hcap:n≤cap) (hn:cap≤maxLen) :
  Calls Tryz.prog 148 #[.slice (some ⟨blk,0,none⟩) n cap,.int .i64 a,.int .i64 m,.int .i64 b,fv] w fun e w'=>(∃ v,e=.returned v)∧Z8 Zd 28 183 sz w' blk n (Y4 f a m b)∧Ext (·=blk) w w':=by
 have hn0:=hn
 unfold maxLen at hn
 have HN:=Lib.hid hn0
 clear hn0
 go_enter Tryz.func148,Tryz.ntmps148
 go_wp2_with fail
 go_loopg [10,11] (b - a) (fun g iv jv wx=>∃ (i j:Nat) (f':Nat→(Z9 × Nat)),g=i+j∧0<i∧i≤m - a∧0<j∧j≤b - m∧iv=.int .i64 i∧jv=.int .i64 j∧Z8 Zd 28 183 sz wx blk n f'∧Hid (Y4 f' (m - i) m (m+j)=Y4 f a m b)∧Ext (·=blk) w wx)
 case atStart =>
  refine ⟨m - a,b - m,f,by omega,by omega,Nat.le_refl _,by omega,Nat.le_refl _,by go_num,by go_num,hS,Lib.hid ?_,Ext.refl _ _⟩
  rw[show m - (m - a)=a by omega,show m+(b - m)=b by omega]
 case round =>
  obtain ⟨i,j,f',hg,hi0,hi,hj0,hj,rfl,rfl,hW,hr,hx⟩:=hrel
  have HG:=Lib.hid hg
  clear hg hS
  have HX:=Lib.hid hx
  clear hx
  have ei:((m:Int) - (i:Int))=((m - i:Nat):Int):=by omega
  by_cases hij:i=j
  ·obtain rfl:=hij
   go_wp2_with fail
   (with_reducible refine (Xy (m - i) m i f' _ _ hW (by omega) (by omega) hcap HN.out).mono ?_)
   rintro e w5 ⟨⟨v5,rfl⟩,s5,x5⟩
   go_wp2_with fail
   go_end0
   rw[Z01 f' (by omega),hr.out] at s5
   exact ⟨⟨_,rfl⟩,s5,HX.out.trans x5⟩
  ·by_cases hgt:j<i
   ·have ej:((i:Int) - (j:Int))=((i - j:Nat):Int):=by omega
    go_wp2_with fail
    (with_reducible refine (Xy (m - i) m j f' _ _ hW (by omega) (by omega) hcap HN.out).mono ?_)
    rintro e w5 ⟨⟨v5,rfl⟩,s5,x5⟩
    go_wp2_with fail
    go_roundg (i - j+j)
    case measure=>rw[HG.out];omega
    case rel=>exact ⟨i - j,j,_,rfl,by omega,by omega,hj0,hj,by go_num,rfl,s5,Jh ((Z02 f' (by omega) hgt).trans hr.out),HX.out.trans x5⟩
   ·have ej:((j:Int) - (i:Int))=((j - i:Nat):Int):=by omega
    have ek:((m:Int)+(j:Int) - (i:Int))=((m+j - i:Nat):Int):=by omega
    go_wp2_with fail
    (with_reducible refine (Xy (m - i) (m+j - i) i f' _ _ hW (by omega) (by omega) hcap HN.out).mono ?_)
    rintro e w5 ⟨⟨v5,rfl⟩,s5,x5⟩
    go_wp2_with fail
    go_roundg (i+(j - i))
    case measure=>rw[HG.out];omega
    case rel=>exact ⟨i,j - i,_,rfl,hi0,hi,by omega,by omega,rfl,by go_num,s5,Jh ((QV f' (by omega) (by omega)).trans hr.out),HX.out.trans x5⟩
end
section
variable {cap sz blk n:Nat} {lt:(Z9 × Nat)→(Z9 × Nat)→Prop}
theorem Wp (v:Value) (a:Nat) (fv:Value) (w:World) (hn:a<9223372036854775807) :
  Calls Tryz.prog 142 #[v,.int .i64 a,.int .i64 a,fv] w fun e w'=>(∃ v,e=.returned v)∧w=w':=by
 go_enter Tryz.func142,Tryz.ntmps142
 go_wp2_with fail
 go_loopg [8] 1 (fun g iv wx=>iv=.int .i64 (a+1:Nat)∧w=wx)
 case atStart=>exact ⟨by go_num,rfl⟩
 case round =>
  obtain ⟨rfl,rfl⟩:=hrel
  go_wp2_with fail
  go_end0
  exact ⟨⟨_,rfl⟩,rfl⟩
theorem UT (a b:Nat) (f:Nat→(Z9 × Nat)) (w:World) (hS:Z8 Zd 28 183 sz w blk n f) (R:YW lt Prod.snd (fun x y:(Z9 × Nat)=>ZL x.1 y.1)) (hab:a<b) (hbn:b≤n) (hcap:n≤cap) (hn:cap≤maxLen) (hp:∀ p q,a≤p→p<q→q<b→(f p).2<(f q).2) :
  Calls Tryz.prog 142 #[.slice (some ⟨blk,0,none⟩) n cap,.int .i64 a,.int .i64 b,.func (.func 98) #[] #[]] w fun e w'=>(∃ v,e=.returned v)∧Hid (∃ g,Z8 Zd 28 183 sz w' blk n g∧Zj a b f g∧ZE lt a b g)∧Ext (·=blk) w w':=by
 unfold maxLen at hn
 have HR:=Lib.hid R
 have HP:=Lib.hid hp
 clear R hp
 go_enter Tryz.func142,Tryz.ntmps142
 go_wp2_with fail
 go_loopg [8] (b - (a+1)) (fun g0 iv wx=>∃ (i:Nat) (f1:Nat→(Z9 × Nat)),g0=b - i∧a+1≤i∧i≤b∧iv=.int .i64 i∧Z8 Zd 28 183 sz wx blk n f1∧Hid (Zj a i f f1)∧Hid (ZE lt a i f1)∧Ext (·=blk) w wx)
 case atStart=>exact ⟨a+1,f,by omega,Nat.le_refl _,hab,by go_num,hS,Jh (Zj.refl _ _ _),Jh (fun i j h1 h2 h3=>by omega),Ext.refl _ _⟩
 case round =>
  obtain ⟨i,f1,hg,hi1,hi2,rfl,hW,hpm,hso,hx⟩:=hrel
  have HG:=Lib.hid hg
  clear hg hS
  have HX:=Lib.hid hx
  clear hx
  by_cases hlt:i<b
  ·have hin:i<n:=by omega
   have hst:Hid (X6 lt Prod.snd a i i f1 f1):=Jh (X6.start (by omega) hso.out (fun p h1 h2=>by
    obtain ⟨q,k1,k2,k3⟩:=hpm.out.from h1 h2
    rw[k3,hpm.out.out (.inr (Nat.le_refl i))]
    exact HP.out q i k1 k2 hlt))
   obtain ⟨wo,hwo⟩:∃ wo:World,wo=wr:=⟨_,rfl⟩
   subst hwo
   go_wp2_with fail
   go_loopg [9] i (fun g0 jv wx=>∃ (j:Nat) (f2:Nat→(Z9 × Nat)),g0=j∧a≤j∧j≤i∧jv=.int .i64 j∧Z8 Zd 28 183 sz wx blk n f2∧Hid (X6 lt Prod.snd a i j f1 f2)∧Ext (·=blk) w wx)
   case atStart=>exact ⟨i,f1,rfl,by omega,Nat.le_refl _,rfl,hW,hst,HX.out⟩
   case round =>
    obtain ⟨j,f2,hg,hj1,hj2,rfl,hW,hv,hx⟩:=hrel
    have HG2:=Lib.hid hg
    clear hg hst
    have HX2:=Lib.hid hx
    clear hx
    by_cases haj:a<j
    ·obtain ⟨k,hk⟩:∃ k,k=j - 1:=⟨_,rfl⟩
     have hkj:j=k+1:=by omega
     subst hkj
     clear hk
     have hjn:k+1<n:=by omega
     have hkn:k<n:=by omega
     have hak:a≤k:=by omega
     obtain ⟨x,hx⟩:∃ x,x=f2 (k+1):=⟨_,rfl⟩
     have HRx:=Lib.hid hx
     obtain ⟨y,hy⟩:∃ y,y=f2 k:=⟨_,rfl⟩
     have HRy:=Lib.hid hy
     have gd1:decide (a<k+1)=true:=by rw[decide_eq_true_eq];omega
     have gd2:decide ((a:Int)<(k:Int)+1)=true:=by rw[decide_eq_true_eq];omega
     have ib1:(0:Int)≤(k:Int)+1:=by omega
     have ib2:(k:Int)+1<(n:Int):=by omega
     have ib3:(0:Int)≤(k:Int):=by omega
     have ib4:(k:Int)<(n:Int):=by omega
     have iw1:IntKind.i64.wrap ((k:Int)+1 - 1)=(k:Int):=by rw[show (k:Int)+1 - 1=(k:Int) by omega];exact IntWalk.i64_in _ (by omega)
     have iw3:IntKind.i64.wrap (k:Int)=(k:Int):=IntWalk.i64_in _ (by omega)
     have iw2:((k:Int)+1).toNat=k+1:=by omega
     have HXX:=Lib.hid hx
     have HYY:=Lib.hid hy
     clear hx hy
     go_wp2_with fail
     have iap:(0:Int)≤(k:Int)+1:=by omega
     have ibp:(k:Int)+1<(n:Int):=by omega
     have icp:((k:Int)+1).toNat=k+1:=by omega
     have idp:IntKind.i64.wrap ((k:Int)+1)=(k:Int)+1:=IntWalk.i64_in _ (by omega)
     have iaq:(0:Int)≤(k:Int):=by omega
     have ibq:(k:Int)<(n:Int):=by omega
     have icq:((k:Int)).toNat=k:=by omega
     have idq:IntKind.i64.wrap ((k:Int))=(k:Int):=IntWalk.i64_in _ (by omega)
     have hS0:(fun W=>Z8 Zd 28 183 sz W blk n f2) wr.drew:=hW.drew
     have b00:Below wr.heap.size wr wr.drew:=(Below.refl _ _).drew
     refine wp_region_held_drew (S:=(fun W=>Z8 Zd 28 183 sz W blk n f2)) (by kernel_rfl) hS0 (fun _=>?_)
     generalize wr.drew=W1 at hS0 b00 ⊢
     refine Z7 (i:=0) (d:=some 18) rfl rfl (by kernel_rfl) (by kernel_rfl) (by kernel_rfl) (fun _ _ _ h=>h) (.inl ⟨by rfl,fun W hW=>by go_simp;rfl⟩) hS0 ?_
     try simp only[Ja]
     refine Z7 (i:=1) (d:=some 19) rfl rfl (by kernel_rfl) (by kernel_rfl) (by kernel_rfl) (fun _ _ _ h=>h) (.inl ⟨by rfl,fun W hW=>by go_simp;rfl⟩) hS0 ?_
     try simp only[Ja]
     refine Z7 (i:=2) (d:=some 20) rfl rfl (by kernel_rfl) (by kernel_rfl) (by kernel_rfl) (fun _ _ _ h=>h) (.inl ⟨by rfl,fun W hW=>by go_simp;rfl⟩) hS0 ?_
     try simp only[Ja]
     refine Z7 (i:=3) (d:=some 21) rfl rfl (by kernel_rfl) (by kernel_rfl) (by kernel_rfl) (fun _ _ _ h=>h) (.inl ⟨by rfl,fun W hW=>by go_simp;rfl⟩) hS0 ?_
     try simp only[Ja]
     refine Z7 (i:=4) (d:=some 22) rfl rfl (by kernel_rfl) (by kernel_rfl) (by kernel_rfl) (fun _ _ _ h=>h) (.inl ⟨by rfl,fun W hW=>by go_simp;rfl⟩) hS0 ?_
     try simp only[Ja]
     refine Z7 (i:=5) (d:=some 23) rfl rfl (by kernel_rfl) (by kernel_rfl) (by kernel_rfl) (fun _ _ _ h=>h) (.inl ⟨by rfl,fun W hW=>by go_simp;rfl⟩) hS0 ?_
     try simp only[Ja]
     refine Z7 (i:=6) (d:=some 24) rfl rfl (by kernel_rfl) (by kernel_rfl) (by kernel_rfl) (fun _ _ _ h=>h) (.inl ⟨by rfl,fun W hW=>by go_simp;rfl⟩) hS0 ?_
     try simp only[Ja]
     refine Z7 (i:=7) (d:=some 25) rfl rfl (by kernel_rfl) (by kernel_rfl) (by kernel_rfl) (fun _ _ _ h=>h) (.inl ⟨by rfl,fun W hW=>by go_simp;rfl⟩) hS0 ?_
     try simp only[Ja]
     refine Z7 (i:=8) (d:=some 26) (v:=.agg (Zd x).toArray) rfl rfl (by kernel_rfl) (by kernel_rfl) (by kernel_rfl) (fun _ _ _ h=>h) (.inl ⟨by rfl,fun W hW=>ZG rfl rfl (by rw[HRx.out];exact Z8.load hW ZY Yi hjn)⟩) hS0 ?_
     try simp only[Ja]
     refine Z7 (i:=9) (d:=some 27) rfl rfl (by kernel_rfl) (by kernel_rfl) (by kernel_rfl) (fun _ _ _ h=>h) (.inl ⟨by rfl,fun W hW=>by go_simp;rfl⟩) hS0 ?_
     try simp only[Ja]
     refine Z7 (i:=10) (d:=some 28) rfl rfl (by kernel_rfl) (by kernel_rfl) (by kernel_rfl) (fun _ _ _ h=>h) (.inl ⟨by rfl,fun W hW=>by go_simp;rfl⟩) hS0 ?_
     try simp only[Ja]
     refine Z7 (i:=11) (d:=some 29) rfl rfl (by kernel_rfl) (by kernel_rfl) (by kernel_rfl) (fun _ _ _ h=>h) (.inl ⟨by rfl,fun W hW=>by go_simp;rfl⟩) hS0 ?_
     try simp only[Ja]
     refine Z7 (i:=12) (d:=some 30) rfl rfl (by kernel_rfl) (by kernel_rfl) (by kernel_rfl) (fun _ _ _ h=>h) (.inl ⟨by rfl,fun W hW=>by go_simp;rfl⟩) hS0 ?_
     try simp only[Ja]
     refine Z7 (i:=13) (d:=some 31) (v:=.agg (Zd y).toArray) rfl rfl (by kernel_rfl) (by kernel_rfl) (by kernel_rfl) (fun _ _ _ h=>h) (.inl ⟨by rfl,fun W hW=>ZG rfl rfl (by rw[HRy.out];exact Z8.load hW ZY Yi hkn)⟩) hS0 ?_
     try simp only[Ja]
     refine Wb (i:=14) (d:=some 32) (by kernel_rfl) rfl rfl (by rfl) (by go_simp;first|rfl|exact ⟨rfl,rfl⟩|exact ⟨⟨rfl,rfl⟩,rfl⟩) ?_
     (refine (XD x.1 y.1 _).mono ?_)
     rintro e w5 ⟨rfl,b5⟩
     have hS5:(fun W=>Z8 Zd 28 183 sz W blk n f2) w5:=Z8.below hS0 b5
     replace b5:=b00.trans (b5.mono b00.size)
     refine ⟨_,rfl,hS5,?_⟩
     try simp only[Ja]
     clear hS0 b00
     refine Z7 (i:=15) (d:=some 33) rfl rfl (by kernel_rfl) (by kernel_rfl) (by kernel_rfl) (fun _ _ _ h=>h) (.inl ⟨by rfl,fun W hW=>by go_simp;rfl⟩) hS5 ?_
     try simp only[Ja]
     refine Z7 (i:=16) (d:=some 34) rfl rfl (by kernel_rfl) (by kernel_rfl) (by kernel_rfl) (fun _ _ _ h=>h) (.inl ⟨by rfl,fun W hW=>by go_simp;rfl⟩) hS5 ?_
     try simp only[Ja]
     refine wpAnyH_done (by kernel_rfl) ?_ _
     clear hS5 HRx HRy
     have HS5:=Jh (hW.below b5)
     have HX5:=Jh (HX2.out.then_below b5)
     clear  hW b5
     have hcc:ZL x.1 y.1<0↔lt x y:=by rw[HXX.out,HYY.out];exact HR.out.says _ _ (hv.out.later k hak (by omega) (by omega))
     have HCC:=Lib.hid hcc
     clear hcc
     by_cases hc:ZL x.1 y.1<0
     ·have hd:=hv.out.down hak (by rw[←HXX.out,←HYY.out];exact HCC.out.1 hc)
      have HD:=Lib.hid hd
      clear hd
      have hW:=HS5.out
      have hx:=HXX.out
      have hy:=HYY.out
      clear HXX HYY HCC
      have HSL:=Lib.hid hW
      clear hW hx hy HS5
      have iap:(0:Int)≤(k:Int)+1:=by omega
      have ibp:(k:Int)+1<(n:Int):=by omega
      have icp:((k:Int)+1).toNat=k+1:=by omega
      have idp:IntKind.i64.wrap ((k:Int)+1)=(k:Int)+1:=IntWalk.i64_in _ (by omega)
      have iaq:(0:Int)≤(k:Int):=by omega
      have ibq:(k:Int)<(n:Int):=by omega
      have icq:((k:Int)).toNat=k:=by omega
      have idq:IntKind.i64.wrap ((k:Int))=(k:Int):=IntWalk.i64_in _ (by omega)
      go_wp2_with fail
      refine Zq (fun W=>Z8 Zd 28 183 sz W blk n f2) (fun i=>!(i == 9 || i == 13)) (by kernel_rfl) ?_
      have hS0:Z8 Zd 28 183 sz w5.drew blk n f2:=HSL.out.drew
      have X0:Ext (·=blk) w5 w5.drew:=(Ext.refl _ _).drew
      generalize w5.drew=W1 at hS0 X0 ⊢
      refine Z1 (i:=0) (d:=some 37) rfl rfl rfl (by kernel_rfl) (by kernel_rfl) (by kernel_rfl) (fun _ _ _ h=>h) (.inl ⟨by rfl,fun W hW=>by go_simp;rfl⟩) ?_
      try simp only[Ja]
      refine Z1 (i:=1) (d:=some 38) rfl rfl rfl (by kernel_rfl) (by kernel_rfl) (by kernel_rfl) (fun _ _ _ h=>h) (.inl ⟨by rfl,fun W hW=>by go_simp;rfl⟩) ?_
      try simp only[Ja]
      refine Z1 (i:=2) (d:=some 39) rfl rfl rfl (by kernel_rfl) (by kernel_rfl) (by kernel_rfl) (fun _ _ _ h=>h) (.inl ⟨by rfl,fun W hW=>by go_simp;rfl⟩) ?_
      try simp only[Ja]
      refine Z1 (i:=3) (d:=some 40) rfl rfl rfl (by kernel_rfl) (by kernel_rfl) (by kernel_rfl) (fun _ _ _ h=>h) (.inl ⟨by rfl,fun W hW=>by go_simp;rfl⟩) ?_
      try simp only[Ja]
      refine Z1 (i:=4) (d:=some 41) rfl rfl rfl (by kernel_rfl) (by kernel_rfl) (by kernel_rfl) (fun _ _ _ h=>h) (.inl ⟨by rfl,fun W hW=>by go_simp;rfl⟩) ?_
      try simp only[Ja]
      refine Z1 (i:=5) (d:=some 42) rfl rfl rfl (by kernel_rfl) (by kernel_rfl) (by kernel_rfl) (fun _ _ _ h=>h) (.inl ⟨by rfl,fun W hW=>by go_simp;rfl⟩) ?_
      try simp only[Ja]
      refine Z1 (i:=6) (d:=some 43) rfl rfl rfl (by kernel_rfl) (by kernel_rfl) (by kernel_rfl) (fun _ _ _ h=>h) (.inl ⟨by rfl,fun W hW=>by go_simp;rfl⟩) ?_
      try simp only[Ja]
      refine Z1 (i:=7) (d:=some 44) rfl rfl rfl (by kernel_rfl) (by kernel_rfl) (by kernel_rfl) (fun _ _ _ h=>h) (.inl ⟨by rfl,fun W hW=>by go_simp;rfl⟩) ?_
      try simp only[Ja]
      refine Z1 (i:=8) (d:=some 45) rfl rfl rfl (by kernel_rfl) (by kernel_rfl) (by kernel_rfl) (fun _ _ _ h=>h) (.inl ⟨by rfl,fun W hW=>by go_simp;rfl⟩) ?_
      try simp only[Ja]
      refine Z1 (i:=10) (d:=some 47) rfl rfl rfl (by kernel_rfl) (by kernel_rfl) (by kernel_rfl) (fun _ _ _ h=>h) (.inl ⟨by rfl,fun W hW=>by go_simp;rfl⟩) ?_
      try simp only[Ja]
      refine Z1 (i:=11) (d:=some 48) rfl rfl rfl (by kernel_rfl) (by kernel_rfl) (by kernel_rfl) (fun _ _ _ h=>h) (.inl ⟨by rfl,fun W hW=>by go_simp;rfl⟩) ?_
      try simp only[Ja]
      refine Z1 (i:=12) (d:=some 49) rfl rfl rfl (by kernel_rfl) (by kernel_rfl) (by kernel_rfl) (fun _ _ _ h=>h) (.inl ⟨by rfl,fun W hW=>by go_simp;rfl⟩) ?_
      try simp only[Ja]
      refine JR 9 46 (.agg (Zd (f2 k)).toArray) rfl rfl hS0 (fun W hW=>ZG rfl rfl (Z8.load hW ZY Yi hkn)) ?_
      try simp only[Ja]
      refine JR 13 50 (.agg (Zd (f2 (k+1))).toArray) rfl rfl hS0 (fun W hW=>ZG rfl rfl (Z8.load hW ZY Yi hjn)) ?_
      try simp only[Ja]
      refine Z1 (i:=14) (d:=some 51) rfl rfl rfl (by kernel_rfl) (by kernel_rfl) (by kernel_rfl) (fun _ _ _ h=>h) (.inl ⟨by rfl,fun W hW=>by go_simp;rfl⟩) ?_
      try simp only[Ja]
      obtain ⟨W2,st2,s2,e2⟩:=Z8.store hS0 ZY XW Yi hjn (f2 k)
      refine Zn (i:=15) (d:=none) (by kernel_rfl) rfl rfl (by rfl) (Yk rfl rfl rfl st2) (fun h=>by cases h) ?_
      try simp only[Ja]
      refine Z1 (i:=16) (d:=some 52) rfl rfl rfl (by kernel_rfl) (by kernel_rfl) (by kernel_rfl) (fun _ _ _ h=>h) (.inl ⟨by rfl,fun W hW=>by go_simp;rfl⟩) ?_
      try simp only[Ja]
      obtain ⟨W3,st3,s3,e3⟩:=Z8.store s2 ZY XW Yi hkn (f2 (k+1))
      refine Zn (i:=17) (d:=none) (by kernel_rfl) rfl rfl (by rfl) (Yk rfl rfl rfl st3) (fun h=>by cases h) ?_
      try simp only[Ja]
      refine Zi (by kernel_rfl) ?_ _
      have HSW:Hid (Z8 Zd 28 183 sz W3 blk n (ZZ f2 (k+1) k)∧Ext (·=blk) w5 W3):=Lib.hid ⟨by rw[Wa];exact s3,(X0.trans e2).trans e3⟩
      clear hS0 X0 st2 s2 e2 st3 s3 e3
      clear HSL
      go_wp2_with fail
      go_roundg k
      case measure=>rw[HG2.out];omega
      case rel=>exact ⟨k,_,rfl,hak,by omega,by go_num,HSW.out.1,HD,HX5.out.trans HSW.out.2⟩
     ·have hq:¬ lt (f2 (k+1)) (f2 k):=by rw[←HXX.out,←HYY.out];exact fun h=>hc (HCC.out.2 h)
      have HD:=Jh (hv.out.done HR.out (.inr hq))
      clear HXX HYY HCC hq
      go_wp2_with fail
      go_roundg (b - (i+1))
      case measure=>rw[HG.out];omega
      case rel=>exact ⟨i+1,f2,rfl,by omega,hlt,by go_num,HS5.out,Jh ((hpm.out.mono (Nat.le_refl _) (by omega)).trans hv.out.perm),HD,HX5.out⟩
    ·obtain rfl:j=a:=by omega
     have HD:=Jh (hv.out.done HR.out (.inl rfl))
     go_wp2_with fail
     go_quiet (fail)
     go_wp2_with fail
     go_roundg (b - (i+1))
     case measure=>rw[HG.out];omega
     case rel=>exact ⟨i+1,f2,rfl,by omega,hlt,by go_num,hW.below (below_drewN (Below.refl _ _) _),Jh ((hpm.out.mono (Nat.le_refl _) (by omega)).trans hv.out.perm),HD,HX2.out.then_below (below_drewN (Below.refl _ _) _)⟩
  ·obtain rfl:i=b:=by omega
   go_wp2_with fail
   go_end0
   exact ⟨⟨_,rfl⟩,Lib.hid ⟨f1,hW,hpm.out,hso.out⟩,HX.out⟩
end
section
variable {cap sz blk n:Nat} {lt:(Z9 × Nat)→(Z9 × Nat)→Prop}
theorem Sr (a m b:Nat) (hm:m=a+1) (f:Nat→(Z9 × Nat)) (w:World) (hS:Z8 Zd 28 183 sz w blk n f) (R:YW lt Prod.snd (fun x y:(Z9 × Nat)=>ZL x.1 y.1)) (h:ZM lt Prod.snd a m b f) (hbn:b≤n) (hcap:n≤cap) (hn:cap≤maxLen) (hN:n≤1000000) :
  Calls Tryz.prog 143 #[.slice (some ⟨blk,0,none⟩) n cap,.int .i64 a,.int .i64 m,.int .i64 b,.func (.func 98) #[] #[]] w fun e w'=>(∃ v,e=.returned v)∧Hid (∃ g,Z8 Zd 28 183 sz w' blk n g∧Zj a b f g∧ZE lt a b g)∧Ext (·=blk) w w':=by
 have hmb:=h.mb
 have t1:((m:Int) - (a:Int) == 1)=true:=by rw[beq_iff_eq];omega
 have HE:=Lib.hid hm
 have ham:a<m:=by omega
 clear hm
 unfold maxLen at hn
 have HR:=Lib.hid R
 have HM:=Lib.hid h
 clear R h
 go_enter Tryz.func143,Tryz.ntmps143
 go_wp2_with fail
 go_loopg [10,11] (b - m) (fun g0 iv jv wx=>∃ i j:Nat,g0=j - i∧m≤i∧i≤j∧j≤b∧iv=.int .i64 i∧jv=.int .i64 j∧Z8 Zd 28 183 sz wx blk n f∧Hid (i=m∨lt (f (i - 1)) (f a))∧Hid (j=b∨¬ lt (f j) (f a))∧Ext (·=blk) w wx)
 case atStart=>exact ⟨m,b,rfl,Nat.le_refl _,by omega,Nat.le_refl _,rfl,rfl,hS,Jh (.inl rfl),Jh (.inl rfl),Ext.refl _ _⟩
 case round =>
  obtain ⟨i,j,hg,hi,hij,hj,rfl,rfl,hW,q1,q2,hx⟩:=hrel
  have HG:=Lib.hid hg
  clear hg hS
  have HX:=Lib.hid hx
  clear hx
  by_cases hlt:i<j
  ·skip
   obtain ⟨h,hh⟩:∃ h:Nat,h=(i+j) / 2:=⟨_,rfl⟩
   have hhi:i≤h∧h<j:=by omega
   have hhz:((i:Int)+(j:Int)) / 2=(h:Int):=by omega
   have hhn:h<n:=by omega
   have han:a<n:=by omega
   have b0h:(0:Int)≤(h:Int):=by omega
   have b1h:(h:Int)<(n:Int):=by omega
   have b0a:(0:Int)≤(a:Int):=by omega
   have b1a:(a:Int)<(n:Int):=by omega
   obtain ⟨x,hx⟩:∃ x,x=f h:=⟨_,rfl⟩
   have HRx:=Lib.hid hx
   obtain ⟨y,hy⟩:∃ y,y=f a:=⟨_,rfl⟩
   have HRy:=Lib.hid hy
   have hcc:ZL x.1 y.1<0↔lt (f h) (f a):=by rw[hx,hy];exact HR.out.says _ _ (HM.out.apart a h (by omega) (by omega) (by omega) (by omega))
   have HCC:=Lib.hid hcc
   clear hcc hx hy hh
   go_wp2_with fail
   clear hhz
   have iap:(0:Int)≤(h:Int):=by omega
   have ibp:(h:Int)<(n:Int):=by omega
   have icp:((h:Int)).toNat=h:=by omega
   have idp:IntKind.i64.wrap ((h:Int))=(h:Int):=IntWalk.i64_in _ (by omega)
   have iaq:(0:Int)≤(a:Int):=by omega
   have ibq:(a:Int)<(n:Int):=by omega
   have icq:((a:Int)).toNat=a:=by omega
   have idq:IntKind.i64.wrap ((a:Int))=(a:Int):=IntWalk.i64_in _ (by omega)
   have hS0:(fun W=>Z8 Zd 28 183 sz W blk n f) wr.drew:=hW.drew
   have b00:Below wr.heap.size wr wr.drew:=(Below.refl _ _).drew
   refine wp_region_held_drew (S:=(fun W=>Z8 Zd 28 183 sz W blk n f)) (by kernel_rfl) hS0 (fun _=>?_)
   generalize wr.drew=W1 at hS0 b00 ⊢
   refine Z7 (i:=0) (d:=some 40) rfl rfl (by kernel_rfl) (by kernel_rfl) (by kernel_rfl) (fun _ _ _ h=>h) (.inl ⟨by rfl,fun W hW=>by go_simp;rfl⟩) hS0 ?_
   try simp only[Ja]
   refine Z7 (i:=1) (d:=some 41) rfl rfl (by kernel_rfl) (by kernel_rfl) (by kernel_rfl) (fun _ _ _ h=>h) (.inl ⟨by rfl,fun W hW=>by go_simp;rfl⟩) hS0 ?_
   try simp only[Ja]
   refine Z7 (i:=2) (d:=some 42) rfl rfl (by kernel_rfl) (by kernel_rfl) (by kernel_rfl) (fun _ _ _ h=>h) (.inl ⟨by rfl,fun W hW=>by go_simp;rfl⟩) hS0 ?_
   try simp only[Ja]
   refine Z7 (i:=3) (d:=some 43) rfl rfl (by kernel_rfl) (by kernel_rfl) (by kernel_rfl) (fun _ _ _ h=>h) (.inl ⟨by rfl,fun W hW=>by go_simp;rfl⟩) hS0 ?_
   try simp only[Ja]
   refine Z7 (i:=4) (d:=some 44) (v:=.agg (Zd x).toArray) rfl rfl (by kernel_rfl) (by kernel_rfl) (by kernel_rfl) (fun _ _ _ h=>h) (.inl ⟨by rfl,fun W hW=>ZG rfl rfl (by rw[HRx.out];exact Z8.load hW ZY Yi hhn)⟩) hS0 ?_
   try simp only[Ja]
   refine Z7 (i:=5) (d:=some 45) rfl rfl (by kernel_rfl) (by kernel_rfl) (by kernel_rfl) (fun _ _ _ h=>h) (.inl ⟨by rfl,fun W hW=>by go_simp;rfl⟩) hS0 ?_
   try simp only[Ja]
   refine Z7 (i:=6) (d:=some 46) rfl rfl (by kernel_rfl) (by kernel_rfl) (by kernel_rfl) (fun _ _ _ h=>h) (.inl ⟨by rfl,fun W hW=>by go_simp;rfl⟩) hS0 ?_
   try simp only[Ja]
   refine Z7 (i:=7) (d:=some 47) rfl rfl (by kernel_rfl) (by kernel_rfl) (by kernel_rfl) (fun _ _ _ h=>h) (.inl ⟨by rfl,fun W hW=>by go_simp;rfl⟩) hS0 ?_
   try simp only[Ja]
   refine Z7 (i:=8) (d:=some 48) (v:=.agg (Zd y).toArray) rfl rfl (by kernel_rfl) (by kernel_rfl) (by kernel_rfl) (fun _ _ _ h=>h) (.inl ⟨by rfl,fun W hW=>ZG rfl rfl (by rw[HRy.out];exact Z8.load hW ZY Yi han)⟩) hS0 ?_
   try simp only[Ja]
   refine Wb (i:=9) (d:=some 49) (by kernel_rfl) rfl rfl (by rfl) (by go_simp;first|rfl|exact ⟨rfl,rfl⟩|exact ⟨⟨rfl,rfl⟩,rfl⟩) ?_
   (refine (XD x.1 y.1 _).mono ?_)
   rintro e w5 ⟨rfl,b5⟩
   have hS5:(fun W=>Z8 Zd 28 183 sz W blk n f) w5:=Z8.below hS0 b5
   replace b5:=b00.trans (b5.mono b00.size)
   refine ⟨_,rfl,hS5,?_⟩
   try simp only[Ja]
   clear hS0 b00
   refine Z7 (i:=10) (d:=some 50) rfl rfl (by kernel_rfl) (by kernel_rfl) (by kernel_rfl) (fun _ _ _ h=>h) (.inl ⟨by rfl,fun W hW=>by go_simp;rfl⟩) hS5 ?_
   try simp only[Ja]
   refine wpAnyH_done (by kernel_rfl) ?_ _
   clear hS5 HRx HRy
   have HS5:=Jh (hW.below b5)
   have HX5:=Jh (HX.out.then_below b5)
   clear  hW b5
   by_cases hc:ZL x.1 y.1<0
   ·have hcb:decide (ZL x.1 y.1<0)=true:=decide_eq_true hc
    go_wp2_with fail
    go_roundg (j - (h+1))
    case measure=>rw[HG.out];omega
    case rel=>exact ⟨h+1,j,rfl,by omega,by omega,hj,by go_num,rfl,HS5.out,Jh (.inr (HCC.out.1 hc)),q2,HX5.out⟩
   ·have hcb:decide (ZL x.1 y.1<0)=false:=decide_eq_false hc
    go_wp2_with fail
    go_roundg (h - i)
    case measure=>rw[HG.out];omega
    case rel=>exact ⟨i,h,rfl,by omega,by omega,by omega,rfl,rfl,HS5.out,q1,Jh (.inr (fun t=>by have:=HCC.out.2 t;omega)),HX5.out⟩
  ·obtain rfl:i=j:=by omega
   obtain ⟨k0,rfl⟩:∃ k0,i=k0+1:=⟨i - 1,by omega⟩
   have HD:=Jh (Qf HR.out (by rw[←HE.out];exact HM.out) (by rw[←HE.out];exact hi) hj (by rw[←HE.out];exact q1.out) q2.out)
   clear q1 q2 hlt
   obtain ⟨wo,hwo⟩:∃ wo:World,wo=wr:=⟨_,rfl⟩
   subst hwo
   go_wp2_with fail
   go_loopg [13] (k0 - a) (fun g0 kv wx=>∃ k:Nat,g0=k0 - k∧a≤k∧k≤k0∧kv=.int .i64 k∧Z8 Zd 28 183 sz wx blk n (Yj f a k)∧Ext (·=blk) w wx)
   case atStart=>exact ⟨a,rfl,Nat.le_refl _,by omega,rfl,by rw[Sy];exact hW,HX.out⟩
   case round =>
    obtain ⟨k,hg,hk1,hk2,rfl,hW,hx⟩:=hrel
    have HG2:=Lib.hid hg
    clear hg
    have HX2:=Lib.hid hx
    clear hx
    by_cases hlt:k<k0
    ·have hp:k<n:=by omega
     have hq:k+1<n:=by omega
     have HW:Hid (ZZ (Yj f a k) k (k+1)=Yj f a (k+1)):=SH f a k hk1
     generalize Yj f a k=g0 at *
     have HSL:=Lib.hid hW
     clear hW
     have iap:(0:Int)≤(k:Int):=by omega
     have ibp:(k:Int)<(n:Int):=by omega
     have icp:((k:Int)).toNat=k:=by omega
     have idp:IntKind.i64.wrap ((k:Int))=(k:Int):=IntWalk.i64_in _ (by omega)
     have iaq:(0:Int)≤(k:Int)+1:=by omega
     have ibq:(k:Int)+1<(n:Int):=by omega
     have icq:((k:Int)+1).toNat=k+1:=by omega
     have idq:IntKind.i64.wrap ((k:Int)+1)=(k:Int)+1:=IntWalk.i64_in _ (by omega)
     go_wp2_with fail
     refine Zq (fun W=>Z8 Zd 28 183 sz W blk n g0) (fun i=>!(i == 9 || i == 13)) (by kernel_rfl) ?_
     have hS0:Z8 Zd 28 183 sz wr.drew blk n g0:=HSL.out.drew
     have X0:Ext (·=blk) wr wr.drew:=(Ext.refl _ _).drew
     generalize wr.drew=W1 at hS0 X0 ⊢
     refine Z1 (i:=0) (d:=some 61) rfl rfl rfl (by kernel_rfl) (by kernel_rfl) (by kernel_rfl) (fun _ _ _ h=>h) (.inl ⟨by rfl,fun W hW=>by go_simp;rfl⟩) ?_
     try simp only[Ja]
     refine Z1 (i:=1) (d:=some 62) rfl rfl rfl (by kernel_rfl) (by kernel_rfl) (by kernel_rfl) (fun _ _ _ h=>h) (.inl ⟨by rfl,fun W hW=>by go_simp;rfl⟩) ?_
     try simp only[Ja]
     refine Z1 (i:=2) (d:=some 63) rfl rfl rfl (by kernel_rfl) (by kernel_rfl) (by kernel_rfl) (fun _ _ _ h=>h) (.inl ⟨by rfl,fun W hW=>by go_simp;rfl⟩) ?_
     try simp only[Ja]
     refine Z1 (i:=3) (d:=some 64) rfl rfl rfl (by kernel_rfl) (by kernel_rfl) (by kernel_rfl) (fun _ _ _ h=>h) (.inl ⟨by rfl,fun W hW=>by go_simp;rfl⟩) ?_
     try simp only[Ja]
     refine Z1 (i:=4) (d:=some 65) rfl rfl rfl (by kernel_rfl) (by kernel_rfl) (by kernel_rfl) (fun _ _ _ h=>h) (.inl ⟨by rfl,fun W hW=>by go_simp;rfl⟩) ?_
     try simp only[Ja]
     refine Z1 (i:=5) (d:=some 66) rfl rfl rfl (by kernel_rfl) (by kernel_rfl) (by kernel_rfl) (fun _ _ _ h=>h) (.inl ⟨by rfl,fun W hW=>by go_simp;rfl⟩) ?_
     try simp only[Ja]
     refine Z1 (i:=6) (d:=some 67) rfl rfl rfl (by kernel_rfl) (by kernel_rfl) (by kernel_rfl) (fun _ _ _ h=>h) (.inl ⟨by rfl,fun W hW=>by go_simp;rfl⟩) ?_
     try simp only[Ja]
     refine Z1 (i:=7) (d:=some 68) rfl rfl rfl (by kernel_rfl) (by kernel_rfl) (by kernel_rfl) (fun _ _ _ h=>h) (.inl ⟨by rfl,fun W hW=>by go_simp;rfl⟩) ?_
     try simp only[Ja]
     refine Z1 (i:=8) (d:=some 69) rfl rfl rfl (by kernel_rfl) (by kernel_rfl) (by kernel_rfl) (fun _ _ _ h=>h) (.inl ⟨by rfl,fun W hW=>by go_simp;rfl⟩) ?_
     try simp only[Ja]
     refine Z1 (i:=10) (d:=some 71) rfl rfl rfl (by kernel_rfl) (by kernel_rfl) (by kernel_rfl) (fun _ _ _ h=>h) (.inl ⟨by rfl,fun W hW=>by go_simp;rfl⟩) ?_
     try simp only[Ja]
     refine Z1 (i:=11) (d:=some 72) rfl rfl rfl (by kernel_rfl) (by kernel_rfl) (by kernel_rfl) (fun _ _ _ h=>h) (.inl ⟨by rfl,fun W hW=>by go_simp;rfl⟩) ?_
     try simp only[Ja]
     refine Z1 (i:=12) (d:=some 73) rfl rfl rfl (by kernel_rfl) (by kernel_rfl) (by kernel_rfl) (fun _ _ _ h=>h) (.inl ⟨by rfl,fun W hW=>by go_simp;rfl⟩) ?_
     try simp only[Ja]
     refine JR 9 70 (.agg (Zd (g0 (k+1))).toArray) rfl rfl hS0 (fun W hW=>ZG rfl rfl (Z8.load hW ZY Yi hq)) ?_
     try simp only[Ja]
     refine JR 13 74 (.agg (Zd (g0 k)).toArray) rfl rfl hS0 (fun W hW=>ZG rfl rfl (Z8.load hW ZY Yi hp)) ?_
     try simp only[Ja]
     refine Z1 (i:=14) (d:=some 75) rfl rfl rfl (by kernel_rfl) (by kernel_rfl) (by kernel_rfl) (fun _ _ _ h=>h) (.inl ⟨by rfl,fun W hW=>by go_simp;rfl⟩) ?_
     try simp only[Ja]
     obtain ⟨W2,st2,s2,e2⟩:=Z8.store hS0 ZY XW Yi hp (g0 (k+1))
     refine Zn (i:=15) (d:=none) (by kernel_rfl) rfl rfl (by rfl) (Yk rfl rfl rfl st2) (fun h=>by cases h) ?_
     try simp only[Ja]
     refine Z1 (i:=16) (d:=some 76) rfl rfl rfl (by kernel_rfl) (by kernel_rfl) (by kernel_rfl) (fun _ _ _ h=>h) (.inl ⟨by rfl,fun W hW=>by go_simp;rfl⟩) ?_
     try simp only[Ja]
     obtain ⟨W3,st3,s3,e3⟩:=Z8.store s2 ZY XW Yi hq (g0 k)
     refine Zn (i:=17) (d:=none) (by kernel_rfl) rfl rfl (by rfl) (Yk rfl rfl rfl st3) (fun h=>by cases h) ?_
     try simp only[Ja]
     refine Zi (by kernel_rfl) ?_ _
     have HSW:Hid (Z8 Zd 28 183 sz W3 blk n (ZZ g0 k (k+1))∧Ext (·=blk) wr W3):=Lib.hid ⟨by rw[Wa];exact s3,(X0.trans e2).trans e3⟩
     clear hS0 X0 st2 s2 e2 st3 s3 e3
     clear HSL
     go_wp2_with fail
     go_roundg (k0 - (k+1))
     case measure=>rw[HG2.out];omega
     case rel=>exact ⟨k+1,rfl,by omega,by omega,by go_num,by rw[←HW.out];exact HSW.out.1,HX2.out.trans HSW.out.2⟩
    ·obtain rfl:k=k0:=by omega
     go_wp2_with fail
     refine bodyPost_ret (v:=.tuple #[]) (results_none rfl _ _ _) rfl ?_
     have hd:=HD.out
     rw[show k+1 - 1=k by omega] at hd
     exact ⟨⟨_,rfl⟩,Lib.hid ⟨_,hW,hd.2,hd.1⟩,HX2.out⟩
theorem SJ (a m b:Nat) (hb:b=m+1) (f:Nat→(Z9 × Nat)) (w:World) (hS:Z8 Zd 28 183 sz w blk n f) (R:YW lt Prod.snd (fun x y:(Z9 × Nat)=>ZL x.1 y.1)) (h:ZM lt Prod.snd a m b f) (h1:a+1<m) (hbn:b≤n) (hcap:n≤cap) (hn:cap≤maxLen) (hN:n≤1000000) :
  Calls Tryz.prog 143 #[.slice (some ⟨blk,0,none⟩) n cap,.int .i64 a,.int .i64 m,.int .i64 b,.func (.func 98) #[] #[]] w fun e w'=>(∃ v,e=.returned v)∧Hid (∃ g,Z8 Zd 28 183 sz w' blk n g∧Zj a b f g∧ZE lt a b g)∧Ext (·=blk) w w':=by
 unfold maxLen at hn
 have HR:=Lib.hid R
 have HM:=Lib.hid h
 clear R h
 have t1:((m:Int) - (a:Int) == 1)=false:=by rw[beq_eq_false_iff_ne];omega
 have t2:((b:Int) - (m:Int) == 1)=true:=by rw[beq_iff_eq];omega
 have HE:=Lib.hid hb
 have hmb:m<b:=by omega
 have ham:a<m:=by omega
 clear hb
 go_enter Tryz.func143,Tryz.ntmps143
 go_wp2_with fail
 go_loopg [14,15] (m - a) (fun g0 iv jv wx=>∃ i j:Nat,g0=j - i∧a≤i∧i≤j∧j≤m∧iv=.int .i64 i∧jv=.int .i64 j∧Z8 Zd 28 183 sz wx blk n f∧Hid (i=a∨¬ lt (f m) (f (i - 1)))∧Hid (j=m∨lt (f m) (f j))∧Ext (·=blk) w wx)
 case atStart=>exact ⟨a,m,rfl,Nat.le_refl _,by omega,Nat.le_refl _,rfl,rfl,hS,Jh (.inl rfl),Jh (.inl rfl),Ext.refl _ _⟩
 case round =>
  obtain ⟨i,j,hg,hi,hij,hj,rfl,rfl,hW,q1,q2,hx⟩:=hrel
  have HG:=Lib.hid hg
  clear hg hS
  have HX:=Lib.hid hx
  clear hx
  by_cases hlt:i<j
  ·skip
   obtain ⟨h,hh⟩:∃ h:Nat,h=(i+j) / 2:=⟨_,rfl⟩
   have hhi:i≤h∧h<j:=by omega
   have hhz:((i:Int)+(j:Int)) / 2=(h:Int):=by omega
   have hhn:h<n:=by omega
   have hmn:m<n:=by omega
   have b0h:(0:Int)≤(h:Int):=by omega
   have b1h:(h:Int)<(n:Int):=by omega
   have b0m:(0:Int)≤(m:Int):=by omega
   have b1m:(m:Int)<(n:Int):=by omega
   obtain ⟨x,hx⟩:∃ x,x=f m:=⟨_,rfl⟩
   have HRx:=Lib.hid hx
   obtain ⟨y,hy⟩:∃ y,y=f h:=⟨_,rfl⟩
   have HRy:=Lib.hid hy
   have hcc:ZL x.1 y.1<0↔lt (f m) (f h):=by rw[hx,hy];exact HR.out.says _ _ (HM.out.apart h m (by omega) (by omega) (by omega) (by omega))
   have HCC:=Lib.hid hcc
   clear hcc hx hy hh
   go_wp2_with fail
   clear hhz
   have iap:(0:Int)≤(m:Int):=by omega
   have ibp:(m:Int)<(n:Int):=by omega
   have icp:((m:Int)).toNat=m:=by omega
   have idp:IntKind.i64.wrap ((m:Int))=(m:Int):=IntWalk.i64_in _ (by omega)
   have iaq:(0:Int)≤(h:Int):=by omega
   have ibq:(h:Int)<(n:Int):=by omega
   have icq:((h:Int)).toNat=h:=by omega
   have idq:IntKind.i64.wrap ((h:Int))=(h:Int):=IntWalk.i64_in _ (by omega)
   have hS0:(fun W=>Z8 Zd 28 183 sz W blk n f) wr.drew:=hW.drew
   have b00:Below wr.heap.size wr wr.drew:=(Below.refl _ _).drew
   refine wp_region_held_drew (S:=(fun W=>Z8 Zd 28 183 sz W blk n f)) (by kernel_rfl) hS0 (fun _=>?_)
   generalize wr.drew=W1 at hS0 b00 ⊢
   refine Z7 (i:=0) (d:=some 92) rfl rfl (by kernel_rfl) (by kernel_rfl) (by kernel_rfl) (fun _ _ _ h=>h) (.inl ⟨by rfl,fun W hW=>by go_simp;rfl⟩) hS0 ?_
   try simp only[Ja]
   refine Z7 (i:=1) (d:=some 93) rfl rfl (by kernel_rfl) (by kernel_rfl) (by kernel_rfl) (fun _ _ _ h=>h) (.inl ⟨by rfl,fun W hW=>by go_simp;rfl⟩) hS0 ?_
   try simp only[Ja]
   refine Z7 (i:=2) (d:=some 94) rfl rfl (by kernel_rfl) (by kernel_rfl) (by kernel_rfl) (fun _ _ _ h=>h) (.inl ⟨by rfl,fun W hW=>by go_simp;rfl⟩) hS0 ?_
   try simp only[Ja]
   refine Z7 (i:=3) (d:=some 95) rfl rfl (by kernel_rfl) (by kernel_rfl) (by kernel_rfl) (fun _ _ _ h=>h) (.inl ⟨by rfl,fun W hW=>by go_simp;rfl⟩) hS0 ?_
   try simp only[Ja]
   refine Z7 (i:=4) (d:=some 96) (v:=.agg (Zd x).toArray) rfl rfl (by kernel_rfl) (by kernel_rfl) (by kernel_rfl) (fun _ _ _ h=>h) (.inl ⟨by rfl,fun W hW=>ZG rfl rfl (by rw[HRx.out];exact Z8.load hW ZY Yi hmn)⟩) hS0 ?_
   try simp only[Ja]
   refine Z7 (i:=5) (d:=some 97) rfl rfl (by kernel_rfl) (by kernel_rfl) (by kernel_rfl) (fun _ _ _ h=>h) (.inl ⟨by rfl,fun W hW=>by go_simp;rfl⟩) hS0 ?_
   try simp only[Ja]
   refine Z7 (i:=6) (d:=some 98) rfl rfl (by kernel_rfl) (by kernel_rfl) (by kernel_rfl) (fun _ _ _ h=>h) (.inl ⟨by rfl,fun W hW=>by go_simp;rfl⟩) hS0 ?_
   try simp only[Ja]
   refine Z7 (i:=7) (d:=some 99) rfl rfl (by kernel_rfl) (by kernel_rfl) (by kernel_rfl) (fun _ _ _ h=>h) (.inl ⟨by rfl,fun W hW=>by go_simp;rfl⟩) hS0 ?_
   try simp only[Ja]
   refine Z7 (i:=8) (d:=some 100) (v:=.agg (Zd y).toArray) rfl rfl (by kernel_rfl) (by kernel_rfl) (by kernel_rfl) (fun _ _ _ h=>h) (.inl ⟨by rfl,fun W hW=>ZG rfl rfl (by rw[HRy.out];exact Z8.load hW ZY Yi hhn)⟩) hS0 ?_
   try simp only[Ja]
   refine Wb (i:=9) (d:=some 101) (by kernel_rfl) rfl rfl (by rfl) (by go_simp;first|rfl|exact ⟨rfl,rfl⟩|exact ⟨⟨rfl,rfl⟩,rfl⟩) ?_
   (refine (XD x.1 y.1 _).mono ?_)
   rintro e w5 ⟨rfl,b5⟩
   have hS5:(fun W=>Z8 Zd 28 183 sz W blk n f) w5:=Z8.below hS0 b5
   replace b5:=b00.trans (b5.mono b00.size)
   refine ⟨_,rfl,hS5,?_⟩
   try simp only[Ja]
   clear hS0 b00
   refine Z7 (i:=10) (d:=some 102) rfl rfl (by kernel_rfl) (by kernel_rfl) (by kernel_rfl) (fun _ _ _ h=>h) (.inl ⟨by rfl,fun W hW=>by go_simp;rfl⟩) hS5 ?_
   try simp only[Ja]
   refine Z7 (i:=11) (d:=some 103) rfl rfl (by kernel_rfl) (by kernel_rfl) (by kernel_rfl) (fun _ _ _ h=>h) (.inl ⟨by rfl,fun W hW=>by go_simp;rfl⟩) hS5 ?_
   try simp only[Ja]
   refine wpAnyH_done (by kernel_rfl) ?_ _
   clear hS5 HRx HRy
   have HS5:=Jh (hW.below b5)
   have HX5:=Jh (HX.out.then_below b5)
   clear  hW b5
   by_cases hc:ZL x.1 y.1<0
   ·have hcb:decide (ZL x.1 y.1<0)=true:=decide_eq_true hc
    simp only[hcb,Bool.not_true]
    go_wp2_with fail
    go_roundg (h - i)
    case measure=>rw[HG.out];omega
    case rel=>exact ⟨i,h,rfl,by omega,by omega,by omega,rfl,rfl,HS5.out,q1,Jh (.inr (HCC.out.1 hc)),HX5.out⟩
   ·have hcb:decide (ZL x.1 y.1<0)=false:=decide_eq_false hc
    simp only[hcb,Bool.not_false]
    go_wp2_with fail
    go_roundg (j - (h+1))
    case measure=>rw[HG.out];omega
    case rel=>exact ⟨h+1,j,rfl,by omega,by omega,hj,by go_num,rfl,HS5.out,Jh (.inr (fun t=>by have:=HCC.out.2 t;omega)),q2,HX5.out⟩
  ·obtain rfl:i=j:=by omega
   have HD:=Jh (RB HR.out (by rw[←HE.out];exact HM.out) hi hj q1.out q2.out)
   clear q1 q2 hlt
   obtain ⟨wo,hwo⟩:∃ wo:World,wo=wr:=⟨_,rfl⟩
   subst hwo
   go_wp2_with fail
   go_loopg [17] (m - i) (fun g0 kv wx=>∃ k:Nat,g0=k - i∧i≤k∧k≤m∧kv=.int .i64 k∧Z8 Zd 28 183 sz wx blk n (Yl f m k)∧Ext (·=blk) w wx)
   case atStart=>exact ⟨m,rfl,by omega,Nat.le_refl _,rfl,by rw[SQ];exact hW,HX.out⟩
   case round =>
    obtain ⟨k,hg,hk1,hk2,rfl,hW,hx⟩:=hrel
    have HG2:=Lib.hid hg
    clear hg
    have HX2:=Lib.hid hx
    clear hx
    by_cases hlt:i<k
    ·obtain ⟨q,rfl⟩:∃ q,k=q+1:=⟨k - 1,by omega⟩
     have hp:q+1<n:=by omega
     have hq:q<n:=by omega
     have iw1:IntKind.i64.wrap ((q:Int)+1 - 1)=(q:Int):=by rw[show (q:Int)+1 - 1=(q:Int) by omega];exact IntWalk.i64_in _ (by omega)
     have iw3:IntKind.i64.wrap (q:Int)=(q:Int):=IntWalk.i64_in _ (by omega)
     have HW:Hid (ZZ (Yl f m (q+1)) (q+1) q=Yl f m q):=SE f m q (by omega)
     generalize Yl f m (q+1)=g0 at *
     have HSL:=Lib.hid hW
     clear hW
     have iap:(0:Int)≤(q:Int)+1:=by omega
     have ibp:(q:Int)+1<(n:Int):=by omega
     have icp:((q:Int)+1).toNat=q+1:=by omega
     have idp:IntKind.i64.wrap ((q:Int)+1)=(q:Int)+1:=IntWalk.i64_in _ (by omega)
     have iaq:(0:Int)≤(q:Int):=by omega
     have ibq:(q:Int)<(n:Int):=by omega
     have icq:((q:Int)).toNat=q:=by omega
     have idq:IntKind.i64.wrap ((q:Int))=(q:Int):=IntWalk.i64_in _ (by omega)
     go_wp2_with fail
     refine Zq (fun W=>Z8 Zd 28 183 sz W blk n g0) (fun i=>!(i == 9 || i == 13)) (by kernel_rfl) ?_
     have hS0:Z8 Zd 28 183 sz wr.drew blk n g0:=HSL.out.drew
     have X0:Ext (·=blk) wr wr.drew:=(Ext.refl _ _).drew
     generalize wr.drew=W1 at hS0 X0 ⊢
     refine Z1 (i:=0) (d:=some 113) rfl rfl rfl (by kernel_rfl) (by kernel_rfl) (by kernel_rfl) (fun _ _ _ h=>h) (.inl ⟨by rfl,fun W hW=>by go_simp;rfl⟩) ?_
     try simp only[Ja]
     refine Z1 (i:=1) (d:=some 114) rfl rfl rfl (by kernel_rfl) (by kernel_rfl) (by kernel_rfl) (fun _ _ _ h=>h) (.inl ⟨by rfl,fun W hW=>by go_simp;rfl⟩) ?_
     try simp only[Ja]
     refine Z1 (i:=2) (d:=some 115) rfl rfl rfl (by kernel_rfl) (by kernel_rfl) (by kernel_rfl) (fun _ _ _ h=>h) (.inl ⟨by rfl,fun W hW=>by go_simp;rfl⟩) ?_
     try simp only[Ja]
     refine Z1 (i:=3) (d:=some 116) rfl rfl rfl (by kernel_rfl) (by kernel_rfl) (by kernel_rfl) (fun _ _ _ h=>h) (.inl ⟨by rfl,fun W hW=>by go_simp;rfl⟩) ?_
     try simp only[Ja]
     refine Z1 (i:=4) (d:=some 117) rfl rfl rfl (by kernel_rfl) (by kernel_rfl) (by kernel_rfl) (fun _ _ _ h=>h) (.inl ⟨by rfl,fun W hW=>by go_simp;rfl⟩) ?_
     try simp only[Ja]
     refine Z1 (i:=5) (d:=some 118) rfl rfl rfl (by kernel_rfl) (by kernel_rfl) (by kernel_rfl) (fun _ _ _ h=>h) (.inl ⟨by rfl,fun W hW=>by go_simp;rfl⟩) ?_
     try simp only[Ja]
     refine Z1 (i:=6) (d:=some 119) rfl rfl rfl (by kernel_rfl) (by kernel_rfl) (by kernel_rfl) (fun _ _ _ h=>h) (.inl ⟨by rfl,fun W hW=>by go_simp;rfl⟩) ?_
     try simp only[Ja]
     refine Z1 (i:=7) (d:=some 120) rfl rfl rfl (by kernel_rfl) (by kernel_rfl) (by kernel_rfl) (fun _ _ _ h=>h) (.inl ⟨by rfl,fun W hW=>by go_simp;rfl⟩) ?_
     try simp only[Ja]
     refine Z1 (i:=8) (d:=some 121) rfl rfl rfl (by kernel_rfl) (by kernel_rfl) (by kernel_rfl) (fun _ _ _ h=>h) (.inl ⟨by rfl,fun W hW=>by go_simp;rfl⟩) ?_
     try simp only[Ja]
     refine Z1 (i:=10) (d:=some 123) rfl rfl rfl (by kernel_rfl) (by kernel_rfl) (by kernel_rfl) (fun _ _ _ h=>h) (.inl ⟨by rfl,fun W hW=>by go_simp;rfl⟩) ?_
     try simp only[Ja]
     refine Z1 (i:=11) (d:=some 124) rfl rfl rfl (by kernel_rfl) (by kernel_rfl) (by kernel_rfl) (fun _ _ _ h=>h) (.inl ⟨by rfl,fun W hW=>by go_simp;rfl⟩) ?_
     try simp only[Ja]
     refine Z1 (i:=12) (d:=some 125) rfl rfl rfl (by kernel_rfl) (by kernel_rfl) (by kernel_rfl) (fun _ _ _ h=>h) (.inl ⟨by rfl,fun W hW=>by go_simp;rfl⟩) ?_
     try simp only[Ja]
     refine JR 9 122 (.agg (Zd (g0 q)).toArray) rfl rfl hS0 (fun W hW=>ZG rfl rfl (Z8.load hW ZY Yi hq)) ?_
     try simp only[Ja]
     refine JR 13 126 (.agg (Zd (g0 (q+1))).toArray) rfl rfl hS0 (fun W hW=>ZG rfl rfl (Z8.load hW ZY Yi hp)) ?_
     try simp only[Ja]
     refine Z1 (i:=14) (d:=some 127) rfl rfl rfl (by kernel_rfl) (by kernel_rfl) (by kernel_rfl) (fun _ _ _ h=>h) (.inl ⟨by rfl,fun W hW=>by go_simp;rfl⟩) ?_
     try simp only[Ja]
     obtain ⟨W2,st2,s2,e2⟩:=Z8.store hS0 ZY XW Yi hp (g0 q)
     refine Zn (i:=15) (d:=none) (by kernel_rfl) rfl rfl (by rfl) (Yk rfl rfl rfl st2) (fun h=>by cases h) ?_
     try simp only[Ja]
     refine Z1 (i:=16) (d:=some 128) rfl rfl rfl (by kernel_rfl) (by kernel_rfl) (by kernel_rfl) (fun _ _ _ h=>h) (.inl ⟨by rfl,fun W hW=>by go_simp;rfl⟩) ?_
     try simp only[Ja]
     obtain ⟨W3,st3,s3,e3⟩:=Z8.store s2 ZY XW Yi hq (g0 (q+1))
     refine Zn (i:=17) (d:=none) (by kernel_rfl) rfl rfl (by rfl) (Yk rfl rfl rfl st3) (fun h=>by cases h) ?_
     try simp only[Ja]
     refine Zi (by kernel_rfl) ?_ _
     have HSW:Hid (Z8 Zd 28 183 sz W3 blk n (ZZ g0 (q+1) q)∧Ext (·=blk) wr W3):=Lib.hid ⟨by rw[Wa];exact s3,(X0.trans e2).trans e3⟩
     clear hS0 X0 st2 s2 e2 st3 s3 e3
     clear HSL
     go_wp2_with fail
     go_roundg (q - i)
     case measure=>rw[HG2.out];omega
     case rel=>exact ⟨q,rfl,by omega,by omega,by go_num,by rw[←HW.out];exact HSW.out.1,HX2.out.trans HSW.out.2⟩
    ·obtain rfl:k=i:=by omega
     go_wp2_with fail
     refine bodyPost_ret (v:=.tuple #[]) (results_none rfl _ _ _) rfl ?_
     exact ⟨⟨_,rfl⟩,Lib.hid ⟨_,hW,by rw[HE.out];exact HD.out.2,by rw[HE.out];exact HD.out.1⟩,HX2.out⟩
end
section
variable {cap sz blk n:Nat} {lt:(Z9 × Nat)→(Z9 × Nat)→Prop}
theorem Uf {a m b:Nat} {f g:Nat→(Z9 × Nat)} (h:ZM lt Prod.snd a m b f) (hg:∀ i,a≤i→i<b→g i=f i):ZM lt Prod.snd a m b g :=
 ⟨h.am,h.mb,h.left.congr (fun i h1 h2=>hg i h1 (by have:=h.mb;omega)),h.right.congr (fun i h1 h2=>hg i (by have:=h.am;omega) h2),fun i j h1 h2 h3 h4=>by have e1:=h.am;have e2:=h.mb;rw[hg i h1 (by omega),hg j (by omega) h4];exact h.apart i j h1 h2 h3 h4⟩
theorem Sw (a m b:Nat) (f:Nat→(Z9 × Nat)) (w:World) (hS:Z8 Zd 28 183 sz w blk n f) (R:YW lt Prod.snd (fun x y:(Z9 × Nat)=>ZL x.1 y.1)) (h:ZM lt Prod.snd a m b f) (h1:a+1<m) (h2:m+1<b) (hbn:b≤n) (hcap:n≤cap) (hn:cap≤maxLen) (hN:n≤1000000) (IH:∀ (a' m' b':Nat) (f':Nat→(Z9 × Nat)) (w0:World),b' - a'<b - a→Z8 Zd 28 183 sz w0 blk n f'→ZM lt Prod.snd a' m' b' f'→b'≤n→Calls Tryz.prog 143 #[.slice (some ⟨blk,0,none⟩) n cap,.int .i64 a',.int .i64 m',.int .i64 b',.func (.func 98) #[] #[]] w0 fun e w'=>(∃ v,e=.returned v)∧Hid (∃ g,Z8 Zd 28 183 sz w' blk n g∧Zj a' b' f' g∧ZE lt a' b' g)∧Ext (·=blk) w0 w') :
  Calls Tryz.prog 143 #[.slice (some ⟨blk,0,none⟩) n cap,.int .i64 a,.int .i64 m,.int .i64 b,.func (.func 98) #[] #[]] w fun e w'=>(∃ v,e=.returned v)∧Hid (∃ g,Z8 Zd 28 183 sz w' blk n g∧Zj a b f g∧ZE lt a b g)∧Ext (·=blk) w w':=by
 have HN:=Lib.hid hn
 unfold maxLen at hn
 have HR:=Lib.hid R
 have HM:=Lib.hid h
 have HI:=Lib.hid IH
 clear R h IH
 have t1:((m:Int) - (a:Int) == 1)=false:=by rw[beq_eq_false_iff_ne];omega
 have t2:((b:Int) - (m:Int) == 1)=false:=by rw[beq_eq_false_iff_ne];omega
 obtain ⟨c0,hc0⟩:∃ c0:Nat,c0=(a+b) / 2:=⟨_,rfl⟩
 have hcc:a<c0∧c0<b:=by omega
 have hcz:((a:Int)+(b:Int)) / 2=(c0:Int):=by omega
 have hc3:2*c0≤a+b∧a+b≤2*c0+1:=by omega
 clear hc0
 go_enter Tryz.func143,Tryz.ntmps143
 go_upto_if 140 with fail
 go_cut [20,21] (fun sv rv wx=>∃ s r:Nat,sv=.int .i64 s∧rv=.int .i64 r∧a≤s∧s≤r∧r≤m∧c0+m≤b+s∧r≤c0∧Hid (s=a∨c0+m - s=b∨¬ lt (f (c0+m - s)) (f (s - 1)))∧Hid (r=m∨c0+m - r=m∨lt (f (c0+m - r - 1)) (f r))∧w=wx)
 case first=>as_aux_lemma =>
  clear hcz
  by_cases hgt:c0<m
  ·go_wp2_with fail
   go_meet
   exact ⟨c0+m - b,c0,by go_num,rfl,by omega,by omega,by omega,by omega,Nat.le_refl _,Jh (.inr (.inl (by omega))),Jh (.inr (.inl (by omega))),rfl⟩
  ·go_wp2_with fail
   go_meet
   exact ⟨a,m,rfl,rfl,Nat.le_refl _,by omega,Nat.le_refl _,by omega,by omega,Jh (.inl rfl),Jh (.inl rfl),rfl⟩
 case rest =>
  obtain ⟨s0,r0,rfl,rfl,i1,i2,i3,i4,i5,l1,l2,rfl⟩:=hcut
  clear hcz
  go_wp2_with fail
  go_loopg [20,21] (r0 - s0) (fun g0 sv rv wx=>∃ s r:Nat,g0=r - s∧sv=.int .i64 s∧rv=.int .i64 r∧a≤s∧s≤r∧r≤m∧c0+m≤b+s∧r≤c0∧Hid (s=a∨c0+m - s=b∨¬ lt (f (c0+m - s)) (f (s - 1)))∧Hid (r=m∨c0+m - r=m∨lt (f (c0+m - r - 1)) (f r))∧Z8 Zd 28 183 sz wx blk n f∧Ext (·=blk) w wx)
  case atStart=>exact ⟨s0,r0,rfl,rfl,rfl,i1,i2,i3,i4,i5,l1,l2,hS,Ext.refl _ _⟩
  case round =>
   clear i1 i2 i3 i4 i5 l1 l2 hS
   obtain ⟨s,r,hg,rfl,rfl,i1,i2,i3,i4,i5,l1,l2,hW,hx⟩:=hrel
   have HG:=Lib.hid hg
   clear hg
   have HX:=Lib.hid hx
   clear hx
   by_cases hlt:s<r
   ·as_aux_lemma =>
    obtain ⟨c,hh⟩:∃ c:Nat,c=(s+r) / 2:=⟨_,rfl⟩
    have hhi:s≤c∧c<r:=by omega
    have hhz:((s:Int)+(r:Int)) / 2=(c:Int):=by omega
    obtain ⟨q,hq⟩:∃ q:Nat,q=c0+m - 1 - c:=⟨_,rfl⟩
    have hqn:q<n:=by omega
    have hcn:c<n:=by omega
    have iwq:IntKind.i64.wrap ((c0:Int)+(m:Int) - 1 - (c:Int))=(q:Int):=by rw[show (c0:Int)+(m:Int) - 1 - (c:Int)=(q:Int) by omega];exact IntWalk.i64_in _ (by omega)
    have b0q:(0:Int)≤(q:Int):=by omega
    have b1q:(q:Int)<(n:Int):=by omega
    have b0c:(0:Int)≤(c:Int):=by omega
    have b1c:(c:Int)<(n:Int):=by omega
    have eq1:c0+m - c - 1=q:=by omega
    have eq2:c0+m - (c+1)=q:=by omega
    have EQ1:=Lib.hid eq1
    have EQ2:=Lib.hid eq2
    clear eq1 eq2
    obtain ⟨x,hx⟩:∃ x,x=f q:=⟨_,rfl⟩
    have HRx:=Lib.hid hx
    obtain ⟨y,hy⟩:∃ y,y=f c:=⟨_,rfl⟩
    have HRy:=Lib.hid hy
    have hcc2:ZL x.1 y.1<0↔lt (f q) (f c):=by rw[hx,hy];exact HR.out.says _ _ (HM.out.apart c q (by omega) (by omega) (by omega) (by omega))
    have HCC:=Lib.hid hcc2
    clear hcc2 hx hy hh hq
    go_wp2_with fail
    clear hhz
    have iap:(0:Int)≤(q:Int):=by omega
    have ibp:(q:Int)<(n:Int):=by omega
    have icp:((q:Int)).toNat=q:=by omega
    have idp:IntKind.i64.wrap ((q:Int))=(q:Int):=IntWalk.i64_in _ (by omega)
    have iaq:(0:Int)≤(c:Int):=by omega
    have ibq:(c:Int)<(n:Int):=by omega
    have icq:((c:Int)).toNat=c:=by omega
    have idq:IntKind.i64.wrap ((c:Int))=(c:Int):=IntWalk.i64_in _ (by omega)
    have hS0:(fun W=>Z8 Zd 28 183 sz W blk n f) wr.drew:=hW.drew
    have b00:Below wr.heap.size wr wr.drew:=(Below.refl _ _).drew
    refine wp_region_held_drew (S:=(fun W=>Z8 Zd 28 183 sz W blk n f)) (by kernel_rfl) hS0 (fun _=>?_)
    generalize wr.drew=W1 at hS0 b00 ⊢
    refine Z7 (i:=0) (d:=some 158) rfl rfl (by kernel_rfl) (by kernel_rfl) (by kernel_rfl) (fun _ _ _ h=>h) (.inl ⟨by rfl,fun W hW=>by go_simp;rfl⟩) hS0 ?_
    try simp only[Ja]
    refine Z7 (i:=1) (d:=some 159) rfl rfl (by kernel_rfl) (by kernel_rfl) (by kernel_rfl) (fun _ _ _ h=>h) (.inl ⟨by rfl,fun W hW=>by go_simp;rfl⟩) hS0 ?_
    try simp only[Ja]
    refine Z7 (i:=2) (d:=some 160) rfl rfl (by kernel_rfl) (by kernel_rfl) (by kernel_rfl) (fun _ _ _ h=>h) (.inl ⟨by rfl,fun W hW=>by go_simp;rfl⟩) hS0 ?_
    try simp only[Ja]
    refine Z7 (i:=3) (d:=some 161) rfl rfl (by kernel_rfl) (by kernel_rfl) (by kernel_rfl) (fun _ _ _ h=>h) (.inl ⟨by rfl,fun W hW=>by go_simp;rfl⟩) hS0 ?_
    try simp only[Ja]
    refine Z7 (i:=4) (d:=some 162) rfl rfl (by kernel_rfl) (by kernel_rfl) (by kernel_rfl) (fun _ _ _ h=>h) (.inl ⟨by rfl,fun W hW=>by go_simp;rfl⟩) hS0 ?_
    try simp only[Ja]
    refine Z7 (i:=5) (d:=some 163) rfl rfl (by kernel_rfl) (by kernel_rfl) (by kernel_rfl) (fun _ _ _ h=>h) (.inl ⟨by rfl,fun W hW=>by go_simp;rfl⟩) hS0 ?_
    try simp only[Ja]
    refine Z7 (i:=6) (d:=some 164) (v:=.agg (Zd x).toArray) rfl rfl (by kernel_rfl) (by kernel_rfl) (by kernel_rfl) (fun _ _ _ h=>h) (.inl ⟨by rfl,fun W hW=>ZG rfl rfl (by rw[HRx.out];exact Z8.load hW ZY Yi hqn)⟩) hS0 ?_
    try simp only[Ja]
    refine Z7 (i:=7) (d:=some 165) rfl rfl (by kernel_rfl) (by kernel_rfl) (by kernel_rfl) (fun _ _ _ h=>h) (.inl ⟨by rfl,fun W hW=>by go_simp;rfl⟩) hS0 ?_
    try simp only[Ja]
    refine Z7 (i:=8) (d:=some 166) rfl rfl (by kernel_rfl) (by kernel_rfl) (by kernel_rfl) (fun _ _ _ h=>h) (.inl ⟨by rfl,fun W hW=>by go_simp;rfl⟩) hS0 ?_
    try simp only[Ja]
    refine Z7 (i:=9) (d:=some 167) rfl rfl (by kernel_rfl) (by kernel_rfl) (by kernel_rfl) (fun _ _ _ h=>h) (.inl ⟨by rfl,fun W hW=>by go_simp;rfl⟩) hS0 ?_
    try simp only[Ja]
    refine Z7 (i:=10) (d:=some 168) (v:=.agg (Zd y).toArray) rfl rfl (by kernel_rfl) (by kernel_rfl) (by kernel_rfl) (fun _ _ _ h=>h) (.inl ⟨by rfl,fun W hW=>ZG rfl rfl (by rw[HRy.out];exact Z8.load hW ZY Yi hcn)⟩) hS0 ?_
    try simp only[Ja]
    refine Wb (i:=11) (d:=some 169) (by kernel_rfl) rfl rfl (by rfl) (by go_simp;first|rfl|exact ⟨rfl,rfl⟩|exact ⟨⟨rfl,rfl⟩,rfl⟩) ?_
    (refine (XD x.1 y.1 _).mono ?_)
    rintro e w5 ⟨rfl,b5⟩
    have hS5:(fun W=>Z8 Zd 28 183 sz W blk n f) w5:=Z8.below hS0 b5
    replace b5:=b00.trans (b5.mono b00.size)
    refine ⟨_,rfl,hS5,?_⟩
    try simp only[Ja]
    clear hS0 b00
    refine Z7 (i:=12) (d:=some 170) rfl rfl (by kernel_rfl) (by kernel_rfl) (by kernel_rfl) (fun _ _ _ h=>h) (.inl ⟨by rfl,fun W hW=>by go_simp;rfl⟩) hS5 ?_
    try simp only[Ja]
    refine Z7 (i:=13) (d:=some 171) rfl rfl (by kernel_rfl) (by kernel_rfl) (by kernel_rfl) (fun _ _ _ h=>h) (.inl ⟨by rfl,fun W hW=>by go_simp;rfl⟩) hS5 ?_
    try simp only[Ja]
    refine wpAnyH_done (by kernel_rfl) ?_ _
    clear hS5 HRx HRy
    have HS5:=Jh (hW.below b5)
    have HX5:=Jh (HX.out.then_below b5)
    clear  hW b5 iwq
    by_cases hc:ZL x.1 y.1<0
    ·have hcb:decide (ZL x.1 y.1<0)=true:=decide_eq_true hc
     simp only[hcb,Bool.not_true]
     go_wp2_with fail
     go_roundg (c - s)
     case measure=>rw[HG.out];omega
     case rel=>exact ⟨s,c,rfl,rfl,rfl,i1,by omega,by omega,i4,by omega,l1,Jh (.inr (.inr (by rw[EQ1.out];exact HCC.out.1 hc))),HS5.out,HX5.out⟩
    ·have hcb:decide (ZL x.1 y.1<0)=false:=decide_eq_false hc
     simp only[hcb,Bool.not_false]
     go_wp2_with fail
     go_roundg (r - (c+1))
     case measure=>rw[HG.out];omega
     case rel=>exact ⟨c+1,r,rfl,by go_num,rfl,by omega,by omega,i3,by omega,i5,Jh (.inr (.inr (by rw[EQ2.out,Nat.add_sub_cancel];exact fun t=>by have:=HCC.out.2 t;omega))),l2,HS5.out,HX5.out⟩
   ·obtain rfl:s=r:=by omega
    obtain ⟨e1,he1⟩:∃ e1:Nat,e1=c0+m - s:=⟨_,rfl⟩
    have iwe:((c0:Int)+(m:Int) - (s:Int))=(e1:Int):=by omega
    have hce:s+e1=c0+m:=by omega
    have HC:Hid (Yq lt a m b c0 s e1 f):=Lib.hid ⟨i1,i3,by omega,by omega,by omega,by rw[he1];exact l1.out,by rw[he1];exact l2.out⟩
    clear l1 l2 he1 hlt
    go_upto_region 39 with fail
    clear iwe
    go_cut [185] (fun cv wx=>cv=.bool (decide (s<m) && decide (m<e1))∧wr=wx)
    case first=>as_aux_lemma =>
     by_cases hs1:s<m
     ·by_cases hs2:m<e1
      ·go_wp2_with fail
       go_meet
       exact ⟨by simp[hs1,hs2],rfl⟩
      ·go_wp2_with fail
       go_meet
       exact ⟨by simp[hs1,hs2],rfl⟩
     ·go_wp2_with fail
      go_meet
      exact ⟨by simp[hs1],rfl⟩
    case rest =>
     obtain ⟨rfl,rfl⟩:=hcut
     go_upto_if 185 with fail
     go_cut [] (fun wx=>Z8 Zd 28 183 sz wx blk n (Y4 f s m e1)∧Ext (·=blk) w wx)
     case first=>as_aux_lemma =>
      by_cases hs:s<m∧m<e1
      ·have hb:(decide (s<m) && decide (m<e1))=true:=by simp[hs.1,hs.2]
       simp only[hb]
       go_wp2_with fail
       (with_reducible refine (SI s m e1 f _ _ hW hs.1 hs.2 (by omega) hcap HN.out).mono ?_)
       rintro e w5 ⟨⟨v5,rfl⟩,s5,x5⟩
       go_wp2_with fail
       go_meet
       exact ⟨s5,HX.out.trans x5⟩
      ·have hb:(decide (s<m) && decide (m<e1))=false:=by rw[Bool.eq_false_iff];simpa using hs
       simp only[hb]
       go_wp2_with fail
       go_meet
       exact ⟨by rw[QS f i3 (by omega) (by omega)];exact hW,HX.out⟩
     case rest =>
      obtain ⟨hW2,hx2⟩:=hcut
      have HX2:=Lib.hid hx2
      clear hx2 hW
      go_upto_region 41 with fail
      go_cut [199] (fun cv wx=>cv=.bool (decide (a<s) && decide (s<c0))∧wc=wx)
      case first=>as_aux_lemma =>
       by_cases hs1:a<s
       ·by_cases hs2:s<c0
        ·go_wp2_with fail
         go_meet
         exact ⟨by simp[hs1,hs2],rfl⟩
        ·go_wp2_with fail
         go_meet
         exact ⟨by simp[hs1,hs2],rfl⟩
       ·go_wp2_with fail
        go_meet
        exact ⟨by simp[hs1],rfl⟩
      case rest =>
       obtain ⟨rfl,rfl⟩:=hcut
       go_upto_if 199 with fail
       go_cut [] (fun wx=>Hid (∃ g,Z8 Zd 28 183 sz wx blk n g∧Zj a c0 (Y4 f s m e1) g∧ZE lt a c0 g)∧Ext (·=blk) w wx)
       case first=>as_aux_lemma =>
        by_cases hs:a<s∧s<c0
        ·have hb:(decide (a<s) && decide (s<c0))=true:=by simp[hs.1,hs.2]
         simp only[hb]
         go_wp2_with fail
         (with_reducible refine (HI.out a s c0 _ _ (by omega) hW2 (HC.out.pre1 HM.out hs.1 hs.2) (by omega)).mono ?_)
         rintro e w5 ⟨⟨v5,rfl⟩,s5,x5⟩
         go_wp2_with fail
         go_meet
         exact ⟨s5,HX2.out.trans x5⟩
        ·have hb:(decide (a<s) && decide (s<c0))=false:=by rw[Bool.eq_false_iff];simpa using hs
         simp only[hb]
         go_wp2_with fail
         go_meet
         exact ⟨Lib.hid ⟨_,hW2,Zj.refl _ _ _,HC.out.sort1 HM.out hs⟩,HX2.out⟩
       case rest =>
        obtain ⟨hQ,hx3⟩:=hcut
        have HX3:=Lib.hid hx3
        clear hx3 hW2
        obtain ⟨g1,hW3,p1,q1⟩:=hQ.out
        have P1:=Lib.hid p1
        have Q1:=Lib.hid q1
        clear p1 q1 hQ
        go_upto_region 43 with fail
        go_cut [213] (fun cv wx=>cv=.bool (decide (c0<e1) && decide (e1<b))∧wc=wx)
        case first=>as_aux_lemma =>
         by_cases hs1:c0<e1
         ·by_cases hs2:e1<b
          ·go_wp2_with fail
           go_meet
           exact ⟨by simp[hs1,hs2],rfl⟩
          ·go_wp2_with fail
           go_meet
           exact ⟨by simp[hs1,hs2],rfl⟩
         ·go_wp2_with fail
          go_meet
          exact ⟨by simp[hs1],rfl⟩
        case rest =>
         obtain ⟨rfl,rfl⟩:=hcut
         go_upto_if 213 with fail
         have hfin:∀ (g2:Nat→(Z9 × Nat)) (w6:World),Z8 Zd 28 183 sz w6 blk n g2→Zj c0 b g1 g2→ZE lt c0 b g2→Hid (∃ g,Z8 Zd 28 183 sz w6 blk n g∧Zj a b f g∧ZE lt a b g):=fun g2 w6 W6 p2 q2=>Lib.hid ⟨g2,W6,((RT f i3 (by omega) i1 (by omega)).trans (P1.out.mono (Nat.le_refl _) (by omega))).trans (p2.mono (by omega) (Nat.le_refl _)),TK (fun i j=>HC.out.cross HR.out HM.out) P1.out Q1.out p2 q2⟩
         have HF:=Lib.hid hfin
         clear hfin
         by_cases hs:c0<e1∧e1<b
         ·have hb:(decide (c0<e1) && decide (e1<b))=true:=by simp[hs.1,hs.2]
          simp only[hb]
          go_wp2_with fail
          (with_reducible refine (HI.out c0 e1 b _ _ (by omega) hW3 (Uf (HC.out.pre2 HM.out hs.1 hs.2) (fun i h1 h2=>P1.out.out (.inr h1))) (by omega)).mono ?_)
          rintro e w5 ⟨⟨v5,rfl⟩,s5,x5⟩
          go_wp2_with fail
          go_end0
          obtain ⟨g2,a1,a2,a3⟩:=s5.out
          exact ⟨⟨_,rfl⟩,HF.out g2 _ a1 a2 a3,HX3.out.trans x5⟩
         ·have hb:(decide (c0<e1) && decide (e1<b))=false:=by rw[Bool.eq_false_iff];simpa using hs
          simp only[hb]
          go_wp2_with fail
          go_end0
          exact ⟨⟨_,rfl⟩,HF.out g1 _ hW3 (Zj.refl _ _ _) ((HC.out.sort2 HM.out hs).congr (fun i h1 h2=>P1.out.out (.inr h1))),HX3.out⟩
theorem WS:∀ (k a m b:Nat) (f:Nat→(Z9 × Nat)) (w:World),b - a≤k→Z8 Zd 28 183 sz w blk n f→YW lt Prod.snd (fun x y:(Z9 × Nat)=>ZL x.1 y.1)→ZM lt Prod.snd a m b f→b≤n→n≤cap→cap≤maxLen→n≤1000000→Calls Tryz.prog 143 #[.slice (some ⟨blk,0,none⟩) n cap,.int .i64 a,.int .i64 m,.int .i64 b,.func (.func 98) #[] #[]] w fun e w'=>(∃ v,e=.returned v)∧Hid (∃ g,Z8 Zd 28 183 sz w' blk n g∧Zj a b f g∧ZE lt a b g)∧Ext (·=blk) w w'
 | 0,a,m,b,f,w,hk,hS,R,h,hbn,hcap,hn,hN=>by have e1:=h.am;have e2:=h.mb;omega
 | k+1,a,m,b,f,w,hk,hS,R,h,hbn,hcap,hn,hN=>by
  by_cases c1:m=a+1
  ·exact Sr a m b c1 f w hS R h hbn hcap hn hN
  ·by_cases c2:b=m+1
   ·exact SJ a m b c2 f w hS R h (by have:=h.am;omega) hbn hcap hn hN
   ·exact Sw a m b f w hS R h (by have:=h.am;omega) (by have:=h.mb;omega) hbn hcap hn hN (fun a' m' b' f' w0 h1 h2 h3 h4=>WS k a' m' b' f' w0 (by omega) h2 R h3 h4 hcap hn hN)
end
section
variable {cap sz blk n:Nat} {lt:(Z9 × Nat)→(Z9 × Nat)→Prop}
theorem WX (a b:Nat) (f:Nat→(Z9 × Nat)) (w:World) (hS:Z8 Zd 28 183 sz w blk n f) (R:YW lt Prod.snd (fun x y:(Z9 × Nat)=>ZL x.1 y.1)) (hab:a≤b) (hbn:b≤n) (hcap:n≤cap) (hn:cap≤maxLen) (hN:n≤1000000) (hp:∀ p q,a≤p→p<q→q<b→(f p).2<(f q).2):Calls Tryz.prog 142 #[.slice (some ⟨blk,0,none⟩) n cap,.int .i64 a,.int .i64 b,.func (.func 98) #[] #[]] w fun e w'=>(∃ v,e=.returned v)∧Hid (∃ g,Z8 Zd 28 183 sz w' blk n g∧Zj a b f g∧ZE lt a b g)∧Ext (·=blk) w w':=by
 by_cases h:a<b
 ·exact UT a b f w hS R h hbn hcap hn hp
 ·obtain rfl:a=b:=by omega
  refine (Wp _ a _ w (by omega)).mono ?_
  rintro e w' ⟨h1,rfl⟩
  exact ⟨h1,Lib.hid ⟨f,hS,Zj.refl _ _ _,fun i j h1 h2 h3=>by omega⟩,Ext.refl _ _⟩
theorem TJ (v fv:Value) (w:World):Calls Tryz.prog 129 #[v,.int .i64 0,fv] w fun e w'=>(∃ v,e=.returned v)∧w=w':=by
 go_enter Tryz.func129,Tryz.ntmps129
 go_wp2_with fail
 go_loopg [7,8] 1 (fun g av bv wx=>av=.int .i64 (0:Nat)∧bv=.int .i64 20∧w=wx)
 case atStart=>exact ⟨rfl,rfl,rfl⟩
 case round =>
  obtain ⟨rfl,rfl,rfl⟩:=hrel
  go_wp2_with fail
  have hK:=Wp v 0 fv w (by omega)
  push_cast at hK
  (with_reducible refine hK.mono ?_)
  clear hK
  rintro e w5 ⟨⟨v5,rfl⟩,rfl⟩
  go_wp2_with fail
  go_loopg [6] 1 (fun g sv wx=>sv=.int .i64 20∧w=wx)
  case atStart=>exact ⟨rfl,rfl⟩
  case round =>
   obtain ⟨rfl,rfl⟩:=hrel
   go_wp2_with fail
   go_end0
   exact ⟨⟨_,rfl⟩,rfl⟩
theorem SU (f:Nat→(Z9 × Nat)) (w:World) (hS:Z8 Zd 28 183 sz w blk n f) (R:YW lt Prod.snd (fun x y:(Z9 × Nat)=>ZL x.1 y.1)) (hcap:n≤cap) (hn:cap≤maxLen) (hN:n≤1000000) (hp:∀ p q,p<q→q<n→(f p).2<(f q).2) :
  Calls Tryz.prog 129 #[.slice (some ⟨blk,0,none⟩) n cap,.int .i64 n,.func (.func 98) #[] #[]] w fun e w'=>(∃ v,e=.returned v)∧Hid (∃ g,Z8 Zd 28 183 sz w' blk n g∧Zj 0 n f g∧ZE lt 0 n g)∧Ext (·=blk) w w':=by
 have HN:=Lib.hid hn
 unfold maxLen at hn
 have HR:=Lib.hid R
 have HP:=Lib.hid hp
 clear R hp
 go_enter Tryz.func129,Tryz.ntmps129
 go_wp2_with fail
 go_loopg [7,8] (n+20) (fun g0 av bv wx=>∃ (a:Nat) (g:Nat→(Z9 × Nat)),g0+a=n+20∧a≤n∧av=.int .i64 a∧bv=.int .i64 (a+20:Nat)∧Z8 Zd 28 183 sz wx blk n g∧Hid (Zj 0 n f g)∧Hid (X8 lt f 20 g a)∧Hid (∀ i,a≤i→i<n→g i=f i)∧Ext (·=blk) w wx)
 case atStart=>exact ⟨0,f,by omega,Nat.zero_le _,rfl,rfl,hS,Jh (Zj.refl _ _ _),Lib.hid .zero,Jh (fun _ _ _=>rfl),Ext.refl _ _⟩
 case round =>
  obtain ⟨a,g,hg,han,rfl,rfl,hW,hpm,hfr,hre,hx⟩:=hrel
  have HG:=Lib.hid hg
  clear hg hS
  have HX:=Lib.hid hx
  clear hx
  have hpos:∀ b,b≤n→∀ p q,a≤p→p<q→q<b→(g p).2<(g q).2:=fun b hb p q h1 h2 h3=>by rw[hre.out p h1 (by omega),hre.out q (by omega) (by omega)];exact HP.out p q h2 (by omega)
  have HO:=Lib.hid hpos
  clear hpos
  by_cases hlt:a+20≤n
  ·go_wp2_with fail
   have hK:=WX a (a+20) g _ hW HR.out (by omega) hlt hcap HN.out hN (HO.out _ hlt)
   rw[show ((a+20:Nat):Int)=(a:Int)+20 by omega] at hK
   (with_reducible refine hK.mono ?_)
   clear hK
   rintro e w5 ⟨⟨v5,rfl⟩,s5,x5⟩
   obtain ⟨g1,W1,p1,q1⟩:=s5.out
   have P1:=Lib.hid p1
   have Q1:=Lib.hid q1
   clear p1 q1 s5
   go_wp2_with fail
   go_roundg (n - a)
   case measure=>have:=HG.out;omega
   case rel=>exact ⟨a+20,g1,by omega,hlt,rfl,by go_num,W1,Jh (hpm.out.trans (P1.out.mono (Nat.zero_le _) hlt)),Jh (.snoc (hfr.out.congr fun i h=>P1.out.out (.inl h)) (VN (fun i h1 h2=>hre.out i h1 (by omega)) P1.out Q1.out)),Jh (fun i h1 h2=>by rw[P1.out.out (.inr h1)];exact hre.out i (by omega) h2),HX.out.trans x5⟩
  ·go_wp2_with fail
   have hK:=WX a n g _ hW HR.out han (Nat.le_refl _) hcap HN.out hN (HO.out _ (Nat.le_refl _))
   push_cast at hK
   (with_reducible refine hK.mono ?_)
   clear hK
   rintro e w5 ⟨⟨v5,rfl⟩,s5,x5⟩
   obtain ⟨g1,W1,p1,q1⟩:=s5.out
   have hru:YB lt f 20 n g1 0:=X8.runs (hfr.out.congr fun i h=>p1.out (.inl h)) han (by
    by_cases ha:a<n
    ·exact .step ha (by rw[Nat.min_eq_right (by omega)];exact VN (fun i h1 h2=>hre.out i h1 h2) p1 q1) (.done (by omega))
    ·exact .done (by omega))
   have HRU:=Lib.hid hru
   have HPM:=Jh (hpm.out.trans (p1.mono (Nat.zero_le _) (Nat.le_refl _)))
   have HX1:=Jh (HX.out.trans x5)
   clear hru p1 q1 s5 x5 hpm hfr hre hW
   go_wp2_with fail
   go_loopg [6] (n - 20) (fun g0 sv wx=>∃ (s:Nat) (g:Nat→(Z9 × Nat)),g0=n - s∧1≤s∧s≤2*n+20∧sv=.int .i64 s∧Z8 Zd 28 183 sz wx blk n g∧Hid (Zj 0 n f g)∧Hid (YB lt f s n g 0)∧Ext (·=blk) w wx)
   case atStart=>exact ⟨20,g1,rfl,by omega,by omega,rfl,W1,HPM,HRU,HX1.out⟩
   case round =>
    clear HPM HRU HX1 W1 HG HX HO
    obtain ⟨s,g,hg,hs1,hs2,rfl,hW,hpm,hru,hx⟩:=hrel
    have HG:=Lib.hid hg
    clear hg
    have HX:=Lib.hid hx
    clear hx
    by_cases hsn:s<n
    ·obtain ⟨wo,hwo⟩:∃ wo:World,wo=wr:=⟨_,rfl⟩
     subst hwo
     go_wp2_with fail
     go_loopg [7,8] (n+2*s) (fun g0 av bv wx=>∃ (a:Nat) (g:Nat→(Z9 × Nat)),g0+a=n+2*s∧a≤n∧av=.int .i64 a∧bv=.int .i64 (a+2*s:Nat)∧Z8 Zd 28 183 sz wx blk n g∧Hid (Zj 0 n f g)∧Hid (X8 lt f (2*s) g a)∧Hid (YB lt f s n g a)∧Ext (·=blk) w wx)
     case atStart=>exact ⟨0,g,by omega,Nat.zero_le _,rfl,by go_num,hW,hpm,Lib.hid .zero,hru,HX.out⟩
     case round =>
      clear hpm hru HX hW
      obtain ⟨a,g,hg,han,rfl,rfl,hW,hpm,hfr,hru,hx⟩:=hrel
      have HG2:=Lib.hid hg
      clear hg
      have HX:=Lib.hid hx
      clear hx
      by_cases hlt:a+2*s≤n
      ·have r1:=hru.out.first (by omega)
       have r2:=r1.2.first (by omega)
       rw[Nat.min_eq_left (by omega)] at r1 r2
       have e2:a+s+s=a+2*s:=by omega
       rw[e2] at r2
       have Q1:=Lib.hid r1.1
       have Q2:=Lib.hid r2.1
       have Q3:=Lib.hid r2.2
       clear r1 r2 e2
       have hpre:=Jh (Vc (pos:=Prod.snd) (show a<a+s by omega) (show a+s<a+2*s by omega) hlt HP.out Q1.out Q2.out)
       go_wp2_with fail
       have hK:=WS (2*s) a (a+s) (a+2*s) g _ (by omega) hW HR.out hpre.out hlt hcap HN.out hN
       push_cast at hK
       (with_reducible refine hK.mono ?_)
       clear hK
       rintro e w5 ⟨⟨v5,rfl⟩,s5,x5⟩
       obtain ⟨g1,W1,p1,q1⟩:=s5.out
       have P1:=Lib.hid p1
       have O1:=Lib.hid q1
       clear p1 q1 s5
       go_wp2_with fail
       go_roundg (n+2*s - (a+2*s))
       case measure=>have:=HG2.out;omega
       case rel=>exact ⟨a+2*s,g1,by omega,hlt,rfl,by go_num,W1,Jh (hpm.out.trans (P1.out.mono (Nat.zero_le _) hlt)),Jh (.snoc (hfr.out.congr fun i h=>P1.out.out (.inl h)) (Ro (by omega) (by omega) Q1.out Q2.out P1.out O1.out)),Jh (Q3.out.congr fun i h1 h2=>P1.out.out (.inr h1)),HX.out.trans x5⟩
      ·by_cases hmn:a+s<n
       ·have r1:=hru.out.first (by omega)
        have r2:=r1.2.first (by omega)
        rw[Nat.min_eq_left (by omega)] at r1
        rw[Nat.min_eq_right (by omega)] at r2
        have Q1:=Lib.hid r1.1
        have Q2:=Lib.hid r2.1
        clear r1 r2
        have hpre:=Jh (Vc (pos:=Prod.snd) (show a<a+s by omega) (show a+s<n by omega) (Nat.le_refl _) HP.out Q1.out Q2.out)
        go_wp2_with fail
        have hK:=WS (2*s) a (a+s) n g _ (by omega) hW HR.out hpre.out (Nat.le_refl _) hcap HN.out hN
        push_cast at hK
        (with_reducible refine hK.mono ?_)
        clear hK
        rintro e w5 ⟨⟨v5,rfl⟩,s5,x5⟩
        obtain ⟨g1,W1,p1,q1⟩:=s5.out
        have P1:=Lib.hid p1
        have O1:=Lib.hid q1
        clear p1 q1 s5
        go_wp2_with fail
        go_roundg (n - 2*s)
        case measure=>rw[HG.out];omega
        case rel=>exact ⟨2*s,g1,rfl,by omega,by omega,by go_num,W1,Jh (hpm.out.trans (P1.out.mono (Nat.zero_le _) (Nat.le_refl _))),Jh (X8.runs (hfr.out.congr fun i h=>P1.out.out (.inl h)) han (.step (by omega) (by rw[Nat.min_eq_right (by omega)];exact Ro (by omega) (by omega) Q1.out Q2.out P1.out O1.out) (.done (by omega)))),HX.out.trans x5⟩
       ·go_wp2_with fail
        go_roundg (n - 2*s)
        case measure=>rw[HG.out];omega
        case rel=>exact ⟨2*s,g,rfl,by omega,by omega,by go_num,hW,hpm,Jh (hfr.out.runs han (hru.out.last (by omega) (by omega))),HX.out⟩
    ·go_wp2_with fail
     go_end0
     exact ⟨⟨_,rfl⟩,Lib.hid ⟨g,hW,hpm.out,hru.out.all (by omega)⟩,HX.out⟩
end
section
variable {α κ:Type} {klt:κ→κ→Prop} {key:α→κ}
def ltT (klt:κ→κ→Prop) (key:α→κ) (p q:α × Nat):Prop:=klt (key p.1) (key q.1)∨(key p.1=key q.1∧p.2<q.2)
theorem T9 {cf:α→α→Int} (irr:∀ a,¬ klt a a) (tr:∀ a b c,klt a b→klt b c→klt a c) (tot:∀ a b,klt a b∨a=b∨klt b a) (hcf:∀ x y,cf x y<0↔klt (key x) (key y)) :
  YW (ltT klt key) Prod.snd (fun x y:α × Nat=>cf x.1 y.1) where
 irrefl x h:=by
  rcases h with h|⟨_,h⟩
  ·exact irr _ h
  ·omega
 trans x y z h1 h2:=by
  rcases h1 with h1|⟨e1,h1⟩ <;> rcases h2 with h2|⟨e2,h2⟩
  ·exact .inl (tr _ _ _ h1 h2)
  ·exact .inl (by rw[←e2];exact h1)
  ·exact .inl (by rw[e1];exact h2)
  ·exact .inr ⟨e1.trans e2,by omega⟩
 total x y h:=by
  rcases tot (key x.1) (key y.1) with t|t|t
  ·exact .inl (.inl t)
  ·rcases Nat.lt_or_gt_of_ne h with h|h
   ·exact .inl (.inr ⟨t,h⟩)
   ·exact .inr (.inr ⟨t.symm,h⟩)
  ·exact .inr (.inl t)
 says x y h:=by
  rw[hcf]
  constructor
  ·exact .inl
  ·rintro (t|⟨_,t⟩)
   ·exact t
   ·omega
def Sp [Inhabited α] (l:List α):Nat→α × Nat:=fun i=>(l[i]!,i)
theorem Qq [Inhabited α] (l:List α):(List.range l.length).map (Sp l)=l.zipIdx:=by
 refine List.ext_getElem (by simp) fun i h1 h2=>?_
 simp only[List.length_map,List.length_range] at h1
 simp[Sp,h1]
def YR (klt:κ→κ→Prop) (key:α→κ) (l l':List α):Prop:=∃ G:List (α × Nat),G.Perm l.zipIdx∧G.Pairwise (ltT klt key)∧l'=G.map (·.1)
theorem YR.perm {l l':List α} (h:YR klt key l l'):l'.Perm l:=by
 obtain ⟨G,h1,_,rfl⟩:=h
 have:=h1.map (·.1)
 rwa [show l.zipIdx.map (·.1)=l from by simp] at this
end
instance:Inhabited Z9:=⟨⟨⟨⟨0,0⟩,0,0,0,0,0,0,0,0,0,⟨0,0⟩,0,0,⟨0,0⟩,⟨#[]⟩,⟨#[]⟩,⟨#[]⟩,⟨0,0⟩,false,⟨0,0⟩,false⟩,0,0⟩⟩
def Uh (x:Z9):St:=x.op.id
theorem SF:YW (ltT Yh Uh) Prod.snd (fun x y:Z9 × Nat=>ZL x.1 y.1) :=
 T9 Y0 (fun a b c h k=>Ys h k) YV (fun x y=>Sb _ _)
theorem Ue {base:Nat} {w:World} {v:Value} {l:List Z9} (h:Own Z9.cells 28 183 base w v l) (hl:l.length≤1000000) :
  Calls Tryz.prog 97 #[v,.func (.func 98) #[] #[]] w
   fun e w'=>(∃ u,e=.returned u)∧Hid (∃ l',YR Yh Uh l l'∧Own Z9.cells 28 183 base w' v l')∧Ext (fun b=>v.ownBlock=some b) w w':=by
 rcases h.eq_slice with ⟨rfl,rfl⟩|⟨g,cap,rfl,hb,hg⟩
 ·go_enter Tryz.func97,Tryz.ntmps97
  go_wp2_with fail
  refine (TJ _ _ _).mono ?_
  rintro e w' ⟨⟨u,rfl⟩,rfl⟩
  have HO:=Lib.hid h
  clear h
  go_wp2_with fail
  go_end0
  exact ⟨⟨_,rfl⟩,Lib.hid ⟨[],⟨[],List.Perm.refl _,List.Pairwise.nil,rfl⟩,HO.out⟩,Ext.refl _ _⟩
 ·obtain ⟨hS,hbg,hlc,hcm⟩:=Own.slab (ea:=Z9.cells) (k:=28) (fun _=>rfl) h
  have hS2:Z8 Zd 28 183 (cap*28) w g l.length (Sp l):=hS
  have HC:=Jh (SU (Sp l) w hS2 SF hlc hcm hl (fun p q h1 _=>h1))
  have hll:(l.length:Int)≤1000000:=by omega
  have HB:=Lib.hid hbg
  have HL:=Lib.hid hlc
  have HM:=Lib.hid hcm
  clear h hS hS2 hb hbg hlc hcm hl
  go_enter Tryz.func97,Tryz.ntmps97
  go_wp2_with fail
  refine HC.out.mono ?_
  rintro e w' ⟨⟨u,rfl⟩,hq,hx⟩
  clear HC
  have HX:=Lib.hid hx
  clear hx
  go_wp2_with fail
  go_end0
  obtain ⟨f,h1,h2,h3⟩:=hq.out
  refine ⟨⟨_,rfl⟩,Lib.hid ⟨((List.range l.length).map f).map (·.1),⟨_,by rw[←Qq];exact h2.list,h3.list,rfl⟩,?_⟩,HX.out.mono (fun b _ e=>by rw[e];rfl)⟩
  have h4:Z8 Z9.cells 28 183 (cap*28) w' g l.length (fun i=>(f i).1):=h1
  have:=Z8.own (ea:=Z9.cells) (k:=28) (fun _=>rfl) (by omega) h4 HB.out HL.out HM.out
  rw[List.map_map]
  have e1:((List.range l.length).map (Prod.fst ∘ f)).length=l.length:=by simp
  exact this
section
variable {P:Program}
theorem WI {T:TypeId} {k b o:Nat} {w:World} {cs:List Value} (ht:Xc P T k) (hk:cs.length=k) (hc:∀ j u,cs[j]?=some u→w.cell? ⟨b,o+j,none⟩=some u) :
  (Instr.loadAt T (.pointer (some ⟨b,o,none⟩))).run P w=.ok (.agg cs.toArray) w:=by
 have hl:=run_loadCells_list (P:=P) w ⟨b,o,none⟩ cs (fun j v hj=>by rw[Wz];exact hc j v hj)
 rw[hk] at hl
 simp[Instr.loadAt,Instr.sureAddr,loadVar,ht.agg,ht.size,hl]
theorem WF (w:World) (o:Obj):(w.alloc o).heap[w.heap.size]?=some o:=by
 show (w.heap.push o)[w.heap.size]?=_
 simp
theorem Yv {w:World} {cs:List Value} {T:TypeId} (j:Nat) (u:Value) (h:cs[j]?=some u):(w.alloc (.cells cs.toArray T)).cell? ⟨w.heap.size,j,none⟩=some u:=by
 unfold World.cell?
 simp only[WF]
 simpa using h
theorem YK {T:TypeId} {k:Nat} (ht:Xc P T k) {W:World} {z:Array Value} {cs:List Value} (hz:z.size=cs.length) (hk:cs.length=k) (h1:∀ u∈cs,u.oneCell'=true) :
  (Instr.storeAt T (.pointer (some ⟨W.heap.size,0,none⟩)) (.agg cs.toArray)).run P (W.alloc (.cells z T))=.ok () (W.alloc (.cells cs.toArray T)):=by
 have hst:=run_storeCells_at P W.heap.size 0 T cs 0 z (W.alloc (.cells z T)) (WF W _) (by omega) h1
 simp[Instr.storeAt,Instr.sureAddr,storeVar,ht.size,Value.cells,hk,hst]
 have e:z.toList.drop k=[]:=List.drop_eq_nil_of_le (by simp;omega)
 rw[e,List.append_nil]
 have e2:((W.alloc (.cells z T)).setRow W.heap.size cs.toArray).heap=(W.alloc (.cells cs.toArray T)).heap:=by
  refine Array.ext_getElem? fun i=>?_
  by_cases hi:W.heap.size=i
  ·subst hi
   rw[setRow_heap _ _ z _ T (0,0) (WF W _),WF]
  ·simp only[World.setRow,Array.getElem?_modify,if_neg hi]
   show (W.heap.push _)[i]?=(W.heap.push _)[i]?
   rw[Array.getElem?_push,Array.getElem?_push,if_neg (fun e=>hi (Eq.symm e)),if_neg (fun e=>hi (Eq.symm e))]
 have e3:∀ A B:World,A.heap=B.heap→A.tape=B.tape→A.drawn=B.drawn→A.os=B.os→A.output=B.output→A=B:=by
  rintro ⟨⟩ ⟨⟩ rfl rfl rfl rfl rfl
  rfl
 exact e3 _ _ e2 rfl rfl rfl rfl
end
section
variable {P:Program} {F:Fence} {m:Nat} {ops:Array Oper} {rest:List Oper} {o:Oper} {a:Act} {Q:Exit→Act→World→Prop} {W W':World}
theorem WR (hg:o.guard=none) {T:TypeId} {ps:Array (Nat × Operand)} {vs:Array (Nat × Value)} {v:Value} (ho:o.op=.build T ps) (hx:(ps.map fun p=>(p.1,a.eval p.2))=vs)
  (hr:(Instr.build T vs).run P W=.ok v W) (h:wpListIn F m P ops Q rest (a.put o.dst v) W):wpListIn F m P ops Q (o :: rest) a W:=by
 subst hx
 refine wpListIn_plain hg fun K hK'=>?_
 unfold Oper.wpIn
 refine ⟨by simp[Oper.about,ho],?_⟩
 rw[Oper.semAt_plain F _ _ (by rw[ho];intro c hc';cases hc')]
 simp[execOp,ho,hr,Result.andThen]
 exact hK' _ _ h
theorem XV (hg:o.guard=none) {T:TypeId} {n:Nat} {ps:Array (Nat × Operand)} {vs:Array (Nat × Value)} {v:Value} (ho:o.op=.buildSlice T n ps) (hx:(ps.map fun p=>(p.1,a.eval p.2))=vs)
  (hr:(Instr.buildSlice T n vs).run P W=.ok v W') (h:wpListIn F m P ops Q rest (a.put o.dst v) W'):wpListIn F m P ops Q (o :: rest) a W:=by
 subst hx
 refine wpListIn_plain hg fun K hK'=>?_
 unfold Oper.wpIn
 refine ⟨by simp[Oper.about,ho],?_⟩
 rw[Oper.semAt_plain F _ _ (by rw[ho];intro c hc';cases hc')]
 simp[execOp,ho,hr,Result.andThen]
 exact hK' _ _ h
theorem WZ (hg:o.guard=none) {T:TypeId} {p x:Operand} {q v:Value} (ho:o.op=.store T p x) (hp:a.eval p=q) (hx:a.eval x=v)
  (hr:(Instr.storeAt T q v).run P W=.ok () W') (h:wpListIn F m P ops Q rest (a.put o.dst undef) W'):wpListIn F m P ops Q (o :: rest) a W:=by
 refine wpListIn_plain hg fun K hK'=>?_
 unfold Oper.wpIn
 refine ⟨by simp[Oper.about,ho],?_⟩
 rw[Oper.semAt_plain F _ _ (by rw[ho];intro c hc';cases hc')]
 simp[execOp,ho,hp,hx,hr,Result.andThen]
 exact hK' _ _ h
theorem Xd (hg:o.guard=none) {T:TypeId} {p x:Operand} {q v:Value} (ho:o.op=.store T p x) (hp:a.eval p=q) (hx:a.eval x=v)
  (hr:(Instr.storeAt T q v).run P W=.ok () W') (h:wpList P ops Q rest (a.put o.dst undef) W'):wpList P ops Q (o :: rest) a W :=
 wpList_plain hg fun _ hK=>by
  rw[Oper.wp,Yk ho hp hx hr]
  exact hK _ _ h
theorem WK (hg:o.guard=none) {T:TypeId} {x0 x1 x2:Operand} {v0 v1 v2 v:Value} (ho:o.op=.build T #[(0,x0),(1,x1),(2,x2)]) (h0:a.eval x0=v0) (h1:a.eval x1=v1) (h2:a.eval x2=v2)
  (hr:(Instr.build T #[(0,v0),(1,v1),(2,v2)]).run P W=.ok v W) (h:wpListIn F m P ops Q rest (a.put o.dst v) W):wpListIn F m P ops Q (o :: rest) a W :=
 WR hg ho (by simp[h0,h1,h2]) hr h
theorem WJ (hg:o.guard=none) {T:TypeId} {n:Nat} {x0:Operand} {v0 v:Value} (ho:o.op=.buildSlice T n #[(0,x0)]) (h0:a.eval x0=v0)
  (hr:(Instr.buildSlice T n #[(0,v0)]).run P W=.ok v W') (h:wpListIn F m P ops Q rest (a.put o.dst v) W'):wpListIn F m P ops Q (o :: rest) a W :=
 XV hg ho (by simp[h0]) hr h
end
attribute [local go_sem] Oper.semAt_some
attribute [local go_sem] Z4.alloc Z4.drew Z4.setCell
theorem RF:(Tryz.prog.info? 183).map (fun i=>(i.zero,i.size,i.bytes))=some (some (.agg (Z9.cells ⟨⟨⟨0,0⟩,0,0,0,0,0,0,0,0,0,⟨0,0⟩,0,0,⟨0,0⟩,⟨#[]⟩,⟨#[]⟩,⟨#[]⟩,⟨0,0⟩,false,⟨0,0⟩,false⟩,0,0⟩).toArray),28,248):=by kernel_rfl
theorem Qz:Xc Tryz.prog 181 26:=⟨fun w=>by kernel_rfl,fun w=>by kernel_rfl⟩
theorem Uc (o:OpD) (p q:Int) (W:World):(Instr.build 183 #[(0,.agg (OpD.cells o).toArray),(1,.int .i64 p),(2,.int .i64 q)]).run Tryz.prog W=.ok (.agg (Z9.cells ⟨o,p,q⟩).toArray) W:=by kernel_rfl
theorem U3 (x:Z9) (W:World):(Instr.buildSlice 140 1 #[(0,.agg (Z9.cells x).toArray)]).run Tryz.prog W=.ok (.slice (some ⟨W.heap.size,0,none⟩) 1 1) (W.alloc (.cells (Z9.cells x).toArray 183)):=by kernel_rfl
theorem RO (va vb:Option Addr) (ca cb:Nat) (l:List El) (ms:List OpD) (w:World) (hl:Z6 El.cells 4 w (.slice va l.length ca) l) (hm:Z6 OpD.cells 26 w (.slice vb ms.length cb) ms) (hln:l.length≤1000) (hmn:ms.length≤1000) :
  Calls Tryz.prog 68 #[.slice va l.length ca,.slice vb ms.length cb] w
   fun e w'=>∃ v F,e=.returned v∧Own Z9.cells 28 183 w.heap.size w' v F∧YR Yh Uh (Y1 (Zp (Zb l)) (Zb ms)) F∧Below w.heap.size w w':=by
 have hmm:=@run_makeMap Tryz.prog
 refine (callsIn_wide (n:=5)).1 ?_
 refine callsIn_of_wp_marks Tryz.func68 rfl trivial ?_ rfl
 simp only[Tryz.ntmps68,List.size_toArray,List.length_cons,List.length_nil,Nat.reduceAdd,Nat.reduceSub,Array.replicate_succ,Array.replicate_zero,List.push_toArray,List.append_toArray,List.nil_append,List.cons_append]
 gi_wp2
 refine ⟨trivial,?_⟩
 refine (callsIn_wide.2 (Si va l.length ca _)).mono ?_
 rintro e w' ⟨rfl,rfl⟩
 gi_wp2
 have hB0:Below w.heap.size w (((w.alloc (.map #[] 0)).alloc (.cells #[.map (some w.heap.size)] 135)).alloc (.cells #[.slice va l.length ca] 34)):=(((Below.refl _ _).alloc (Nat.le_refl _) _).alloc (by simp) _).alloc (by simp;omega) _
 have m0:Z4 St.val Y6 (((w.alloc (.map #[] 0)).alloc (.cells #[.map (some w.heap.size)] 135)).alloc (.cells #[.slice va l.length ca] 34)) w.heap.size []:=((Z4.made w).alloc _).alloc _
 have p0:(((w.alloc (.map #[] 0)).alloc (.cells #[.map (some w.heap.size)] 135)).alloc (.cells #[.slice va l.length ca] 34)).cell? ⟨w.heap.size+1,0,none⟩=some (.map (some w.heap.size)):=by go_simp
 have s0:(((w.alloc (.map #[] 0)).alloc (.cells #[.map (some w.heap.size)] 135)).alloc (.cells #[.slice va l.length ca] 34)).cell? ⟨w.heap.size+1+1,0,none⟩=some (.slice va l.length ca):=by go_simp
 have z0:(((w.alloc (.map #[] 0)).alloc (.cells #[.map (some w.heap.size)] 135)).alloc (.cells #[.slice va l.length ca] 34)).heap.size=w.heap.size+3:=by simp
 generalize ((w.alloc (.map #[] 0)).alloc (.cells #[.map (some w.heap.size)] 135)).alloc (.cells #[.slice va l.length ca] 34)=W0 at *
 have hl0:=hl.below hB0
 refine UH (U:=Nat × El) (by omega) (gf:=127) (lb:=#[.pointer (some ⟨w.heap.size+1+1,0,none⟩)]) rfl (enters_of Tryz.func127 (by kernel_rfl) rfl)
  (fun x=>#[.int .i64 x.1,.agg #[.int .i64 x.2.id.n,.int .i64 x.2.id.r,.int .i64 x.2.ch,.bool x.2.gone]]) (fun _=>rfl) (·=w.heap.size) (fun k e=>by omega) (Zb l)
  (fun pre W=>Z4 St.val Y6 W w.heap.size (Zp pre)∧Ext (·=w.heap.size) W0 W)
  (fun pre W W' h hx=>⟨h.1.ext hx (fun e=>by have:=h.1.lt;rcases e with e|e <;> omega),h.2.andThen hx (fun i hi e=>by rcases e with e|e <;> omega)⟩)
  (Tp 4 (by omega) (w.heap.size+1+1) _ l (·=w.heap.size) W0 hl0 (by omega) s0 (by omega) (fun hne b o m c e=>?_)) ⟨m0,Ext.refl _ _⟩ ?_ ?_
 ·cases e
  obtain ⟨_,_,e1,_,_,h4⟩:=hl
  cases e1
  obtain ⟨b',o',e2,h5⟩:=h4 hne
  cases e2
  obtain ⟨x,hx⟩:∃ x,l[0]?=some x:=by
   cases l with
   | nil=>exact absurd rfl hne
   | cons x r=>exact ⟨x,rfl⟩
  have:=Zy (h5 0 x hx 0 _ rfl)
  constructor <;> omega
 ·intro lb pre x W ⟨hM,hX⟩ hpx hlt
  gi_wp2
  refine ⟨(Ext.refl _ _).alloc _,⟨hM.alloc _,hX.alloc _⟩,fun W2 ⟨hM2,hX2⟩ hx2=>?_⟩
  have hlW:=hX.size
  have b0:W2.cell? ⟨W.heap.size,0,none⟩=some (.int .i64 x.2.id.n):=hx2.keep (by go_simp) (by omega)
  have b1:W2.cell? ⟨W.heap.size,1,none⟩=some (.int .i64 x.2.id.r):=hx2.keep (by go_simp) (by omega)
  have q0:=hX2.keep p0 (by omega)
  have hupd:∀ W,Z4 St.val Y6 W w.heap.size (Zp pre)→(Instr.mapUpdate 135 (.map (some w.heap.size)) (.agg #[.int .i64 x.2.id.n,.int .i64 x.2.id.r]) (.int .i64 x.1)).run Tryz.prog W=.ok () (Zo W w.heap.size (Zv (Zp pre) x.2.id) x.2.id.val (Y6 x.1)):=fun W hW=>hW.update ZU YU x.2.id (Y6 x.1)
  have HX2:=Lib.hid hX2
  have HP:=Jh (hM2.put x.2.id (x.1:Int))
  clear hx2 hX2
  gi_wp2
  refine ⟨⟨by rw[TL];exact HP.out,HX2.out.mapPut (.inl rfl) _ _ _⟩,YE _ _ _ _ _⟩
 ·intro W ⟨hM,hX⟩ hK
  have HM:=Lib.hid hM
  have HX:=Lib.hid hX
  have HK:=Lib.hid hK
  have HB0:=Lib.hid hB0
  have HP0:=Lib.hid p0
  clear hM hX hK m0 p0 s0 hl0 hB0
  gi_wp2
  refine ⟨trivial,?_⟩
  refine (callsIn_wide.2 (Sk vb ms.length cb _)).mono ?_
  rintro e w' ⟨rfl,rfl⟩
  gi_wp2
  have hlW:=HX.out.size
  have hzW:w.heap.size+3<W.heap.size:=by
   have:=(Array.getElem?_eq_some_iff.1 HK.out).1
   omega
  have hBW:Below w.heap.size w W:=Ext.new HB0.out HX.out (fun i hi _ e=>by omega) (by omega)
  have pW:=HX.out.keep HP0.out (by omega)
  have hn0:(((W.alloc (.cells #[.func (.func 95) #[] #[.pointer (some ⟨w.heap.size+1,0,none⟩)]] 172)).alloc (.cells #[.slice none 0 0] 140)).alloc (.cells #[.slice vb ms.length cb] 37)).heap.size=W.heap.size+3:=by simp
  have hBB:Below W.heap.size W (((W.alloc (.cells #[.func (.func 95) #[] #[.pointer (some ⟨w.heap.size+1,0,none⟩)]] 172)).alloc (.cells #[.slice none 0 0] 140)).alloc (.cells #[.slice vb ms.length cb] 37)):=(((Below.refl _ _).alloc (Nat.le_refl _) _).alloc (by simp) _).alloc (by simp;omega) _
  have hm1:Z4 St.val Y6 (((W.alloc (.cells #[.func (.func 95) #[] #[.pointer (some ⟨w.heap.size+1,0,none⟩)]] 172)).alloc (.cells #[.slice none 0 0] 140)).alloc (.cells #[.slice vb ms.length cb] 37)) w.heap.size (Zp (Zb l)):=HM.out.below hBB
  have p1:=Z0 hBB pW
  have k1:=(hBB.block _ (Array.getElem?_eq_some_iff.1 HK.out).1).trans HK.out
  have f1:(((W.alloc (.cells #[.func (.func 95) #[] #[.pointer (some ⟨w.heap.size+1,0,none⟩)]] 172)).alloc (.cells #[.slice none 0 0] 140)).alloc (.cells #[.slice vb ms.length cb] 37)).cell? ⟨W.heap.size,0,none⟩=some (.func (.func 95) #[] #[.pointer (some ⟨w.heap.size+1,0,none⟩)]):=by go_simp
  have o1:(((W.alloc (.cells #[.func (.func 95) #[] #[.pointer (some ⟨w.heap.size+1,0,none⟩)]] 172)).alloc (.cells #[.slice none 0 0] 140)).alloc (.cells #[.slice vb ms.length cb] 37)).heap[W.heap.size+1]?=some (.cells #[.slice none 0 0] 140 (0,0)):=by
   rw[Below.heap_alloc _ _ _ (by simp)]
   have:=World.alloc_heap_new (W.alloc (.cells #[.func (.func 95) #[] #[.pointer (some ⟨w.heap.size+1,0,none⟩)]] 172)) (.cells #[.slice none 0 0] 140)
   rwa [World.size_alloc] at this
  have s1:(((W.alloc (.cells #[.func (.func 95) #[] #[.pointer (some ⟨w.heap.size+1,0,none⟩)]] 172)).alloc (.cells #[.slice none 0 0] 140)).alloc (.cells #[.slice vb ms.length cb] 37)).cell? ⟨W.heap.size+2,0,none⟩=some (.slice vb ms.length cb):=by go_simp
  have hB1:Below w.heap.size w (((W.alloc (.cells #[.func (.func 95) #[] #[.pointer (some ⟨w.heap.size+1,0,none⟩)]] 172)).alloc (.cells #[.slice none 0 0] 140)).alloc (.cells #[.slice vb ms.length cb] 37)):=hBW.trans (hBB.mono (by omega))
  have hmm1:=hm.below hB1
  clear HM HX HK HB0 HP0 hBW pW hBB
  generalize ((W.alloc (.cells #[.func (.func 95) #[] #[.pointer (some ⟨w.heap.size+1,0,none⟩)]] 172)).alloc (.cells #[.slice none 0 0] 140)).alloc (.cells #[.slice vb ms.length cb] 37)=W1 at *
  refine UH (U:=Nat × OpD) (by omega) (gf:=128) (lb:=#[.pointer (some ⟨W.heap.size+2,0,none⟩)]) rfl (enters_of Tryz.func128 (by kernel_rfl) rfl)
   (fun x=>#[.int .i64 x.1,.agg (OpD.cells x.2).toArray]) (fun _=>rfl) (fun k=>k=W.heap.size+1∨W1.heap.size+1<k) (fun k e=>by omega) (Zb ms)
   (fun pre A=>∃ v,A.heap[W.heap.size+1]?=some (.cells #[v] 140 (0,0))∧Own Z9.cells 28 183 (W.heap.size+5) A v (Y1 (Zp (Zb l)) pre)∧Ext (·=W.heap.size+1) W1 A)
   (fun pre A A' h hx=>?_)
   (Tt 4 (by omega) (W.heap.size+2) _ ms _ W1 hmm1 (by omega) s1 (by omega) (fun hne b o m c e=>?_)) ⟨_,o1,Own.nil,Ext.refl _ _⟩ ?_ ?_
  ·obtain ⟨v,h1,h2,h3⟩:=h
   have hlt:=(Array.getElem?_eq_some_iff.1 h1).1
   exact ⟨v,(hx.block _ hlt (by omega)).trans h1,h2.ext hx (fun b hb e=>by have:=(h2.blk b hb).1;omega),h3.andThen hx (fun i hi e=>by omega)⟩
  ·cases e
   obtain ⟨_,_,e1,_,_,h4⟩:=hm
   cases e1
   obtain ⟨b',o',e2,h5⟩:=h4 hne
   cases e2
   obtain ⟨x,hx⟩:∃ x,ms[0]?=some x:=by
    cases ms with
    | nil=>exact absurd rfl hne
    | cons x r=>exact ⟨x,rfl⟩
   have:=Zy (h5 0 x hx 0 _ rfl)
   constructor <;> omega
  ·rintro lb pre x A ⟨v,ho,hown,hx⟩ hpx hlt
   have hxl:x.2∈ms:=by
    have:=hpx.mem (List.mem_append_right pre (List.mem_singleton.2 rfl))
    exact R5 this
   have hpl:(Y1 (Zp (Zb l)) pre).length≤1000:=by
    have h1:=Wj (Zp (Zb l)) pre
    have h2:=hpx.length_le
    rw[YF] at h2
    simp at h2
    omega
   gi_wp2_with (refine WZ (T:=181) rfl rfl rfl rfl (YK Qz rfl (OpD.len x.2) (OpD.one x.2)) ?_)
   refine ⟨(Ext.refl _ _).alloc _,⟨v,?_,hown.alloc _,hx.alloc _⟩,?_⟩
   ·exact (Below.heap_alloc _ _ _ (Array.getElem?_eq_some_iff.1 ho).1).trans ho
   rintro A2 ⟨v2,ho2,hown2,hxA2⟩ hx2
   have hlA:=hx2.size
   rw[World.size_alloc] at hlA
   have hb:∀ j u,(OpD.cells x.2)[j]?=some u→A2.cell? ⟨A.heap.size,j,none⟩=some u:=fun j u h=>hx2.keep (Yv j u h) (by omega)
   have b20:A2.cell? ⟨A.heap.size,20,none⟩=some (.int .i64 x.2.fr.n):=hb 20 _ rfl
   have b21:A2.cell? ⟨A.heap.size,21,none⟩=some (.int .i64 x.2.fr.r):=hb 21 _ rfl
   have b22:A2.cell? ⟨A.heap.size,22,none⟩=some (.bool x.2.fa):=hb 22 _ rfl
   have b23:A2.cell? ⟨A.heap.size,23,none⟩=some (.int .i64 x.2.tr.n):=hb 23 _ rfl
   have b24:A2.cell? ⟨A.heap.size,24,none⟩=some (.int .i64 x.2.tr.r):=hb 24 _ rfl
   have b25:A2.cell? ⟨A.heap.size,25,none⟩=some (.bool x.2.ta):=hb 25 _ rfl
   have fA:=hxA2.keep f1 (by omega)
   have pA:=hxA2.keep p1 (by omega)
   have mA:=hm1.ext hxA2 (by omega)
   have hbnd:∀ k i,Z3 (Zp (Zb l)) k=some i→0≤i∧i≤1000:=fun k i h=>TN hln k i h
   have HB:=Lib.hid hb
   have HO2:=Lib.hid ho2
   clear hb ho2 ho hx2 hx hown hB1 hmm1 hmm k1 o1 s1
   gi_wp2
   refine ⟨by first|trivial|(intros;omega),?_⟩
   refine (CallsIn.inRound lb (callsIn_wide.2 (Ru (w.heap.size+1) w.heap.size (Zp (Zb l)) x.2.fr x.2.fa A2 pA mA hbnd))).mono ?_
   rintro e A3 ⟨rfl,hb3⟩
   have c23:=Z0 hb3 b23
   have c24:=Z0 hb3 b24
   have c25:=Z0 hb3 b25
   have fB:=Z0 hb3 fA
   have pB:=Z0 hb3 pA
   have mB:=mA.below hb3
   have HB3:=Lib.hid hb3
   clear b20 b21 b22 b23 b24 b25 fA pA mA hb3
   gi_wp2
   refine ⟨by first|trivial|(intros;omega),?_⟩
   refine (CallsIn.inRound lb (callsIn_wide.2 (Ru (w.heap.size+1) w.heap.size (Zp (Zb l)) x.2.tr x.2.ta A3 pB mB hbnd))).mono ?_
   rintro e A4 ⟨rfl,hb4⟩
   have hb5:=HB3.out.trans (hb4.mono HB3.out.size)
   clear c23 c24 c25 fB pB mB hb4 hbnd HB3
   have hb6:∀ j u,(OpD.cells x.2)[j]?=some u→A4.cell? ⟨A.heap.size,0+j,none⟩=some u:=fun j u h=>by rw[Nat.zero_add];exact Z0 hb5 (HB.out j u h)
   have HLD:=Jh (WI (P:=Tryz.prog) Qz (OpD.len x.2) hb6)
   have ho4:=(hb5.block _ (Array.getElem?_eq_some_iff.1 HO2.out).1).trans HO2.out
   have hc4:A4.cell? ⟨W.heap.size+1,0,none⟩=some v2:=by simp[World.cell?,ho4]
   have hown4:=hown2.ext (Ext.of_below (S:=fun _=>False) hb5) (fun _ _ f=>f)
   have hx4:=hxA2.then_below hb5
   have hx24:Ext (fun _=>False) A2 A4:=Ext.of_below hb5
   have HO4:=Lib.hid ho4
   have HX4:=Lib.hid hx4
   have HX24:=Lib.hid hx24
   have hs4:=hx4.size
   have hs24:=hx24.size
   clear ho4 hx4 hx24 hb5 hb6 HO2 hown2 hxA2 HB
   have hsn:Y1 (Zp (Zb l)) (pre++[x])=Y1 (Zp (Zb l)) pre++(ZV (Zp (Zb l)) x.2).toList:=UU _ _ _
   cases hp:(Z3 (Zp (Zb l)) x.2.fr).isSome with
   | false =>
    have HSN:=Lib.hid hsn
    clear hsn
    gi_wp2
    refine ⟨⟨v2,HO4.out,?_,HX4.out⟩,HX24.out.mono (fun _ _ f=>f.elim)⟩
    rw[HSN.out]
    simpa [ZV,hp] using hown4
   | true =>
    cases hq:(Z3 (Zp (Zb l)) x.2.tr).isSome with
    | false =>
     have HSN:=Lib.hid hsn
     clear hsn
     gi_wp2
     refine ⟨⟨v2,HO4.out,?_,HX4.out⟩,HX24.out.mono (fun _ _ f=>f.elim)⟩
     rw[HSN.out]
     simpa [ZV,hp,hq] using hown4
    | true =>
     have hmk:ZV (Zp (Zb l)) x.2=some ⟨x.2,atI (Zp (Zb l)) x.2.fr x.2.fa,atI (Zp (Zb l)) x.2.tr x.2.ta⟩:=by simp[ZV,hp,hq]
     rw[hmk] at hsn
     have HSN:=Lib.hid hsn
     clear hsn hmk
     generalize atI (Zp (Zb l)) x.2.fr x.2.fa=p0 at *
     generalize atI (Zp (Zb l)) x.2.tr x.2.ta=q0 at *
     obtain ⟨i0,hi,hz0,hz1',hz2⟩:=info_parts RF
     gi_wp2_with (first
      | ((with_reducible_and_instances refine XA (o:=⟨some 49,_,_,_,_,_⟩) (x:=.tmp 11) ?_ ?_ ?_ HLD.out ?_);rfl;rfl;rfl)
      | ((with_reducible_and_instances refine WK (o:=⟨some 52,_,_,_,_,_⟩) (x0:=.tmp 49) (x1:=.tmp 50) (x2:=.tmp 51) ?_ ?_ ?_ ?_ ?_ (Uc x.2 p0 q0 A4) ?_);rfl;rfl;rfl;rfl;rfl)
      | ((with_reducible_and_instances refine WJ (o:=⟨some 53,_,_,_,_,_⟩) (x0:=.tmp 52) ?_ ?_ ?_ (U3 ⟨x.2,p0,q0⟩ A4) ?_);rfl;rfl;rfl)
      | (gi_at_builtin;refine X7 rfl _ _ _ rfl i0 (.agg (Z9.cells ⟨⟨⟨0,0⟩,0,0,0,0,0,0,0,0,0,⟨0,0⟩,0,0,⟨0,0⟩,⟨#[]⟩,⟨#[]⟩,⟨#[]⟩,⟨0,0⟩,false,⟨0,0⟩,false⟩,0,0⟩).toArray) 248 Tryz.underlying140 hi hz0 hz1' hz2 rfl (by omega) Z9.len Z9.one rfl (hown4.alloc _) ⟨x.2,p0,q0⟩ A4.heap.size 1 rfl (fun j u h=>Yv j u h) (by unfold maxLen;omega) (by omega) (by simp;omega) ?_))
     intro v' A5 hown5 hx5
     obtain ⟨g5,c5,n5,rfl⟩:∃ g5 c5 n5,v'=.slice (some ⟨g5,0,none⟩) n5 c5:=by
      rcases hown5.eq_slice with ⟨_,e⟩|⟨g5,c5,e,_,_⟩
      ·simp at e
      ·exact ⟨g5,c5,_,e⟩
     have hne:∀ b,v2.ownBlock=some b→W.heap.size+5≤b:=fun b hb=>(hown4.blk b hb).1
     have hlt4:=(Array.getElem?_eq_some_iff.1 HO4.out).1
     have ho5:A5.heap[W.heap.size+1]?=some (.cells #[v2] 140 (0,0)):=(hx5.block _ (by simp;omega) (fun e=>by have:=hne _ e;omega)).trans ((Below.heap_alloc _ _ _ hlt4).trans HO4.out)
     have hf5:A5.frozen? ⟨W.heap.size+1,0,none⟩=false:=by simp[World.frozen?,ho5]
     have hc5:A5.cell? ⟨W.heap.size+1,0,none⟩=some v2:=by simp[World.cell?,ho5]
     have hx6:Ext (·=W.heap.size+1) A5 (A5.setCell ⟨W.heap.size+1,0,none⟩ (.slice (some ⟨g5,0,none⟩) n5 c5)):=(Ext.refl (·=W.heap.size+1) A5).setCell (p:=⟨W.heap.size+1,0,none⟩) (.inr rfl) (.slice (some ⟨g5,0,none⟩) n5 c5)
     have r1:(A5.setCell ⟨W.heap.size+1,0,none⟩ (.slice (some ⟨g5,0,none⟩) n5 c5)).heap[W.heap.size+1]?=some (.cells #[.slice (some ⟨g5,0,none⟩) n5 c5] 140 (0,0)):=heap_setCell_same A5 _ 0 #[v2] _ (.slice (some ⟨g5,0,none⟩) n5 c5) ho5
     have r2:=hown5.ext hx6 (fun b hb e=>by have:=(hown5.blk b hb).1;omega)
     have r3:Ext (·=W.heap.size+1) W1 (A5.setCell ⟨W.heap.size+1,0,none⟩ (.slice (some ⟨g5,0,none⟩) n5 c5)):=((HX4.out.alloc _).andThen hx5 (fun i hi e=>by have:=hne _ e;omega)).andThen hx6 (fun i hi e=>e)
     have r4:Ext (fun k=>k=W.heap.size+1∨W1.heap.size+1<k) A2 (A5.setCell ⟨W.heap.size+1,0,none⟩ (.slice (some ⟨g5,0,none⟩) n5 c5)):=((((HX24.out.alloc _).mono (fun _ _ f=>f.elim)).andThen (S:=fun k=>k=W.heap.size+1∨W1.heap.size+1<k) hx5 (fun i hi e=>by have:=hne _ e;omega))).andThen hx6 (fun i hi e=>.inl e)
     have R1:=Lib.hid r1
     have R2:=Lib.hid r2
     have R3:=Lib.hid r3
     have R4:=Lib.hid r4
     clear r1 r2 r3 r4 hx6 hx5 hown5 hown4 ho5 HO4 HX4 HX24 HLD
     gi_wp2
     exact ⟨⟨_,R1.out,by rw[HSN.out];exact R2.out,R3.out⟩,R4.out⟩
  ·rintro A ⟨v,ho,hown,hx⟩ hK
   have hc:A.cell? ⟨W.heap.size+1,0,none⟩=some v:=by simp[World.cell?,ho]
   have hrl:(Y1 (Zp (Zb l)) (Zb ms)).length≤1000000:=by
    have h1:=Wj (Zp (Zb l)) (Zb ms)
    rw[YF] at h1
    omega
   have hkA:=(hx.block _ (Array.getElem?_eq_some_iff.1 k1).1 (by omega)).trans k1
   have hne:∀ b,v.ownBlock=some b→W.heap.size+5≤b:=fun b hb=>(hown.blk b hb).1
   have HO:=Lib.hid ho
   have HB1:=Jh (Ext.new hB1 hx (fun i hi _ e=>by omega) (by omega))
   have hxs:=hx.size
   clear ho hB1 hx hmm1 hm1 p1 f1 o1 s1 k1 hm hl hmm
   gi_wp2
   refine ⟨trivial,?_⟩
   refine (callsIn_wide.2 (Ue hown hrl)).mono ?_
   rintro e A6 ⟨⟨u,rfl⟩,hq,hx6⟩
   have hk6:=(hx6.block _ (Array.getElem?_eq_some_iff.1 hkA).1 (fun e=>by have:=hne _ e;omega)).trans hkA
   have hK6:=(hx6.block _ (Array.getElem?_eq_some_iff.1 hK).1 (fun e=>by have:=hne _ e;omega)).trans hK
   have ho6:=(hx6.block _ (Array.getElem?_eq_some_iff.1 HO.out).1 (fun e=>by have:=hne _ e;omega)).trans HO.out
   have hc6:A6.cell? ⟨W.heap.size+1,0,none⟩=some v:=by simp[World.cell?,ho6]
   have HB6:=Jh (Ext.new HB1.out hx6 (fun i hi _ e=>by have:=hne _ e;omega) (by omega))
   clear hx6 hown hkA hK hc HO ho6
   gi_wp2
   rw[hn0] at hK6
   rw[z0] at hk6
   have hx7:Ext (·=(W.heap.size+3)) A6 (A6.putObj (W.heap.size+3) (.deferred none)):=ZQ _ _ _
   have hk7:=(hx7.block _ (Array.getElem?_eq_some_iff.1 hk6).1 (by omega)).trans hk6
   have hx8:Ext (·=(w.heap.size+3)) (A6.putObj (W.heap.size+3) (.deferred none)) ((A6.putObj (W.heap.size+3) (.deferred none)).putObj (w.heap.size+3) (.deferred none)):=ZQ _ _ _
   have hs6:=HB6.out.size
   have hs7:=hx7.size
   obtain ⟨F,hF1,hF2⟩:=hq.out
   refine ⟨by simp,.inl ⟨_,_,rfl,run_takeDeferred hK6,?_⟩⟩
   refine ⟨by simp,.inl ⟨_,_,rfl,run_takeDeferred hk7,?_⟩⟩
   refine ⟨_,results_tmp rfl _ _ _,v,F,rfl,?_,hF1,?_⟩
   ·exact ((hF2.ext hx7 (fun b hb e=>by have:=(hF2.blk b hb).1;omega)).ext hx8 (fun b hb e=>by have:=(hF2.blk b hb).1;omega)).mono (by omega)
   ·exact Ext.new (Ext.new HB6.out hx7 (fun i hi _ e=>by omega) (by omega)) hx8 (fun i hi _ e=>by omega) (by omega)
theorem SA:Tryz.prog.underlying 9=some .string:=by kernel_rfl
theorem YM (a b:ByteArray):(a == b)=decide (a=b):=by
 rw[show (a == b)=(a.data == b.data) from by cases a;cases b;rfl]
 by_cases h:a=b
 ·subst h;simp
 ·have:¬ a.data=b.data:=fun e=>h (by cases a;cases b;cases e;rfl)
  simp[h,this]
theorem Va {V:Type} (k:ByteArray):∀ (es:List MapEntry) (l:List (ByteArray × V)) (i:Nat),es.map (·.key)=l.map (fun p=>.string p.1) →
  Instr.findNow .string (.string k) es i=some ((Zv l k).map fun j=>(i+j,((es[j]?).map (·.val)).getD undef))
 | [],[],i,_=>by simp[Instr.findNow,Zv]
 | [],_ :: _,_,h=>by simp at h
 | _ :: _,[],_,h=>by simp at h
 | e :: es,p :: l,i,h=>by
  obtain ⟨k',v⟩:=p
  simp only[List.map_cons,List.cons.injEq] at h
  obtain ⟨h1,h2⟩:=h
  have ih:=Va k es l (i+1) h2
  simp only[Instr.findNow,h1,Instr.sameNow]
  by_cases hk:k'=k
  ·subst hk
   simp[Zv,YM]
  ·have hk':¬ k=k':=fun e=>hk e.symm
   have:(k == k')=false:=by rw[YM];simp[hk']
   simp only[this,ih,Zv,hk,if_false]
   cases Zv l k with
   | none=>rfl
   | some j=>simp[Nat.add_assoc,Nat.add_comm 1 j]
theorem R6 {V:Type}:XG (V:=V) Tryz.prog 9 Value.string where
 check em k w:=by kernel_rfl
 find k es l w h:=by
  simp only[Instr.findKey,Sem.run_bind,run_underlying SA,Result.andThen_ok,Va k es l 0 h,Sem.run_pure]
  cases Zv l k <;> simp
 stays k w:=by simp[Instr.keyThatStays,Instr.sameBits,beq_toListBytes]
def Yw (a b:ByteArray):Int:=if Op.bytesLess a.toList b.toList=true then -1 else if (a.toList == b.toList)=true then 0 else 1
theorem Vz (a b:ByteArray) (w:World) :
  Calls Tryz.prog 62 #[.string a,.string b] w fun e w'=>e=.returned (.int .i64 (Yw a b))∧w=w':=by
 by_cases h1:Op.bytesLess a.toList b.toList=true
 ·go_enter Tryz.func62,Tryz.ntmps62
  go_wp2
  go_ret
  exact ⟨by simp[Yw,h1],rfl⟩
 ·have h1:Op.bytesLess a.toList b.toList=false:=by simpa using h1
  by_cases h2:(a.toList == b.toList)=true
  ·go_enter Tryz.func62,Tryz.ntmps62
   go_wp2
   go_ret
   exact ⟨by simp[Yw,h1,h2],rfl⟩
  ·have h2:(a.toList == b.toList)=false:=by simpa using h2
   go_enter Tryz.func62,Tryz.ntmps62
   go_wp2
   go_ret
   exact ⟨by simp[Yw,h1,h2],rfl⟩
theorem ltB (a b:ByteArray):decide (Yw a b<0)=decide (a.toList<b.toList):=by
 unfold Yw
 rw[bytesLess_eq]
 by_cases h:a.toList<b.toList
 ·simp[h]
 ·simp only[h,decide_false,Bool.false_eq_true,if_false]
  split <;> simp
theorem VK (a b:List UInt8) (h1:¬ a<b) (h2:¬ b<a):a=b:=List.le_antisymm h2 h1
section
variable {K V:Type} [DecidableEq K] {ek:K→Value} {ev:V→Value}
def ZD (ek:K→Value) (ev:V→Value) (w:World) (r b:Nat) (l left:List (K × V)) (cur:Option (K × V)):Prop :=
 (l.map (·.1)).Nodup∧∃ es clock seen,w.heap[b]?=some (.map es clock)∧w.heap[r]?=some (.mapIter (some b) clock seen clock) ∧
  es.toList.map (·.key)=l.map (fun p=>ek p.1)∧es.toList.map (·.val)=l.map (fun p=>ev p.2) ∧
  es.toList.Pairwise (fun x y=>x.born<y.born)∧(∀ e∈es.toList,e.born<clock) ∧
  ((es.toList.zip l).filter (fun x=>!seen.contains x.1.born)).map (·.2)=left ∧
  (∀ p,cur=some p→∃ e,(e,p)∈es.toList.zip l∧seen.back?=some e.born)
theorem ZD.of_blocks {w w':World} {r b:Nat} {l left:List (K × V)} {cur:Option (K × V)} (h:ZD ek ev w r b l left cur) (hr:w'.heap[r]?=w.heap[r]?) (hb:w'.heap[b]?=w.heap[b]?):ZD ek ev w' r b l left cur:=by
 obtain ⟨hn,es,clock,seen,h1,h2,h3⟩:=h
 exact ⟨hn,es,clock,seen,hb.trans h1,hr.trans h2,h3⟩
theorem ZD.lt {w:World} {r b:Nat} {l left:List (K × V)} {cur:Option (K × V)} (h:ZD ek ev w r b l left cur):r<w.heap.size∧b<w.heap.size:=by
 obtain ⟨hn,es,clock,seen,h1,h2,h3⟩:=h
 exact ⟨(Array.getElem?_eq_some_iff.1 h2).1,(Array.getElem?_eq_some_iff.1 h1).1⟩
theorem ZD.alloc {w:World} {r b:Nat} {l left:List (K × V)} {cur:Option (K × V)} (h:ZD ek ev w r b l left cur) (o:Obj):ZD ek ev (w.alloc o) r b l left cur :=
 h.of_blocks (Below.heap_alloc _ _ _ h.lt.1) (Below.heap_alloc _ _ _ h.lt.2)
theorem ZD.ext {S:Nat→Prop} {w w':World} {r b:Nat} {l left:List (K × V)} {cur:Option (K × V)} (h:ZD ek ev w r b l left cur) (hx:Ext S w w') (h1:¬ S r) (h2:¬ S b):ZD ek ev w' r b l left cur :=
 h.of_blocks (hx.block r h.lt.1 h1) (hx.block b h.lt.2 h2)
theorem Sq {es:List MapEntry} {l:List (K × V)} (h:es.map (·.key)=l.map (fun p=>ek p.1)):(es.zip l).map (·.2)=l:=by
 have:=congrArg List.length h
 simp only[List.length_map] at this
 rw[List.map_snd_zip]
 omega
theorem Z4.range {P:Program} {w:World} {b:Nat} {l:List (K × V)} {mt kt et:TypeId} (h:Z4 ek ev w b l) (hm:P.underlying mt=some (.map kt et)) :
  ∃ w',(Instr.range mt (.map (some b))).run P w=.ok (.pointer (some ⟨w.heap.size,0,none⟩)) w'∧ZD ek ev w' w.heap.size b l l none∧Below w.heap.size w w'∧w'.heap.size=w.heap.size+1:=by
 have hlt:=h.lt
 obtain ⟨hn,es,clock,h1,h2,h3,h4,h5⟩:=h
 refine ⟨w.alloc (.mapIter (some b) clock #[] clock),?_,⟨hn,es,clock,#[],?_,?_,h2,h3,h4,h5,?_,?_⟩,(Below.refl _ _).alloc (Nat.le_refl _) _,by simp⟩
 ·simp[Instr.range,run_underlying hm,Zs h1,Result.andThen]
 ·rw[Below.heap_alloc _ _ _ hlt];exact h1
 ·show (w.heap.push _)[w.heap.size]?=_
  simp
 ·rw[List.filter_eq_self.2 (by simp)]
  exact Sq h2
 ·intro p hp;cases hp
theorem Su {es:List MapEntry} {l:List (K × V)} (h:es.map (·.key)=l.map (fun p=>ek p.1)):(es.zip l).map (·.1)=es:=by
 have:=congrArg List.length h
 simp only[List.length_map] at this
 rw[List.map_fst_zip]
 omega
theorem Ty {es:List MapEntry} {l:List (K × V)} (hp:es.Pairwise (fun x y=>x.born<y.born)):(es.zip l).Pairwise (fun x y=>x.1.born<y.1.born):=by
 induction es generalizing l with
 | nil=>simp
 | cons e es ih =>
  cases l with
  | nil=>simp
  | cons q l =>
   rw[List.zip_cons_cons]
   rw[List.pairwise_cons] at hp ⊢
   refine ⟨fun y hy=>hp.1 y.1 (List.of_mem_zip hy).1,ih hp.2⟩
theorem ZD.next1 {P:Program} {w:World} {r b:Nat} {l left:List (K × V)} {cur:Option (K × V)} {ty:TypeId} (h:ZD ek ev w r b l left cur) (hrb:r≠b) :
  (left=[]∧(Instr.next (.pointer (some ⟨r,0,none⟩)) false ty).run P w=.ok (.tuple #[.bool false]) w) ∨
  ∃ i p w',left[i]?=some p∧(Instr.next (.pointer (some ⟨r,0,none⟩)) false ty).run P w=.ok (.tuple #[.bool true,ek p.1,ev p.2]) w'∧ZD ek ev w' r b l (left.eraseIdx i) (some p)∧Ext (·=r) w w'∧w'.heap.size=w.heap.size:=by
 have hlt:=h.lt
 obtain ⟨hn,es,clock,seen,h1,h2,h3,h4,h5,h6,h7,h8⟩:=h
 have hz:=Su h3
 have hgr:(getObj r).run P w=.ok (.mapIter (some b) clock seen clock) w:=by simp[getObj,Sem.run,h2]
 have hgb:(getObj b).run P w=.ok (.map es clock) w:=Zs h1
 have hold:(es.filter fun e=>!seen.contains e.born).filter (fun e=>decide (e.born<clock))=es.filter fun e=>!seen.contains e.born:=by
  rw[Array.filter_eq_self]
  intro e he
  simp only[decide_eq_true_eq]
  exact h6 e (by simpa using (Array.mem_filter.1 he).1)
 have hnew:(es.filter fun e=>!seen.contains e.born).filter (fun e=>decide (e.born≥clock))=#[]:=by
  rw[Array.filter_eq_empty_iff]
  intro e he
  simp only[decide_eq_true_eq]
  have:=h6 e (by simpa using (Array.mem_filter.1 he).1)
  omega
 have hall:(!seen.isEmpty && !es.isEmpty && es.all fun e=>decide (e.born≥clock))=false:=by
  cases hes:es.isEmpty with
  | true=>simp
  | false =>
   simp only[Bool.not_false,Bool.and_true]
   rw[Bool.and_eq_false_iff]
   right
   have h0:0<es.size:=by
    rw[Array.isEmpty_eq_false_iff] at hes
    exact Array.size_pos_iff.2 hes
   have:=h6 es[0] (by simp)
   cases hq:es.all fun e=>decide (e.born≥clock) with
   | false=>rfl
   | true =>
    rw[Array.all_eq_true] at hq
    have:=hq 0 h0
    simp at this
    omega
 have hleft:left.map (fun p=>p)=left:=List.map_id' _
 generalize hF:(es.toList.zip l).filter (fun x=>!seen.contains x.1.born)=F at h7
 have hFes:(es.filter fun e=>!seen.contains e.born).toList=F.map (·.1):=by
  rw[Array.toList_filter,←hF]
  conv=>lhs;rw[←hz]
  rw[List.filter_map]
  rfl
 by_cases hemp:left=[]
 ·left
  refine ⟨hemp,?_⟩
  have hFnil:F=[]:=by rw[hemp] at h7;exact List.map_eq_nil_iff.1 h7
  have he:es.filter (fun e=>!seen.contains e.born)=#[]:=by
   apply Array.toList_inj.1
   rw[hFes,hFnil]
   rfl
  simp only[Instr.next,Sem.run_bind,hgr,Result.andThen_ok,hgb,hall,Bool.false_eq_true,if_false,Sem.run_pure]
  rw[hold,hnew,he]
  simp[Question.forced]
 ·right
  have hne:F≠[]:=fun e=>hemp (by rw[←h7,e];rfl)
  have hpos:0<F.length:=List.length_pos_iff.2 hne
  have hemp2:(es.filter fun e=>!seen.contains e.born).isEmpty=false:=by
   rw[Array.isEmpty_eq_false_iff]
   intro e
   have:=congrArg Array.toList e
   rw[hFes] at this
   exact hne (List.map_eq_nil_iff.1 this)
  have key:∀ i (hi:i<F.length) (w0:World),w0.heap=w.heap→w0.os=w.os→w0.tape=w.tape→w0.output=w.output →
    ∃ p w',left[i]?=some p∧(do setObj r (.mapIter (some b) clock (seen.push (F[i]'hi).1.born) clock);pure (Value.tuple #[.bool true,(F[i]'hi).1.key,(F[i]'hi).1.val]):Sem Value).run P w0=.ok (.tuple #[.bool true,ek p.1,ev p.2]) w'∧ZD ek ev w' r b l (left.eraseIdx i) (some p)∧Ext (·=r) w w'∧w'.heap.size=w.heap.size:=by
   intro i hi w0 g1 g2 g3 g4
   obtain ⟨e,p,hep⟩:∃ e p,F[i]'hi=(e,p):=⟨_,_,rfl⟩
   rw[hep]
   have hmem:(e,p)∈es.toList.zip l:=by
    have:(e,p)∈F:=by rw[←hep];exact List.getElem_mem hi
    rw[←hF] at this
    exact (List.mem_filter.1 this).1
   obtain ⟨q,hq⟩:=List.getElem?_of_mem hmem
   rw[List.getElem?_zip_eq_some] at hq
   have hk:e.key=ek p.1:=by
    have:=congrArg (fun l:List Value=>l[q]?) h3
    simpa [hq.1,hq.2] using this
   have hv:e.val=ev p.2:=by
    have:=congrArg (fun l:List Value=>l[q]?) h4
    simpa [hq.1,hq.2] using this
   have hFi:F[i]?=some (e,p):=by rw[List.getElem?_eq_getElem hi,hep]
   have hr0:w0.heap[r]?=some (.mapIter (some b) clock seen clock):=by rw[g1];exact h2
   refine ⟨p,{ w0 with heap:=w0.heap.setIfInBounds r (.mapIter (some b) clock (seen.push e.born) clock) },?_,?_,?_,⟨g2,g3,g4,by simp[g1],fun k hk' hkr=>?_⟩,by simp[g1]⟩
   ·rw[←h7,List.getElem?_map,hFi];rfl
   ·have:(setObj r (.mapIter (some b) clock (seen.push e.born) clock)).run P w0=.ok () { w0 with heap:=w0.heap.setIfInBounds r (.mapIter (some b) clock (seen.push e.born) clock) }:=by simp[setObj,Sem.run,hr0]
    simp only[Sem.run_bind,this,Result.andThen_ok,Sem.run_pure,hk,hv]
   ·refine ⟨hn,es,clock,seen.push e.born,?_,?_,h3,h4,h5,h6,?_,?_⟩
    ·show (w0.heap.setIfInBounds r _)[b]?=_
     rw[Array.getElem?_setIfInBounds_ne hrb,g1];exact h1
    ·show (w0.heap.setIfInBounds r _)[r]?=_
     rw[Array.getElem?_setIfInBounds_self_of_lt (by rw[g1];exact hlt.1)]
    ·have e1:(es.toList.zip l).filter (fun x=>!(seen.push e.born).contains x.1.born)=F.filter (fun x=>!(x.1.born == e.born)):=by
      rw[←hF,List.filter_filter]
      refine List.filter_congr fun x _=>?_
      simp only[Array.contains_push,Bool.not_or]
      rw[Bool.and_comm]
     have hpw:F.Pairwise (fun x y=>x.1.born<y.1.born):=by rw[←hF];exact (Ty h5).filter _
     rw[e1,ChangeMaps.filter_eq_eraseIdx (fun x:MapEntry × (K × V)=>x.1.born == e.born) F i (e,p) hFi (by simp) (hpw.imp (fun {x y} hxy ⟨a,c⟩=>by simp at a c;omega)),ChangeMaps.map_eraseIdx,h7]
    ·intro p' hp'
     cases hp'
     exact ⟨e,hmem,by simp⟩
   ·show (w0.heap.setIfInBounds r _)[k]?=_
    rw[Array.getElem?_setIfInBounds_ne (fun e=>hkr e.symm),g1]
  have hsz:((es.filter fun (e:MapEntry)=>!seen.contains e.born).map some).size=F.length:=by
   have:=congrArg List.length hFes
   rw[Array.size_map]
   rw[←Array.length_toList,hFes,List.length_map]
  have hget:∀ i (hi:i<F.length),((es.filter fun (e:MapEntry)=>!seen.contains e.born).map some)[i]?=some (some (F[i]'hi).1):=by
   intro i hi
   rw[Array.getElem?_map,←Array.getElem?_toList,hFes,List.getElem?_map,List.getElem?_eq_getElem hi]
   rfl
  have hrun:∀ i (hi:i<F.length) w0,(choose (.mapNext F.length)).run P w=.ok i w0→(Instr.next (.pointer (some ⟨r,0,none⟩)) false ty).run P w =
    (do setObj r (.mapIter (some b) clock (seen.push (F[i]'hi).1.born) clock);pure (Value.tuple #[.bool true,(F[i]'hi).1.key,(F[i]'hi).1.val]):Sem Value).run P w0:=by
   intro i hi w0 hc
   simp only[Instr.next,Sem.run_bind,hgr,Result.andThen_ok,hgb,hall,Bool.false_eq_true,if_false,Sem.run_pure]
   rw[hold,hnew,hemp2]
   simp only[Bool.false_eq_true,if_false,Array.empty_append,Array.append_empty]
   rw[hsz,hc,Result.andThen_ok,hget i hi]
   simp only[Sem.run_bind,Sem.run_pure]
  by_cases hforced:F.length≤1
  ·obtain ⟨p,w',k1,k2,k3⟩:=key 0 hpos w rfl rfl rfl rfl
   refine ⟨0,p,w',k1,?_,k3⟩
   rw[←k2]
   exact hrun 0 hpos w (by rw[run_choose_drew,if_pos (by simp[Question.forced,hforced])])
  ·obtain ⟨p,w',k1,k2,k3⟩:=key (w.tape w.drawn (.mapNext F.length) % F.length) (Nat.mod_lt _ hpos) w.drew rfl rfl rfl rfl
   refine ⟨_,p,w',k1,?_,k3⟩
   rw[←k2]
   exact hrun _ (Nat.mod_lt _ hpos) w.drew (by rw[run_choose_drew,if_neg (by simp[Question.forced];omega)];rfl)
theorem ZD.next {P:Program} {w:World} {r b:Nat} {l left:List (K × V)} {cur:Option (K × V)} (h:ZD ek ev w r b l left cur) (hrb:r≠b) :
  (left=[]∧∀ ty,(Instr.next (.pointer (some ⟨r,0,none⟩)) false ty).run P w=.ok (.tuple #[.bool false]) w) ∨
  ∃ i p w',left[i]?=some p∧(∀ ty,(Instr.next (.pointer (some ⟨r,0,none⟩)) false ty).run P w=.ok (.tuple #[.bool true,ek p.1,ev p.2]) w')∧ZD ek ev w' r b l (left.eraseIdx i) (some p)∧Ext (·=r) w w'∧w'.heap.size=w.heap.size:=by
 rcases h.next1 (P:=P) (ty:=0) hrb with ⟨h1,h2⟩|⟨i,p,w',h1,h2,h3⟩
 ·exact .inl ⟨h1,fun _=>h2⟩
 ·exact .inr ⟨i,p,w',h1,fun _=>h2,h3⟩
theorem ZD.entry {P:Program} {w:World} {r b:Nat} {l left:List (K × V)} {p:K × V} (h:ZD ek ev w r b l left (some p)) :
  (Instr.entry (.pointer (some ⟨r,0,none⟩))).run P w=.ok (.tuple #[ek p.1,ev p.2]) w:=by
 obtain ⟨hn,es,clock,seen,h1,h2,h3,h4,h5,h6,h7,h8⟩:=h
 obtain ⟨e,hmem,hback⟩:=h8 p rfl
 obtain ⟨q,hq⟩:=List.getElem?_of_mem hmem
 rw[List.getElem?_zip_eq_some] at hq
 have hk:e.key=ek p.1:=by
  have:=congrArg (fun l:List Value=>l[q]?) h3
  simpa [hq.1,hq.2] using this
 have hv:e.val=ev p.2:=by
  have:=congrArg (fun l:List Value=>l[q]?) h4
  simpa [hq.1,hq.2] using this
 have hgr:(getObj r).run P w=.ok (.mapIter (some b) clock seen clock) w:=by simp[getObj,Sem.run,h2]
 have hgb:(getObj b).run P w=.ok (.map es clock) w:=Zs h1
 have hfind:es.find? (fun x=>x.born == e.born)=some e:=by
  rw[←Array.find?_toList]
  rw[List.find?_eq_some_iff_getElem]
  obtain ⟨hq',hqe⟩:=List.getElem?_eq_some_iff.1 hq.1
  refine ⟨by simp,q,hq',hqe,fun j hj=>?_⟩
  have hj':j<es.toList.length:=by omega
  have:=List.pairwise_iff_getElem.1 h5 j q hj' hq' hj
  rw[hqe] at this
  simp
  simp at this
  omega
 simp[Instr.entry,hgr,hgb,hback,hfind,hk,hv,Result.andThen]
end
end Go.Proofs.YtlgipkemoldckaaGreatDoor
namespace Go.Proofs.YtlgipkemoldckaaGreatDoor
open Go.RowKit Go.Sort Go.Shelf
section
variable {α:Type} {ea:α→List Value} {k:Nat} {e:TypeId} {base:Nat} {w:World} {v:Value} {l:List α}
variable [Inhabited α]
theorem WG (hk:∀ x,(ea x).length=k) (hk0:0<k) (l:List α) (t:Nat) (ht:t<l.length*k):(l.flatMap ea)[t]?=some ((flatK ea k l.toArray)[t]!):=by
 have hd:t / k<l.length:=(Nat.div_lt_iff_lt_mul hk0).2 ht
 have hm:t % k<k:=Nat.mod_lt _ hk0
 have he:t=t / k*k+t % k:=by rw[Nat.mul_comm];exact (Nat.div_add_mod t k).symm
 rw[get_flatK _ _ _ _ (by simpa using ht)]
 have hx:l[t / k]?=some (l[t / k]):=List.getElem?_eq_getElem hd
 have h2:(l.toArray)[t / k]! = l[t / k]:=by simp[hd]
 rw[h2]
 have hu:(ea l[t / k])[t % k]?=some ((ea l[t / k])[t % k]!):=by
  rw[List.getElem!_eq_getElem?_getD,List.getElem?_eq_getElem (by rw[hk];exact hm)]
  rfl
 have:=getElem?_flatMap_k hk l (t / k) _ hx (t % k) _ hu
 rw[←he] at this
 exact this
theorem Own.holdsK (hk:∀ x,(ea x).length=k) (hk0:0<k) {g cap:Nat} (h:Own ea k e base w (.slice (some ⟨g,0,none⟩) l.length cap) l):HoldsK ea k w g 0 l.toArray:=by
 intro t ht
 simp only[size_flatK,List.size_toArray] at ht
 have h1:=World.ownsRow.cellAt h t ht
 have h2:=World.ownsRow.frozenAt h t
 rw[WG hk hk0 l t ht] at h1
 rw[Nat.zero_add]
 exact ⟨h1,h2⟩
theorem U4 (w:World) (g n:Nat) (d:Array α) (os:Array Obj):Ext (·=g) w (sortWorldK ea k w g 0 n d os):=by
 refine ⟨rfl,rfl,rfl,?_,fun b hb hne=>?_⟩
 ·simp[sortWorldK,grow,putRowK,show (Sort.ahead w n).heap.size=w.heap.size from rfl]
 ·unfold sortWorldK grow putRowK putRow mapBlock
  have hlt:b<((Sort.ahead w n).heap.modify g (onCells (putCells id 0 (flatK ea k d)))).size:=by simpa using hb
  show (((Sort.ahead w n).heap.modify g _)++os)[b]?=_
  rw[Array.getElem?_append_left hlt,Array.getElem?_modify,if_neg (fun e=>hne e.symm)]
  rfl
theorem VX (w:World) (g n:Nat) (d:Array α) (os:Array Obj) {cur:Array Value} {e:TypeId} {fr:Nat × Nat} (h:w.heap[g]?=some (.cells cur e fr)) :
  (sortWorldK ea k w g 0 n d os).heap[g]?=some (.cells (putCells id 0 (flatK ea k d) cur) e fr):=by
 have hg:=(Array.getElem?_eq_some_iff.1 h).1
 unfold sortWorldK grow putRowK putRow mapBlock
 have hlt:g<((Sort.ahead w n).heap.modify g (onCells (putCells id 0 (flatK ea k d)))).size:=by simpa using hg
 show (((Sort.ahead w n).heap.modify g _)++os)[g]?=_
 rw[Array.getElem?_append_left hlt,Array.getElem?_modify,if_pos rfl]
 show (w.heap[g]?).map _=_
 rw[h]
 rfl
theorem Ss (hk:∀ x,(ea x).length=k) (hk0:0<k) {g cap n:Nat} {d:Array α} {os:Array Obj} (h:Own ea k e base w (.slice (some ⟨g,0,none⟩) l.length cap) l) (hz:d.size=l.length) :
  Own ea k e base (sortWorldK ea k w g 0 n d os) (.slice (some ⟨g,0,none⟩) l.length cap) d.toList:=by
 obtain ⟨h1,h2⟩:=h
 rcases h2 with ⟨h3,_⟩|⟨g',cap',cur,h3,hb,hg,hnc,hcm,hcs,htake⟩
 ·cases h3
 ·cases h3
  have hzl:d.toList.length=l.length:=by simpa using hz
  refine ⟨by rw[Y9 hk],.inr ⟨g,cap,_,by rw[hzl],hb,VX w g n d os hg,by rw[hzl];exact hnc,hcm,by simpa [putCells] using hcs,?_⟩⟩
  refine List.ext_getElem? fun t=>?_
  rw[List.getElem?_take]
  split
  ·rename_i ht
   rw[WG hk hk0 d.toList t ht]
   have hF:t<(flatK ea k d).size:=by rw[size_flatK];simpa using ht
   have htc:t<cur.size:=by
    rw[hcs]
    rw[hzl] at ht
    exact Nat.lt_of_lt_of_le ht (Nat.mul_le_mul_right _ hnc)
   rw[Array.getElem?_toList]
   unfold putCells
   rw[Array.getElem?_mapIdx,Array.getElem?_eq_getElem htc]
   simp only[Option.map_some,Nat.zero_le,true_and,Nat.zero_add,Nat.sub_zero,id_eq]
   rw[if_pos hF]
  ·rename_i ht
   rw[List.getElem?_eq_none]
   rw[Y9 hk]
   omega
theorem Tn {P:Program} {f:Nat} {fv:Value} {lt:α→α→Bool} (hk:∀ x,(ea x).length=k) (hk0:0<k)
  (hS:∀ (blk cap:Nat) (d:Array α) (w:World),HoldsK ea k w blk 0 d→blk<w.heap.size→d.size<4611686018427387904→Calls P f #[.slice (some ⟨blk,0,none⟩) d.size cap,fv] w fun e w' =>
   e=.returned (.tuple #[])∧∃ d' n os,PermIn 0 d.size d d'∧SortedIn lt 0 d.size d'∧w'=sortWorldK ea k w blk 0 n d' os)
  (h0:∀ (p:Option Addr) (cap:Nat) (w:World),Calls P f #[.slice p 0 cap,fv] w fun e w'=>e=.returned (.tuple #[])∧w'=w)
  (h:Own ea k e base w v l) (hl:l.length<4611686018427387904) :
  Calls P f #[v,fv] w fun e' w'=>e'=.returned (.tuple #[])∧∃ l',l'.Perm l∧l'.Pairwise (fun a b=>lt b a=false)∧Own ea k e base w' v l'∧Ext (fun b=>v.ownBlock=some b) w w':=by
 rcases h.eq_slice with ⟨rfl,rfl⟩|⟨g,cap,rfl,hb,hg⟩
 ·exact (h0 none 0 w).mono fun e w' ⟨he,hw⟩=>⟨he,[],.nil,.nil,by rw[hw];exact h,by rw[hw];exact Ext.refl _ _⟩
 ·obtain ⟨_,_,hcap⟩:∃ a c,(l.length≤cap∧cap≤maxLen):=by
   obtain ⟨h1,h2⟩:=h
   rcases h2 with ⟨h3,_⟩|⟨g',cap',cur,h3,_,_,h4,h5,_⟩
   ·cases h3
   ·cases h3;exact ⟨0,0,h4,h5⟩
  have hH:=h.holdsK hk hk0
  have:=hS g cap l.toArray w hH hg (by simpa using hl)
  simp only[List.size_toArray] at this
  refine this.mono fun e w' ⟨he,d',n,os,hp,hs,hw⟩=>⟨he,d'.toList,?_,?_,?_,?_⟩
  ·obtain ⟨hz,_,hperm⟩:=hp
   have hz':d'.size=l.length:=by simpa using hz
   have e1:d'.extract 0 l.length=d':=by rw[←hz'];exact Array.extract_size
   rw[e1] at hperm
   simpa using hperm
  ·have hz:d'.size=l.length:=by have:=hp.1;simpa using this
   rw[List.pairwise_iff_getElem]
   intro i j hi hj hij
   simp only[Array.length_toList] at hi hj
   have:=hs i j (Nat.zero_le _) hij (by omega)
   rw[getElem!_pos d' i hi,getElem!_pos d' j hj] at this
   simpa using this
  ·have hz:d'.size=l.length:=by have:=hp.1;simpa using this
   rw[hw]
   exact Ss hk hk0 h hz
  ·rw[hw]
   exact (U4 w g n d' os).mono (fun b _ hb=>by rw[hb];rfl)
end
end Go.Proofs.YtlgipkemoldckaaGreatDoor
namespace Go.Proofs.YtlgipkemoldckaaGreatDoor
open Go.RowKit
structure Pl where
 blk:St
 name:ByteArray
 deriving DecidableEq
theorem TI (w:World) (b:Nat) (i:Option Nat) (k v:Value):Zo w.drew b i k v=(Zo w b i k v).drew:=by
 unfold Zo
 have h:w.drew.heap=w.heap:=rfl
 rw[h]
 cases hb:w.heap[b]? with
 | none=>rfl
 | some o=>cases o <;> first|rfl|(cases i <;> rfl)
theorem UQ (w:World) (b:Nat) (i:Option Nat) (k v:Value) (a:Addr):(Zo w b i k v).frozen? a=w.frozen? a:=by
 by_cases h:a.block=b
 ·subst h
  unfold Zo
  split
  ·rename_i es clock hb
   split <;> (simp only[World.frozen?,Array.getElem?_setIfInBounds,if_true,hb];split <;> simp_all)
  ·rfl
 ·exact World.frozen?_of_block (w:=w) (Xj w b i k v _ h)
attribute [local go_sem] Z4.alloc Z4.drew Z4.setCell
attribute [local go_sem] TV UQ Wg TI
theorem Qc (bn br:Int) (w:World) :
  Calls Tryz.prog 44 #[.pointer none,.agg #[.int .i64 bn,.int .i64 br]] w
   fun e w'=>e=.returned (.slice none 0 0)∧Below w.heap.size w w':=by
 go_enter Tryz.func44,Tryz.ntmps44
 go_wp2_with fail
 go_ret
 exact ⟨rfl,(Below.refl _ _).alloc (Nat.le_refl _) _⟩
structure Ch where
 block:St
 under:St
 key:ByteArray
 deriving DecidableEq
def Ch.cells (c:Ch):List Value:=[.int .i64 c.block.n,.int .i64 c.block.r,.int .i64 c.under.n,.int .i64 c.under.r,.string c.key]
def ptr (b:Option Nat):Value:=.pointer (b.map fun x=>⟨x,0,none⟩)
structure Mv where
 at_:St
 child:Ch
 took:Bool
 was:Option Nat
def Z0b (l:List Mv):Prop:=l.Pairwise (fun a b=>Yh a.at_ b.at_)
abbrev Zz:=St→Option Ch
inductive Up (h:Zz):St→St→Prop
 | refl (u:St):Up h u u
 | step {u b:St} {c:Ch}:h u=some c→Up h c.under b→Up h u b
def Ym (h:Zz):Nat→St→Prop
 | 0,u=>h u=none
 | n+1,u=>∃ c,h u=some c∧Ym h n c.under
def U1 (h:Zz):Prop:=∀ u,∃ n,Ym h n u
def Z07 (h:Zz) (b:St) (c:Ch):Zz:=fun k=>if k=b then some c else h k
open Classical in
noncomputable def Z04 (h:Zz) (c:Ch):Zz:=if Up h c.under c.block then h else Z07 h c.block c
noncomputable def Z09 (cs:List Ch):Zz:=cs.foldl Z04 (fun _=>none)
attribute [local go_sem] Z4.alloc Z4.drew Z4.setCell
attribute [local go_sem] Oper.semAt_some
attribute [local go_sem] Z4.alloc Z4.drew Z4.setCell
end Go.Proofs.YtlgipkemoldckaaGreatDoor
namespace Go.Proofs.YtlgipkemoldckaaGreatDoor
open Go
section
variable {P:Program} {ops:Array Oper} {Q:Exit→Act→World→Prop} {md:Region.Mode} {S:World→Prop} {z:Nat}
def Z0c (listed:Array Bool) (js:List Nat):Array Bool:=js.foldl (fun l j=>l.setIfInBounds j true) listed
end
end Go.Proofs.YtlgipkemoldckaaGreatDoor
namespace Go.Proofs.YtlgipkemoldckaaGreatDoor
open Go.RowKit
attribute [local go_sem] Z4.alloc Z4.drew Z4.setCell
attribute [local go_sem] Z4.alloc Z4.drew Z4.setCell
noncomputable def Z0d (c:List (St × Ch)):Zz:=Z09 (c.map (·.2))
section
variable {base:Nat} {w w':World} {t mh:Nat} {c:List (St × Ch)}
end
end Go.Proofs.YtlgipkemoldckaaGreatDoor
namespace Go.Proofs.YtlgipkemoldckaaGreatDoor
open Go.ChangeShapes Go.WideShapes Go.RowKit Go.Deep
section
variable {H:Type} {enc:TypeId × Value→H} {w:World} {base:Nat} {spare:Nat→Bool} {held:Bool}
end
section
variable {w w':World} {Z:Nat} {u:St}
end
end Go.Proofs.YtlgipkemoldckaaGreatDoor
namespace Go.Proofs.YtlgipkemoldckaaGreatDoor
open Go.RowKit
instance:Inhabited Ch:=⟨⟨⟨0,0⟩,⟨0,0⟩,⟨#[]⟩⟩⟩
def YA (c:Ch):List UInt8:=c.key.toList
section
variable {cap sz blk n:Nat}
end
end Go.Proofs.YtlgipkemoldckaaGreatDoor
namespace Go.Proofs
open Go.Shelf
def Tryz.sortAttr_ren:Go.Shelf.Ren:=⟨fun|6=>60|15=>89|14=>88|28=>117|29=>118|20=>109|21=>110|22=>111|23=>112|24=>113|25=>114|26=>115|27=>116|46=>134|47=>135|48=>136|49=>137|50=>138|57=>146|n=>n,fun|22=>24|24=>73|25=>131|3=>3|39=>145|0=>0|53=>189|55=>192|4=>4|46=>199|45=>198|50=>171|5=>5|9=>9|66=>216|70=>220|76=>228|77=>229|n=>n,fun|n=>n⟩
theorem Tryz.sortAttr:Go.Proofs.SlLaysF0.n6 Tryz.prog Tryz.sortAttr_ren:={
 mixed:=by kernel_rfl
 f6:=⟨Tryz.f60.name,by decide,Tryz.func60.trans (congrArg some (by kernel_rfl))⟩
 f14:=⟨Tryz.f88.name,by decide,Tryz.func88.trans (congrArg some (by kernel_rfl))⟩
 f15:=Tryz.func89.trans (congrArg some (by kernel_rfl))
 f20:=⟨Tryz.f109.name,by decide,Tryz.func109.trans (congrArg some (by kernel_rfl))⟩
 f21:=⟨Tryz.f110.name,by decide,Tryz.func110.trans (congrArg some (by kernel_rfl))⟩
 f22:=⟨Tryz.f111.name,by decide,Tryz.func111.trans (congrArg some (by kernel_rfl))⟩
 f23:=⟨Tryz.f112.name,by decide,Tryz.func112.trans (congrArg some (by kernel_rfl))⟩
 f24:=⟨Tryz.f113.name,by decide,Tryz.func113.trans (congrArg some (by kernel_rfl))⟩
 f25:=⟨Tryz.f114.name,by decide,Tryz.func114.trans (congrArg some (by kernel_rfl))⟩
 f26:=⟨Tryz.f115.name,by decide,Tryz.func115.trans (congrArg some (by kernel_rfl))⟩
 f27:=⟨Tryz.f116.name,by decide,Tryz.func116.trans (congrArg some (by kernel_rfl))⟩
 f28:=Tryz.func117.trans (congrArg some (by kernel_rfl))
 f29:=Tryz.func118.trans (congrArg some (by kernel_rfl))
 f46:=⟨Tryz.f134.name,by decide,Tryz.func134.trans (congrArg some (by kernel_rfl))⟩
 f47:=Tryz.func135.trans (congrArg some (by kernel_rfl))
 f48:=Tryz.func136.trans (congrArg some (by kernel_rfl))
 f49:=⟨Tryz.f137.name,by decide,Tryz.func137.trans (congrArg some (by kernel_rfl))⟩
 f50:=⟨Tryz.f138.name,by decide,Tryz.func138.trans (congrArg some (by kernel_rfl))⟩
 f57:=⟨Tryz.f146.name,by decide,Tryz.func146.trans (congrArg some (by kernel_rfl))⟩
 t0:=Tryz.underlying0
 a0:=Tryz.isAgg0
 z0:=Tryz.sizeOf0
 v0:=Tryz.zeroValue0
 t3:=Tryz.underlying3
 a3:=Tryz.isAgg3
 z3:=Tryz.sizeOf3
 v3:=Tryz.zeroValue3
 t4:=Tryz.underlying4
 a4:=Tryz.isAgg4
 z4:=Tryz.sizeOf4
 v4:=Tryz.zeroValue4
 t5:=Tryz.underlying5
 a5:=Tryz.isAgg5
 z5:=Tryz.sizeOf5
 v5:=Tryz.zeroValue5
 t9:=Tryz.underlying9
 a9:=Tryz.isAgg9
 z9:=Tryz.sizeOf9
 v9:=Tryz.zeroValue9
 t22:=Tryz.underlying24
 a22:=Tryz.isAgg24
 z22:=Tryz.sizeOf24
 v22:=Tryz.zeroValue24
 t25:=Tryz.underlying131
 a25:=Tryz.isAgg131
 z25:=Tryz.sizeOf131
 v25:=Tryz.zeroValue131
 t39:=Tryz.underlying145
 a39:=Tryz.isAgg145
 z39:=Tryz.sizeOf145
 v39:=Tryz.zeroValue145
 t45:=Tryz.underlying198
 a45:=Tryz.isAgg198
 z45:=Tryz.sizeOf198
 v45:=Tryz.zeroValue198
 t46:=Tryz.underlying199
 a46:=Tryz.isAgg199
 z46:=Tryz.sizeOf199
 v46:=Tryz.zeroValue199
 t50:=Tryz.underlying171
 a50:=Tryz.isAgg171
 z50:=Tryz.sizeOf171
 v50:=Tryz.zeroValue171
 t53:=Tryz.underlying189
 a53:=Tryz.isAgg189
 z53:=Tryz.sizeOf189
 v53:=Tryz.zeroValue189
 t55:=Tryz.underlying192
 a55:=Tryz.isAgg192
 z55:=Tryz.sizeOf192
 v55:=Tryz.zeroValue192
 t66:=Tryz.underlying216
 a66:=Tryz.isAgg216
 z66:=Tryz.sizeOf216
 v66:=Tryz.zeroValue216
 t70:=Tryz.underlying220
 a70:=Tryz.isAgg220
 z70:=Tryz.sizeOf220
 v70:=Tryz.zeroValue220
 t76:=Tryz.underlying228
 a76:=Tryz.isAgg228
 z76:=Tryz.sizeOf228
 v76:=Tryz.zeroValue228
 t77:=Tryz.underlying229
 a77:=Tryz.isAgg229
 z77:=Tryz.sizeOf229
 v77:=Tryz.zeroValue229 }
def Tryz.sortChild_ren:Go.Shelf.Ren:=⟨fun|6=>65|15=>89|14=>93|28=>117|29=>118|20=>119|21=>120|22=>121|23=>122|24=>123|25=>124|26=>125|27=>126|46=>139|47=>135|48=>136|49=>140|50=>141|57=>147|n=>n,fun|22=>48|24=>53|25=>139|3=>3|39=>145|0=>0|53=>189|55=>192|4=>4|46=>199|45=>198|50=>171|5=>5|9=>9|66=>216|70=>220|76=>228|77=>229|n=>n,fun|n=>n⟩
theorem Tryz.sortChild:Go.Proofs.SlLaysF0.n6 Tryz.prog Tryz.sortChild_ren:={
 mixed:=by kernel_rfl
 f6:=⟨Tryz.f65.name,by decide,Tryz.func65.trans (congrArg some (by kernel_rfl))⟩
 f14:=⟨Tryz.f93.name,by decide,Tryz.func93.trans (congrArg some (by kernel_rfl))⟩
 f15:=Tryz.func89.trans (congrArg some (by kernel_rfl))
 f20:=⟨Tryz.f119.name,by decide,Tryz.func119.trans (congrArg some (by kernel_rfl))⟩
 f21:=⟨Tryz.f120.name,by decide,Tryz.func120.trans (congrArg some (by kernel_rfl))⟩
 f22:=⟨Tryz.f121.name,by decide,Tryz.func121.trans (congrArg some (by kernel_rfl))⟩
 f23:=⟨Tryz.f122.name,by decide,Tryz.func122.trans (congrArg some (by kernel_rfl))⟩
 f24:=⟨Tryz.f123.name,by decide,Tryz.func123.trans (congrArg some (by kernel_rfl))⟩
 f25:=⟨Tryz.f124.name,by decide,Tryz.func124.trans (congrArg some (by kernel_rfl))⟩
 f26:=⟨Tryz.f125.name,by decide,Tryz.func125.trans (congrArg some (by kernel_rfl))⟩
 f27:=⟨Tryz.f126.name,by decide,Tryz.func126.trans (congrArg some (by kernel_rfl))⟩
 f28:=Tryz.func117.trans (congrArg some (by kernel_rfl))
 f29:=Tryz.func118.trans (congrArg some (by kernel_rfl))
 f46:=⟨Tryz.f139.name,by decide,Tryz.func139.trans (congrArg some (by kernel_rfl))⟩
 f47:=Tryz.func135.trans (congrArg some (by kernel_rfl))
 f48:=Tryz.func136.trans (congrArg some (by kernel_rfl))
 f49:=⟨Tryz.f140.name,by decide,Tryz.func140.trans (congrArg some (by kernel_rfl))⟩
 f50:=⟨Tryz.f141.name,by decide,Tryz.func141.trans (congrArg some (by kernel_rfl))⟩
 f57:=⟨Tryz.f147.name,by decide,Tryz.func147.trans (congrArg some (by kernel_rfl))⟩
 t0:=Tryz.underlying0
 a0:=Tryz.isAgg0
 z0:=Tryz.sizeOf0
 v0:=Tryz.zeroValue0
 t3:=Tryz.underlying3
 a3:=Tryz.isAgg3
 z3:=Tryz.sizeOf3
 v3:=Tryz.zeroValue3
 t4:=Tryz.underlying4
 a4:=Tryz.isAgg4
 z4:=Tryz.sizeOf4
 v4:=Tryz.zeroValue4
 t5:=Tryz.underlying5
 a5:=Tryz.isAgg5
 z5:=Tryz.sizeOf5
 v5:=Tryz.zeroValue5
 t9:=Tryz.underlying9
 a9:=Tryz.isAgg9
 z9:=Tryz.sizeOf9
 v9:=Tryz.zeroValue9
 t22:=Tryz.underlying48
 a22:=Tryz.isAgg48
 z22:=Tryz.sizeOf48
 v22:=Tryz.zeroValue48
 t25:=Tryz.underlying139
 a25:=Tryz.isAgg139
 z25:=Tryz.sizeOf139
 v25:=Tryz.zeroValue139
 t39:=Tryz.underlying145
 a39:=Tryz.isAgg145
 z39:=Tryz.sizeOf145
 v39:=Tryz.zeroValue145
 t45:=Tryz.underlying198
 a45:=Tryz.isAgg198
 z45:=Tryz.sizeOf198
 v45:=Tryz.zeroValue198
 t46:=Tryz.underlying199
 a46:=Tryz.isAgg199
 z46:=Tryz.sizeOf199
 v46:=Tryz.zeroValue199
 t50:=Tryz.underlying171
 a50:=Tryz.isAgg171
 z50:=Tryz.sizeOf171
 v50:=Tryz.zeroValue171
 t53:=Tryz.underlying189
 a53:=Tryz.isAgg189
 z53:=Tryz.sizeOf189
 v53:=Tryz.zeroValue189
 t55:=Tryz.underlying192
 a55:=Tryz.isAgg192
 z55:=Tryz.sizeOf192
 v55:=Tryz.zeroValue192
 t66:=Tryz.underlying216
 a66:=Tryz.isAgg216
 z66:=Tryz.sizeOf216
 v66:=Tryz.zeroValue216
 t70:=Tryz.underlying220
 a70:=Tryz.isAgg220
 z70:=Tryz.sizeOf220
 v70:=Tryz.zeroValue220
 t76:=Tryz.underlying228
 a76:=Tryz.isAgg228
 z76:=Tryz.sizeOf228
 v76:=Tryz.zeroValue228
 t77:=Tryz.underlying229
 a77:=Tryz.isAgg229
 z77:=Tryz.sizeOf229
 v77:=Tryz.zeroValue229 }
end Go.Proofs
namespace Go.Proofs.YtlgipkemoldckaaGreatDoor
open Go.RowKit Go.Sort Go.Shelf
theorem XE {α:Type} {l:List α} {i:Nat} {x:α} (h:l[i]?=some x):l.Perm (x :: l.eraseIdx i):=by
 induction l generalizing i with
 | nil=>simp at h
 | cons y l ih =>
  cases i with
  | zero=>simp at h;subst h;simp
  | succ i =>
   simp at h
   exact (List.Perm.cons y (ih h)).trans (List.Perm.swap x y _)
theorem VM:(Tryz.prog.info? 53).map (fun i=>(i.zero,i.size,i.bytes))=some (some (.agg #[.int .i64 0,.int .i64 0,.int .i64 0,.int .i64 0,.string ⟨#[]⟩]),5,48):=by kernel_rfl
structure Atr where
 name:ByteArray
 value:ByteArray
 deriving DecidableEq
instance:Inhabited Atr:=⟨⟨⟨#[]⟩,⟨#[]⟩⟩⟩
def Atr.cells (x:Atr):List Value:=[.string x.name,.string x.value]
theorem Qj:SWO (ltOf fun x y:Atr=>Yw x.name y.name) where
 irrefl x:=by simp only[ltOf,ltB];simp[List.lt_irrefl]
 trans x y z h1 h2:=by simp only[ltOf,ltB,decide_eq_true_eq] at *;exact List.lt_trans h1 h2
 ntrans x y z h1 h2:=by
  simp only[ltOf,ltB,decide_eq_false_iff_not] at *
  intro h
  exact (List.le_trans h2 h1) h
theorem UD:(Tryz.prog.info? 73).map (fun i=>(i.zero,i.size,i.bytes))=some (some (.agg #[.string ⟨#[]⟩,.string ⟨#[]⟩]),2,32):=by kernel_rfl
end Go.Proofs.YtlgipkemoldckaaGreatDoor
