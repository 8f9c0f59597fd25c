/- ViewKinds, part 13 of what the proof leans on (made short by a program). -/
import Derived.Test.YtlgipkemoldckaaGreatDoorVkZ12
set_option linter.unusedSimpArgs false
set_option linter.unusedVariables false
set_option linter.unusedSectionVars false
set_option maxRecDepth 20000
set_option maxHeartbeats 30000000
namespace Go.Proofs.YtlgipkemoldckaaGreatDoor
open Go.RowKit
def U0 (l:List El) (A:List Ch) (b:St):Prop:=b≠⟨0,0⟩∧(X6 l b=true∨∃ d∈A,d.under=b)
def ZE (b:St):Ch:=⟨b,⟨0,0⟩,⟨#[]⟩⟩
open Classical in
noncomputable def Y6 (l:List El) (h:Zk) (A:List Ch):Zk:=fun b=>match h b with
 | some c=>some c
 | none=>if U0 l A b then some (ZE b) else none
theorem Vk {l:List El} {h:Zk} {A:List Ch} {b:St} {c:Ch} (e:h b=some c):Y6 l h A b=some c:=by
 unfold Y6;rw[e]
theorem V6 {l:List El} {h:Zk} {A:List Ch} {b:St} (e:h b=none) (k:U0 l A b):Y6 l h A b=some (ZE b):=by
 unfold Y6;rw[e];exact if_pos k
theorem WC {l:List El} {h:Zk} {A:List Ch} {b:St} (e:h b=none) (k:¬ U0 l A b):Y6 l h A b=none:=by
 unfold Y6;rw[e];exact if_neg k
theorem YO {l:List El} {h:Zk} {A:List Ch} (e:h ⟨0,0⟩=none):Y6 l h A ⟨0,0⟩=none:=WC e (fun k=>k.1 rfl)
theorem WI {l:List El} {h:Zk} {A:List Ch} (hk:ZZ h):ZZ (Y6 l h A):=by
 intro b c hc
 cases e:h b with
 | some d=>rw[Vk e] at hc;cases hc;exact hk b _ e
 | none =>
  by_cases k:U0 l A b
  ·rw[V6 e k] at hc;cases hc;rfl
  ·rw[WC e k] at hc;cases hc
theorem Wy {l:List El} {h:Zk} {A:List Ch} (ha:XI h) (h0:h ⟨0,0⟩=none):XI (Y6 l h A):=by
 have key:∀ n u,Y9 h n u→∃ m,Y9 (Y6 l h A) m u:=fun n=>by
  induction n with
  | zero =>
   intro u hu
   by_cases k:U0 l A u
   ·exact ⟨1,ZE u,V6 hu k,YO h0⟩
   ·exact ⟨0,WC hu k⟩
  | succ n ih =>
   rintro u ⟨c,hc,he⟩
   obtain ⟨m,hm⟩:=ih _ he
   exact ⟨m+1,c,Vk hc,hm⟩
 intro u
 obtain ⟨n,hn⟩:=ha u
 exact key n u hn
noncomputable def Yl (H:Zk) (u:St):List Ch:=@dite _ (∃ l,WL H u l) (Classical.propDecidable _) (fun h=>Classical.choose h) (fun _=>[])
theorem Tr {H:Zk} {u:St} {l:List Ch} (h:WL H u l):Yl H u=l:=by
 have h1:∃ l,WL H u l:=⟨l,h⟩
 unfold Yl
 rw[dif_pos h1]
 exact (Classical.choose_spec h1).unique h
theorem XR {H:Zk} {u:St} {c:Ch} (h:c∈Yl H u):H c.block=some c∧c.under=u:=by
 unfold Yl at h
 split at h
 ·rename_i h1;exact ((Classical.choose_spec h1).1 c).1 h
 ·simp at h
theorem Qm (H:Zk) (u:St):(Yl H u).Pairwise (fun a b=>a≠b):=by
 unfold Yl
 split
 ·rename_i h1
  exact (Classical.choose_spec h1).2.imp (fun {a b} h e=>by rw[e] at h;exact XX _ h)
 ·exact List.Pairwise.nil
def Zs:ByteArray:=⟨#[112,97,114,97]⟩
def ZV:ByteArray:=⟨#[107,105,110,100]⟩
def ZI (p:ByteArray × List Atr) (a:Atr):ByteArray × List Atr :=
 if a.value=⟨#[]⟩ then p else if a.name=ZV then (a.value,p.2) else (p.1,p.2++[a])
def ZX (l:List Atr):ByteArray × List Atr:=l.foldl ZI (Zs,[])
structure Vw where
 live:St→Bool
 regs:St→List Atr
 txt:St→Pcs
 H:Zk
def Vw.nd (V:Vw) (s:St) (ks:List Nd):Nd:=.mk s (ZX (V.regs s)).1 (ZX (V.regs s)).2 (V.txt s) ks
noncomputable def Vw.row (V:Vw):Nat→St→List Nd
 | 0,_=>[]
 | n+1,b=>(Yl V.H b).flatMap fun c=>if V.live c.block=true then [V.nd c.block (V.row n c.block)] else V.row n c.block
noncomputable def Vw.one (V:Vw) (n:Nat) (s:St):List Nd:=if V.live s=true then [V.nd s (V.row n s)] else V.row n s
theorem Vw.row_succ (V:Vw) (n:Nat) (b:St):V.row (n+1) b=(Yl V.H b).flatMap fun c=>V.one n c.block:=rfl
noncomputable def Vw.ids (V:Vw):Nat→St→List St
 | 0,_=>[]
 | n+1,b=>(Yl V.H b).flatMap fun c=>(if V.live c.block=true then [c.block] else [])++V.ids n c.block
theorem Vw.row_len (V:Vw):∀ n b,(V.row n b).length≤(V.ids n b).length
 | 0,b=>by simp[Vw.row]
 | n+1,b=>by
  rw[Vw.row,Vw.ids]
  generalize Yl V.H b=K
  induction K with
  | nil=>simp
  | cons c K ih =>
   rw[List.flatMap_cons,List.flatMap_cons,List.length_append,List.length_append,List.length_append]
   have:=V.row_len n c.block
   by_cases hl:V.live c.block=true
   ·rw[if_pos hl,if_pos hl]
    simp only[List.length_singleton]
    omega
   ·rw[if_neg hl,if_neg hl]
    simp only[List.length_nil]
    omega
theorem Sc {h:Zk} {s x:St} (hu:Up h s x):∀ k,Y9 h k s→∃ j,j≤k∧Y9 h j x∧(j=k→x=s):=by
 induction hu with
 | refl u=>exact fun k hk=>⟨k,Nat.le_refl _,hk,fun _=>rfl⟩
 | step hc _ ih =>
  intro k hk
  obtain ⟨k',rfl,hk'⟩:=SB hk hc
  obtain ⟨j,h1,h2,_⟩:=ih k' hk'
  exact ⟨j,by omega,h2,fun e=>absurd e (by omega)⟩
theorem Z3y {h:Zk} {s x y:St} (hx:Up h s x):∀ {r},Up h s y→Y9 h r x→Y9 h r y→x=y:=by
 induction hx with
 | refl u =>
  intro r hy e1 e2
  obtain ⟨j,h1,h2,h3⟩:=Sc hy r e1
  exact (h3 (XN _ _ _ h2 e2)).symm
 | step hc hx ih =>
  rename_i u b c
  intro r hy e1 e2
  cases hy with
  | refl =>
   obtain ⟨j,h1,h2,h3⟩:=Sc (Up.step hc hx) r e2
   exact h3 (XN _ _ _ h2 e1)
  | step hc' hy =>
   rw[hc] at hc';cases hc'
   exact ih hy e1 e2
theorem RB {h:Zk} {a b c:St} (h1:Up h a b) (h2:Up h b c):Up h a c:=by
 induction h1 with
 | refl=>exact h2
 | step hc _ ih=>exact .step hc (ih h2)
theorem Vw.ids_sub {V:Vw}:∀ {n b s},s∈V.ids n b→∃ c,V.H c.block=some c∧c.under=b∧Up V.H s c.block
 | 0,b,s,h=>by simp[Vw.ids] at h
 | n+1,b,s,h=>by
  rw[Vw.ids,List.mem_flatMap] at h
  obtain ⟨c,hc,hs⟩:=h
  obtain ⟨h1,h2⟩:=XR hc
  refine ⟨c,h1,h2,?_⟩
  rw[List.mem_append] at hs
  rcases hs with hs|hs
  ·split at hs
   ·rw[List.mem_singleton.1 hs];exact .refl _
   ·simp at hs
  ·obtain ⟨d,d1,d2,d3⟩:=ids_sub hs
   exact RB d3 (.step d1 (by rw[d2];exact .refl _))
theorem Vw.ids_live {V:Vw}:∀ {n b s},s∈V.ids n b→V.live s=true∧∃ c,V.H s=some c∧c.block=s
 | 0,b,s,h=>by simp[Vw.ids] at h
 | n+1,b,s,h=>by
  rw[Vw.ids,List.mem_flatMap] at h
  obtain ⟨c,hc,hs⟩:=h
  obtain ⟨h1,h2⟩:=XR hc
  rw[List.mem_append] at hs
  rcases hs with hs|hs
  ·split at hs
   ·rename_i hl;rw[List.mem_singleton.1 hs];exact ⟨hl,c,h1,rfl⟩
   ·simp at hs
  ·exact ids_live hs
theorem Vw.ids_nodup {V:Vw}:∀ {n b m},Y9 V.H m b→(V.ids n b).Nodup
 | 0,b,m,h=>by simp[Vw.ids]
 | n+1,b,m,h=>by
  rw[Vw.ids]
  show List.Pairwise _ _
  rw[List.pairwise_flatMap]
  have he:∀ c∈Yl V.H b,Y9 V.H (m+1) c.block:=fun c hc=>by
   obtain ⟨h1,h2⟩:=XR hc
   exact ⟨c,h1,by rw[h2];exact h⟩
  have hup:∀ c∈Yl V.H b,∀ s∈(if V.live c.block=true then [c.block] else [])++V.ids n c.block,Up V.H s c.block:=fun c hc s hs=>by
   rw[List.mem_append] at hs
   rcases hs with hs|hs
   ·split at hs
    ·rw[List.mem_singleton.1 hs];exact .refl _
    ·simp at hs
   ·obtain ⟨d,d1,d2,d3⟩:=ids_sub hs
    exact RB d3 (.step d1 (by rw[d2];exact .refl _))
  refine ⟨fun c hc=>?_,?_⟩
  ·rw[List.pairwise_append]
   refine ⟨by split <;> simp,ids_nodup (he c hc),fun s hs t ht=>?_⟩
   split at hs
   ·rw[List.mem_singleton.1 hs]
    intro e
    obtain ⟨d,d1,d2,d3⟩:=ids_sub ht
    have e2:Y9 V.H (m+2) d.block:=⟨d,d1,by rw[d2];exact he c hc⟩
    rw[←e] at d3
    obtain ⟨j,j1,j2,_⟩:=Sc d3 _ (he c hc)
    have:=XN _ _ _ j2 e2
    omega
   ·simp at hs
  ·refine (List.pairwise_iff_forall_sublist.2 fun {c d} hs=>?_)
   have hcd:=(List.pairwise_iff_forall_sublist.1 (Qm V.H b)) hs
   have hc:c∈Yl V.H b:=hs.subset (by simp)
   have hd:d∈Yl V.H b:=hs.subset (by simp)
   intro x hx y hy e
   have h1:=hup c hc x hx
   have h2:=hup d hd y hy
   rw[←e] at h2
   have hb:=Z3y h1 h2 (he c hc) (he d hd)
   have k1:=(XR hc).1
   have k2:=(XR hd).1
   rw[hb,k2] at k1
   cases k1
   exact hcd rfl
theorem Vw.ids_len {V:Vw} {A:List Ch} (hA:Zo V.H A) {n:Nat} {b:St} {m:Nat} (h:Y9 V.H m b):(V.ids n b).length≤A.length:=by
 have:=(Vw.ids_nodup (n:=n) h).length_le_of_subset (l₂:=A.map Ch.block) (fun s hs=>by
  obtain ⟨_,c,h1,h2⟩:=Vw.ids_live hs
  exact List.mem_map.2 ⟨c,(hA.1 c).2 (by rw[h2];exact h1),h2⟩)
 rwa [List.length_map] at this
theorem Vw.row_le {V:Vw} {A:List Ch} (hA:Zo V.H A) {n:Nat} {b:St} {m:Nat} (h:Y9 V.H m b):(V.row n b).length≤A.length:=Nat.le_trans (V.row_len n b) (Vw.ids_len hA h)
theorem Vw.row_stable {V:Vw} {A:List Ch} (hk:ZZ V.H) (ha:XI V.H) (hA:Zo V.H A):∀ {n b m},Y9 V.H m b→A.length+1≤n+m→V.row (n+1) b=V.row n b
 | 0,b,m,h,hn=>by
  obtain ⟨m',h1,h2⟩:=Sk hk ha hA b
  have:=XN _ _ _ h h1
  omega
 | n+1,b,m,h,hn=>by
  rw[Vw.row_succ,Vw.row_succ]
  have:∀ c∈Yl V.H b,V.one (n+1) c.block=V.one n c.block:=fun c hc=>by
   obtain ⟨h1,h2⟩:=XR hc
   have he:Y9 V.H (m+1) c.block:=⟨c,h1,by rw[h2];exact h⟩
   have:=Vw.row_stable hk ha hA (n:=n) he (by omega)
   unfold Vw.one
   rw[this]
  generalize Yl V.H b=K at this
  induction K with
  | nil=>rfl
  | cons c K ih =>
   rw[List.flatMap_cons,List.flatMap_cons,this c (by simp),ih (fun d hd=>this d (List.mem_cons_of_mem _ hd))]
theorem Vw.row_same {V:Vw} {A:List Ch} (hk:ZZ V.H) (ha:XI V.H) (hA:Zo V.H A) {n b m} (h:Y9 V.H m b) (hn:A.length+1≤n+m):∀ {k},V.row (n+k) b=V.row n b
 | 0=>rfl
 | k+1=>by
  rw[←Nat.add_assoc,Vw.row_stable hk ha hA h (by omega)]
  exact Vw.row_same hk ha hA h hn
noncomputable def Vw.tree (V:Vw) (first:Pcs) (n:Nat):Nd:=.mk ⟨0,0⟩ ⟨#[100,111,99]⟩ [] [] ((if first=[] then [] else [.mk ⟨0,0⟩ Zs [] first []])++V.row n ⟨0,0⟩)
end Go.Proofs.YtlgipkemoldckaaGreatDoor
namespace Go.Proofs.YtlgipkemoldckaaGreatDoor
open Go.RowKit Go.Sort Go.Shelf
def orI (a b:Int):Int:=if a=0 then b else a
theorem Z2f (b:Nat) (x y:Int) (w:World) (h0:w.cell? ⟨b,0,none⟩=some (.int .i64 x)) (h1:w.cell? ⟨b,1,none⟩=some (.int .i64 y)) :
  Calls Tryz.prog 67 #[.slice (some ⟨b,0,none⟩) 2 2] w fun e w'=>e=.returned (.int .i64 (orI x y))∧w=w':=by
 by_cases hx:x=0
 ·subst hx
  by_cases hy:y=0
  ·subst hy
   go_enter Tryz.func67,Tryz.ntmps67
   go_wp2_with fail
   go_loopg [8] 2 (fun g i wx=>∃ k:Nat,g=2 - k∧k≤2∧i=.int .i64 k∧wx=w)
   case atStart=>exact ⟨0,rfl,Nat.zero_le _,rfl,rfl⟩
   case round =>
    obtain ⟨k,hg,hk,rfl,rfl⟩:=hrel
    rcases (by omega:k=0∨k=1∨k=2) with rfl|rfl|rfl
    ·go_wp2_with fail
     go_roundg 1
     case measure=>omega
     case rel=>exact ⟨1,rfl,by omega,rfl,rfl⟩
    ·go_wp2_with fail
     go_roundg 0
     case measure=>omega
     case rel=>exact ⟨2,rfl,by omega,rfl,rfl⟩
    ·go_wp2_with fail
     go_ret
     exact ⟨rfl,rfl⟩
  ·go_enter Tryz.func67,Tryz.ntmps67
   go_wp2_with fail
   go_loopg [8] 2 (fun g i wx=>∃ k:Nat,g=2 - k∧k≤1∧i=.int .i64 k∧wx=w)
   case atStart=>exact ⟨0,rfl,Nat.zero_le _,rfl,rfl⟩
   case round =>
    obtain ⟨k,hg,hk,rfl,rfl⟩:=hrel
    rcases (by omega:k=0∨k=1) with rfl|rfl
    ·go_wp2_with fail
     go_roundg 1
     case measure=>omega
     case rel=>exact ⟨1,rfl,by omega,rfl,rfl⟩
    ·go_wp2_with fail
     go_ret
     exact ⟨rfl,rfl⟩
 ·have ho:orI x y=x:=by simp[orI,hx]
  rw[ho]
  go_enter Tryz.func67,Tryz.ntmps67
  go_wp2_with fail
  go_loopg [8] 2 (fun g i wx=>g=2∧i=.int .i64 0∧wx=w)
  case atStart=>exact ⟨rfl,rfl,rfl⟩
  case round =>
   obtain ⟨hg,rfl,rfl⟩:=hrel
   go_wp2_with fail
   go_ret
   exact ⟨rfl,rfl⟩
def Tw (x y:Ch):Int:=orI (Yv x.key y.key) (Yd x.block y.block)
theorem Ww (x y:Ch):Tw x y<0↔YA x y:=by
 have hs:=WA x.block y.block
 have hb:=ltB x.key y.key
 unfold Tw orI YA X3
 by_cases h1:x.key.toList<y.key.toList
 ·have h2:Yv x.key y.key<0:=by simpa [h1] using hb
  rw[if_neg (by omega)]
  exact ⟨fun _=>.inl h1,fun _=>h2⟩
 ·have h2:¬ Yv x.key y.key<0:=by simpa [h1] using hb
  by_cases h3:x.key.toList=y.key.toList
  ·have h4:Yv x.key y.key=0:=by
    unfold Yv
    rw[bytesLess_eq]
    simp[h3,List.lt_irrefl]
   rw[if_pos h4,hs]
   exact ⟨fun h=>.inr ⟨h3,h⟩,fun h=>h.elim (fun e=>absurd e h1) (fun e=>e.2)⟩
  ·have h4:Yv x.key y.key=1:=by
    unfold Yv
    rw[bytesLess_eq]
    simp[h1,h3]
   rw[if_neg (by omega),h4]
   exact ⟨fun h=>by omega,fun h=>h.elim (fun e=>absurd e h1) (fun e=>absurd e.1 h3)⟩
theorem Z3b:SWO (ltOf fun x y:Ch=>Tw x y) where
 irrefl x:=by simp only[ltOf,decide_eq_false_iff_not];exact fun h=>XX _ ((Ww _ _).1 h)
 trans x y z h1 h2:=by simp only[ltOf,decide_eq_true_eq] at *;exact (Ww _ _).2 (WX ((Ww _ _).1 h1) ((Ww _ _).1 h2))
 ntrans x y z h1 h2:=by
  simp only[ltOf,decide_eq_false_iff_not] at *
  intro h
  have h3:=(Ww _ _).1 h
  have n1:¬ YA x y:=fun e=>h1 ((Ww _ _).2 e)
  have n2:¬ YA y z:=fun e=>h2 ((Ww _ _).2 e)
  rcases h3 with h3|⟨h3,h4⟩
  ·by_cases k1:X3 x<X3 y
   ·exact n1 (.inl k1)
   ·by_cases k2:X3 y<X3 z
    ·exact n2 (.inl k2)
    ·exact (List.le_trans k2 k1) h3
  ·by_cases k1:X3 x<X3 y
   ·exact n1 (.inl k1)
   ·by_cases k2:X3 y<X3 z
    ·exact n2 (.inl k2)
    ·have e1:X3 y=X3 x:=List.le_antisymm k1 (by rw[h3];exact k2)
     rcases Y8 x.block y.block with t|t|t
     ·exact n1 (.inr ⟨e1.symm,t⟩)
     ·rw[t] at h4;exact n2 (.inr ⟨e1.trans h3,h4⟩)
     ·exact n2 (.inr ⟨e1.trans h3,ZC t h4⟩)
theorem Se (a b c d:Int) (w:World) :
  Calls Tryz.prog 42 #[.agg #[.int .i64 a,.int .i64 b],.agg #[.int .i64 c,.int .i64 d]] w
   fun e w'=>e=.returned (.int .i64 (Yd ⟨a,b⟩ ⟨c,d⟩))∧∃ os',w'=grow w os':=by
 by_cases h1:(WU a c != 0)=true
 ·go_enter Tryz.func42,Tryz.ntmps42
  go_wp2_with (go_at_call 59;refine (Ve _ _ _).mono ?_;rintro e w' ⟨rfl,rfl⟩)
  go_ret
  exact ⟨by simp[Yd,h1],_,by rw[alloc_eq_grow,alloc_eq_grow,grow_grow]⟩
 ·have h1:(WU a c != 0)=false:=by simpa using h1
  go_enter Tryz.func42,Tryz.ntmps42
  go_wp2_with (go_at_call 59;refine (Ve _ _ _).mono ?_;rintro e w' ⟨rfl,rfl⟩)
  go_ret
  exact ⟨by simp[Yd,h1],_,by rw[alloc_eq_grow,alloc_eq_grow,grow_grow]⟩
theorem Z0C (x y:Ch) (w:World) :
  Calls Tryz.prog 66 #[.agg x.cells.toArray,.agg y.cells.toArray] w fun e w'=>e=.returned (.int .i64 (Tw x y))∧∃ q os',w'=grow (w.drewN q) os':=by
 obtain ⟨⟨xn,xr⟩,⟨xu,xv⟩,xk⟩:=x
 obtain ⟨⟨yn,yr⟩,⟨yu,yv⟩,yk⟩:=y
 unfold Ch.cells Tw
 obtain ⟨W1,hW1⟩:=Je ((w.alloc (.cells #[.int .i64 xn,.int .i64 xr,.int .i64 xu,.int .i64 xv,.string xk] 53)).alloc (.cells #[.int .i64 yn,.int .i64 yr,.int .i64 yu,.int .i64 yv,.string yk] 53))
 have hg:∃ os,W1=grow w os:=by rw[←hW1,alloc_eq_grow,alloc_eq_grow,grow_grow];exact ⟨_,rfl⟩
 have x0:W1.cell? ⟨w.heap.size,0,none⟩=some (.int .i64 xn):=by subst hW1;go_simp
 have x1:W1.cell? ⟨w.heap.size,1,none⟩=some (.int .i64 xr):=by subst hW1;go_simp
 have x4:W1.cell? ⟨w.heap.size,4,none⟩=some (.string xk):=by subst hW1;go_simp
 have y0:W1.cell? ⟨w.heap.size+1,0,none⟩=some (.int .i64 yn):=by subst hW1;go_simp
 have y1:W1.cell? ⟨w.heap.size+1,1,none⟩=some (.int .i64 yr):=by subst hW1;go_simp
 have y4:W1.cell? ⟨w.heap.size+1,4,none⟩=some (.string yk):=by subst hW1;go_simp
 have HG:=Lib.hid hg
 subst hW1
 go_enter Tryz.func66,Tryz.ntmps66
 go_upto_region 1 with fail
 generalize (w.alloc (.cells #[.int .i64 xn,.int .i64 xr,.int .i64 xu,.int .i64 xv,.string xk] 53)).alloc (.cells #[.int .i64 yn,.int .i64 yr,.int .i64 yu,.int .i64 yv,.string yk] 53)=W1 at *
 have hkeep:∀ (W:World) os b o u,W.cell? ⟨b,o,none⟩=some u→(grow W os).cell? ⟨b,o,none⟩=some u:=fun W os b o u h=>by
  exact (cell?_grow W os ⟨b,o,none⟩ (Zj h)).trans h
 have HK:=Lib.hid hkeep
 clear hkeep hg
 go_region_held3 (fun W=>W.cell? ⟨w.heap.size,0,none⟩=some (.int .i64 xn)∧W.cell? ⟨w.heap.size,1,none⟩=some (.int .i64 xr)∧W.cell? ⟨w.heap.size,4,none⟩=some (.string xk)∧W.cell? ⟨w.heap.size+1,0,none⟩=some (.int .i64 yn)∧W.cell? ⟨w.heap.size+1,1,none⟩=some (.int .i64 yr)∧W.cell? ⟨w.heap.size+1,4,none⟩=some (.string yk)) (refine ⟨?_,?_,?_,?_,?_,?_⟩ <;> first|assumption|(refine HK.out _ _ _ _ _ ?_;assumption)|(refine Z1 (HK.out _ _ _ _ _ ?_) _;assumption)) (first
  | (go_at_call 62;((with_reducible refine (Ue _ _ _).mono ?_);rintro e w2 ⟨rfl,rfl⟩))
  | (go_at_call 42;((with_reducible refine (Se _ _ _ _ _).mono ?_);rintro e w2 ⟨rfl,os2,rfl⟩))
  | (go_at_call 67;((with_reducible refine (Z2f _ (Yv xk yk) (Yd ⟨xn,xr⟩ ⟨yn,yr⟩) _ (by go_simp) (by go_simp)).mono ?_);rintro e w4 ⟨rfl,rfl⟩)))
 all_goals
  go_wp2_with fail
  go_ret
  obtain ⟨os,hos⟩:=HG.out
  refine ⟨rfl,1,?_⟩
  rw[hos,alloc_eq_grow]
  exact ⟨_,by first|rfl|(rw[grow_grow];rfl)|(simp only[grow_grow];rfl)|(unfold grow World.drew World.drewN;simp;rfl)⟩
theorem Qy {base:Nat} {w:World} {v:Value} {l:List Ch} (h:Own Ch.cells 5 53 base w v l) (hl:l.length<4611686018427387904) :
  Calls Tryz.prog 65 #[v,.func (.func 66) #[] #[]] w fun e w'=>e=.returned (.tuple #[])∧∃ l',l'.Perm l∧l'.Pairwise (fun a b=>ltOf (fun x y:Ch=>Tw x y) b a=false)∧Own Ch.cells 5 53 base w' v l'∧Ext (fun b=>v.ownBlock=some b) w w':=by
 have eg:∀ args w,(callFunc 66 args).run Tryz.prog w=.ok (.enter 66 args) w:=enters_of Tryz.func66 (by kernel_rfl) rfl
 refine Tz (fun _=>rfl) (by omega) (fun blk cap d w hH hb hs=>?_) (fun p cap w=>?_) h hl
 ·exact AnyQ.slices_SortFunc Tryz.sortChild 5 Tryz.isAgg53 Tryz.sizeOf53 Ch.cells (fun _=>rfl) (fun x v hv=>by simp[Ch.cells] at hv;rcases hv with rfl|rfl|rfl|rfl|rfl <;> rfl) (fun x y=>Tw x y) Z3b 66 #[] blk 0 cap d w eg (fun _ _ _ _ x y=>Z0C x y _) hH hb hs
 ·exact AnyF.slices_SortFunc_none Tryz.sortChild p cap _ w
end Go.Proofs.YtlgipkemoldckaaGreatDoor
namespace Go.Proofs.YtlgipkemoldckaaGreatDoor
open Go.RowKit
def YC (C:List Ch) (s:St):List Ch:=if s=⟨0,0⟩∨∃ c∈C,c.block=s then C else C++[ZE s]
structure Gth (A:List Ch) (S:St→Prop) (C:List Ch):Prop where
 old:∀ c∈A,c∈C
 new:∀ c∈C,c∈A∨(c=ZE c.block∧c.block≠⟨0,0⟩∧(∀ d∈A,d.block≠c.block)∧S c.block)
 nodup:C.Pairwise (fun a b=>a.block≠b.block)
 all:∀ s,S s→s≠⟨0,0⟩→∃ c∈C,c.block=s
theorem Gth.start {A:List Ch} (h:A.Pairwise (fun a b=>a.block≠b.block)):Gth A (fun _=>False) A :=
 ⟨fun _ h=>h,fun _ h=>.inl h,h,fun _ h=>h.elim⟩
theorem Gth.mono {A:List Ch} {S T:St→Prop} {C:List Ch} (h:Gth A S C) (hs:∀ s,S s↔T s):Gth A T C:=by
 have:S=T:=funext fun s=>propext (hs s)
 rw[←this];exact h
theorem Gth.more {A:List Ch} {S:St→Prop} {C:List Ch} (h:Gth A S C) (s:St):Gth A (fun t=>S t∨t=s) (YC C s):=by
 unfold YC
 split
 ·rename_i hc
  refine ⟨h.old,fun c hc'=>?_,h.nodup,fun t ht hn=>?_⟩
  ·rcases h.new c hc' with k|⟨k1,k2,k3,k4⟩
   ·exact .inl k
   ·exact .inr ⟨k1,k2,k3,.inl k4⟩
  ·rcases ht with ht|rfl
   ·exact h.all t ht hn
   ·rcases hc with hc|hc
    ·exact absurd hc hn
    ·exact hc
 ·rename_i hc
  have h1:s≠⟨0,0⟩:=fun e=>hc (.inl e)
  have h2:∀ c∈C,c.block≠s:=fun c hc' e=>hc (.inr ⟨c,hc',e⟩)
  refine ⟨fun c hc'=>List.mem_append_left _ (h.old c hc'),fun c hc'=>?_,?_,fun t ht hn=>?_⟩
  ·rw[List.mem_append,List.mem_singleton] at hc'
   rcases hc' with hc'|rfl
   ·rcases h.new c hc' with k|⟨k1,k2,k3,k4⟩
    ·exact .inl k
    ·exact .inr ⟨k1,k2,k3,.inl k4⟩
   ·exact .inr ⟨rfl,h1,fun d hd=>h2 d (h.old d hd),.inr rfl⟩
  ·rw[List.pairwise_append]
   refine ⟨h.nodup,List.pairwise_singleton _ _,fun c hc' d hd=>?_⟩
   rw[List.mem_singleton.1 hd]
   exact h2 c hc'
  ·rcases ht with ht|rfl
   ·obtain ⟨c,k1,k2⟩:=h.all t ht hn
    exact ⟨c,List.mem_append_left _ k1,k2⟩
   ·exact ⟨ZE t,by simp,rfl⟩
theorem VL (C:List Ch) (s:St):(YC C s).length≤C.length+1:=by
 unfold YC;split <;> simp
theorem Gth.full {l:List El} {h:Zk} {A C:List Ch} (hA:Zo h A) (hk:ZZ h) (g:Gth A (fun s=>X6 l s=true∨∃ d∈A,d.under=s) C):∀ c,c∈C↔Y6 l h A c.block=some c:=by
 intro c
 have hin:∀ d,d∈A↔h d.block=some d:=hA.1
 constructor
 ·intro hc
  rcases g.new c hc with k|⟨k1,k2,k3,k4⟩
  ·exact Vk ((hin c).1 k)
  ·have e:h c.block=none:=by
    cases e:h c.block with
    | none=>rfl
    | some d =>
     have:=hk _ _ e
     exact absurd this (k3 d ((hin d).2 (by rw[this];exact e)))
   rw[V6 e ⟨k2,k4⟩]
   exact congrArg some k1.symm
 ·intro hc
  cases e:h c.block with
  | some d =>
   rw[Vk e] at hc
   cases hc
   exact g.old _ ((hin _).2 e)
  | none =>
   by_cases k:U0 l A c.block
   ·obtain ⟨d,d1,d2⟩:=g.all _ k.2 k.1
    have hd:d=c:=by
     rw[V6 e k] at hc
     rcases g.new d d1 with j|⟨j1,_⟩
     ·have:=(hin d).1 j
      rw[d2,e] at this;cases this
     ·rw[j1,d2];exact Option.some.inj hc
    rw[←hd];exact d1
   ·rw[WC e k] at hc;cases hc
theorem Gth.allOf {l:List El} {h:Zk} {A C D:List Ch} (hA:Zo h A) (hk:ZZ h) (g:Gth A (fun s=>X6 l s=true∨∃ d∈A,d.under=s) C) (hp:D.Perm C) (hs:D.Pairwise (fun a b=>ZK a.block b.block)):Zo (Y6 l h A) D :=
 ⟨fun c=>hp.mem_iff.trans (g.full hA hk c),hs⟩
theorem Gth.kidsOf {l:List El} {h:Zk} {A C D:List Ch} {u:St} (hA:Zo h A) (hk:ZZ h) (g:Gth A (fun s=>X6 l s=true∨∃ d∈A,d.under=s) C) (hp:D.Perm (C.filter (fun c=>decide (c.under=u)))) (hs:D.Pairwise YA):WL (Y6 l h A) u D :=
 ⟨fun c=>by rw[hp.mem_iff,List.mem_filter,g.full hA hk c,decide_eq_true_eq],hs⟩
structure KM (base:Nat) (W:World) (kb:Nat) (F:St→List Ch) (lk:List (St × Sl)):Prop where
 map:Z6 St.val Sl.val W kb lk
 row:∀ u s,Z3 lk u=some s→Own Ch.cells 5 53 base W s.val (F u)
 non:∀ u,Z3 lk u=none→F u=[]
 far:∀ u u' s s' b,Z3 lk u=some s→Z3 lk u'=some s'→s.val.ownBlock=some b→s'.val.ownBlock=some b→u=u'
def XG (base:Nat) (W:World) (k:Nat):Prop:=base≤k∧∃ cur,W.heap[k]?=some (.cells cur 53 (0,0))
def We (F:St→List Ch) (u:St) (l:List Ch):St→List Ch:=fun k=>if k=u then l else F k
def Z2:Sl:=⟨none,0,0⟩
section
variable {base:Nat} {W W':World} {kb:Nat} {F:St→List Ch} {lk:List (St × Sl)}
theorem KM.blk (h:KM base W kb F lk) {u:St} {s:Sl} (hs:Z3 lk u=some s) {b:Nat} (hb:s.val.ownBlock=some b):XG base W b∧b≠kb:=by
 have ho:=h.row u s hs
 obtain ⟨cur,hc⟩:=ho.tag hb
 obtain ⟨_,es,clock,hm,_⟩:=h.map
 refine ⟨⟨(ho.blk b hb).1,cur,hc⟩,fun e=>?_⟩
 rw[e,hm] at hc
 cases hc
theorem KM.ext {S:Nat→Prop} (h:KM base W kb F lk) (hx:Ext S W W') (hk:¬ S kb) (hr:∀ b,XG base W b→¬ S b):KM base W' kb F lk :=
 ⟨h.map.ext hx hk,fun u s hs=>(h.row u s hs).ext hx (fun b hb=>hr b (h.blk hs hb).1),h.non,h.far⟩
theorem KM.own (h:KM base W kb F lk) (u:St):Own Ch.cells 5 53 base W ((Z3 lk u).getD Z2).val (F u):=by
 cases e:Z3 lk u with
 | some s=>exact h.row u s e
 | none =>
  rw[h.non u e]
  exact Own.nil
theorem KM.put (h:KM base W kb F lk) {u:St} {l:List Ch} {s':Sl} {W2 W3 W4:World} (hx12:Ext (·=kb) W W2) (hx3:Ext (fun b=>((Z3 lk u).getD Z2).val.ownBlock=some b) W2 W3) (hown:Own Ch.cells 5 53 base W3 s'.val l)
  (hfr:∀ b,s'.val.ownBlock=some b→((Z3 lk u).getD Z2).val.ownBlock=some b∨W2.heap.size≤b) (hx4:Ext (·=kb) W3 W4) (hm:Z6 St.val Sl.val W4 kb (Zw lk u s')) :
  KM base W4 kb (We F u l) (Zw lk u s'):=by
 have hkb:=h.map.lt
 have hsz2:=hx12.size
 have h0:∀ b,((Z3 lk u).getD Z2).val.ownBlock=some b→XG base W b∧b≠kb:=fun b hb=>by
  cases e:Z3 lk u with
  | some s=>rw[e] at hb;exact h.blk e hb
  | none=>rw[e] at hb;cases hb
 have hne:∀ b,s'.val.ownBlock=some b→b≠kb:=fun b hb e=>by
  rcases hfr b hb with h1|h1
  ·exact (h0 b h1).2 e
  ·omega
 have hoth:∀ k s b,k≠u→Z3 lk k=some s→s.val.ownBlock=some b→((Z3 lk u).getD Z2).val.ownBlock≠some b:=fun k s b hk hs hb e=>by
  cases e2:Z3 lk u with
  | some s0=>rw[e2] at e;exact hk (h.far k u s s0 b hs e2 hb e)
  | none=>rw[e2] at e;cases e
 have hlt:∀ k s b,Z3 lk k=some s→s.val.ownBlock=some b→b<W.heap.size:=fun k s b hs hb=>((h.row k s hs).blk b hb).2
 refine ⟨hm,fun k s hs=>?_,fun k hs=>?_,fun k k' s t b hs ht hb hb'=>?_⟩
 ·by_cases hk:k=u
  ·subst hk
   rw[ZW] at hs
   cases hs
   rw[We,if_pos rfl]
   exact hown.ext hx4 (fun b hb=>hne b hb)
  ·rw[ZF _ _ (Ne.symm hk)] at hs
   rw[We,if_neg hk]
   have o1:=(h.row k s hs).ext hx12 (fun b hb=>(h.blk hs hb).2)
   have o2:=o1.ext hx3 (fun b hb e=>hoth k s b hk hs hb e)
   exact o2.ext hx4 (fun b hb=>(h.blk hs hb).2)
 ·by_cases hk:k=u
  ·subst hk
   rw[ZW] at hs
   cases hs
  ·rw[ZF _ _ (Ne.symm hk)] at hs
   rw[We,if_neg hk]
   exact h.non k hs
 ·have sep:∀ k s,k≠u→Z3 lk k=some s→s.val.ownBlock=some b→s'.val.ownBlock≠some b:=fun k s hk hs hb e=>by
   rcases hfr b e with h1|h1
   ·exact hoth k s b hk hs hb h1
   ·have:=hlt k s b hs hb;omega
  by_cases hk:k=u <;> by_cases hk':k'=u
  ·rw[hk,hk']
  ·subst hk
   rw[ZW] at hs
   rw[ZF _ _ (Ne.symm hk')] at ht
   cases hs
   exact absurd hb (sep k' t hk' ht hb')
  ·subst hk'
   rw[ZW] at ht
   rw[ZF _ _ (Ne.symm hk)] at hs
   cases ht
   exact absurd hb' (sep k s hk hs hb)
  ·rw[ZF _ _ (Ne.symm hk)] at hs
   rw[ZF _ _ (Ne.symm hk')] at ht
   exact h.far k k' s t b hs ht hb hb'
theorem KM.sort (h:KM base W kb F lk) {u:St} {s:Sl} {l:List Ch} (hs:Z3 lk u=some s) (hx:Ext (fun b=>s.val.ownBlock=some b) W W') (hown:Own Ch.cells 5 53 base W' s.val l):KM base W' kb (We F u l) lk:=by
 refine ⟨h.map.ext hx (fun e=>(h.blk hs e).2 rfl),fun k t ht=>?_,fun k ht=>?_,h.far⟩
 ·by_cases hk:k=u
  ·subst hk
   rw[hs] at ht
   cases ht
   rw[We,if_pos rfl]
   exact hown
  ·rw[We,if_neg hk]
   exact (h.row k t ht).ext hx (fun b hb e=>hk (h.far k u t s b ht hs hb e))
 ·have hk:k≠u:=fun e=>by rw[e,hs] at ht;cases ht
  rw[We,if_neg hk]
  exact h.non k ht
end
def YH (C:List Ch) (u:St):List Ch:=C.filter (fun c=>decide (c.under=u))
theorem SP (C:List Ch) (c:Ch):YH (C++[c])=We (YH C) c.under (YH C c.under++[c]):=by
 funext u
 unfold YH We
 rw[List.filter_append]
 by_cases h:u=c.under
 ·subst h;simp
 ·simp[h,Ne.symm h]
theorem Tv (C:List Ch) (u:St):(YH C u).length≤C.length:=List.length_filter_le _ _
def XC (W:World) (sb n:Nat) (C:List Ch):Prop:=∃ ls:List (St × Int),Z6 St.val Yy W sb ls∧(∀ u,(Z3 ls u).getD 0=0↔¬ (u=⟨0,0⟩∨∃ c∈C,c.block=u))∧∀ u v,Z3 ls u=some v→0≤v∧v≤n
theorem XC.ext {S:Nat→Prop} {W W':World} {sb n:Nat} {C:List Ch} (h:XC W sb n C) (hx:Ext S W W') (hs:¬ S sb):XC W' sb n C:=by
 obtain ⟨ls,h1,h2⟩:=h
 exact ⟨ls,h1.ext hx hs,h2⟩
theorem Ru {ls:List (St × Int)} {n:Nat} {C C':List Ch} {u:St} (h2:∀ u,(Z3 ls u).getD 0=0↔¬ (u=⟨0,0⟩∨∃ c∈C,c.block=u)) (h3:∀ u v,Z3 ls u=some v→0≤v∧v≤(n:Int)) (hC:∀ k,(∃ c∈C',c.block=k)↔(∃ c∈C,c.block=k)∨k=u) :
  (∀ k,(Z3 (Zw ls u ((Z3 ls u).getD 0+1)) k).getD 0=0↔¬ (k=⟨0,0⟩∨∃ c∈C',c.block=k))∧∀ k v,Z3 (Zw ls u ((Z3 ls u).getD 0+1)) k=some v→0≤v∧v≤((n+1:Nat):Int):=by
 have hb:0≤(Z3 ls u).getD 0∧(Z3 ls u).getD 0≤(n:Int):=by
  cases e:Z3 ls u with
  | none=>simp
  | some v=>exact h3 u v e
 constructor
 ·intro k
  rw[hC k]
  by_cases hk:k=u
  ·subst hk
   rw[ZW]
   simp
   omega
  ·rw[ZF _ _ (Ne.symm hk),h2 k]
   simp[hk]
 ·intro k v hv
  by_cases hk:k=u
  ·subst hk
   rw[ZW] at hv
   cases hv
   omega
  ·rw[ZF _ _ (Ne.symm hk)] at hv
   have:=h3 k v hv
   omega
theorem WS:Tryz.prog.underlying 103=some (.map 23 48):=by kernel_rfl
theorem VG (w:World):(zeroValue 48).run Tryz.prog w=.ok (.slice none 0 0) w:=by kernel_rfl
theorem Wi:Tryz.prog.underlying 48=some (.slice 53):=by kernel_rfl
theorem Z2S {C:List Ch} {s:St} (h:s=⟨0,0⟩∨∃ c∈C,c.block=s):YC C s=C:=if_pos h
theorem Z1i {C:List Ch} {s:St} (h:¬ (s=⟨0,0⟩∨∃ c∈C,c.block=s)):YC C s=C++[ZE s]:=if_neg h
def Z2i (base sb kb n:Nat) (C:List Ch) (s:St) (w:World) (e:Ending) (w':World):Prop :=
 e=.returned (.tuple #[])∧XC w' sb (n+1) (YC C s)∧(∃ lk,KM base w' kb (YH (YC C s)) lk)∧Ext (fun k=>k=sb∨k=kb∨XG base w k) w w'
theorem RQ (base sx sb bx bb kb n:Nat) (C:List Ch) (lk:List (St × Sl)) (sn sr:Int) (w:World) (hsx:w.cell? ⟨sx,0,none⟩=some (.map (some sb))) (hbx:w.cell? ⟨bx,0,none⟩=some (.pointer (some ⟨bb,0,none⟩))) (hbb:w.cell? ⟨bb,2,none⟩=some (.map (some kb)))
  (hS:XC w sb n C) (hK:KM base w kb (YH C) lk) (hne:sb≠kb) (hnx:¬ XG base w bx) (hnb:¬ XG base w bb) (hn:n≤10000) (hC:C.length≤10000) (hbase:base≤w.heap.size) :
  Calls Tryz.prog 64 #[.agg #[.int .i64 sn,.int .i64 sr],.pointer (some ⟨sx,0,none⟩),.pointer (some ⟨bx,0,none⟩)] w fun e w'=>Z2i base sb kb n C ⟨sn,sr⟩ w e w':=by
 obtain ⟨ls,hm,hz,hv⟩:=hS
 have hB0:Below w.heap.size w (w.alloc (.cells #[.int .i64 sn,.int .i64 sr] 23)):=(Below.refl _ _).alloc (Nat.le_refl _) _
 have x0:(w.alloc (.cells #[.int .i64 sn,.int .i64 sr] 23)).cell? ⟨w.heap.size,0,none⟩=some (.int .i64 sn):=by go_simp
 have x1:(w.alloc (.cells #[.int .i64 sn,.int .i64 sr] 23)).cell? ⟨w.heap.size,1,none⟩=some (.int .i64 sr):=by go_simp
 have m1:=hm.below hB0
 have k1:=hK.ext (Ext.of_below (S:=fun _=>False) hB0) (fun f=>f) (fun _ _ f=>f)
 have c1:=Z0 hB0 hsx
 have c2:=Z0 hB0 hbx
 have c3:=Z0 hB0 hbb
 have hlt:=hm.lt
 have hltk:=hK.map.lt
 have hrw:∀ b,XG base (w.alloc (.cells #[.int .i64 sn,.int .i64 sr] 23)) b→b<w.heap.size→XG base w b:=fun b hb hl=>⟨hb.1,by rw[←hB0.block b hl];exact hb.2⟩
 have hrn:¬ XG base (w.alloc (.cells #[.int .i64 sn,.int .i64 sr] 23)) w.heap.size:=fun h=>by
  obtain ⟨_,cur,hc⟩:=h
  have:=hc.symm.trans (World.alloc_heap_new w _)
  cases this
 have HRW:=Lib.hid hrw
 have HRN:=Lib.hid hrn
 have hs1:(w.alloc (.cells #[.int .i64 sn,.int .i64 sr] 23)).heap.size=w.heap.size+1:=by simp
 have hlk:∀ W,Z6 St.val Yy W sb ls→(Instr.lookup 135 (.map (some sb)) (.agg #[.int .i64 sn,.int .i64 sr]) false).run Tryz.prog W=.ok (.int .i64 ((Z3 ls ⟨sn,sr⟩).getD 0)) W:=fun W hW=>by
  have:=hW.lookup ZN Wa U4 ⟨sn,sr⟩
  rw[show ((Z3 ls ⟨sn,sr⟩).map Yy).getD (.int .i64 0)=.int .i64 ((Z3 ls ⟨sn,sr⟩).getD 0) from by cases Z3 ls ⟨sn,sr⟩ <;> rfl] at this
  exact this
 have HB0:=Lib.hid hB0
 have HZ:=Lib.hid hz
 have HV:=Lib.hid hv
 have HLX:=Jh (Zj hbx)
 have HLB:=Jh (Zj hbb)
 clear hsx hbx hbb hm hK hB0 hz hv hrw hrn
 by_cases h0:(Z3 ls ⟨sn,sr⟩).getD 0=0
 ·have hnew:=(HZ.out ⟨sn,sr⟩).1 h0
  have hmp:=Z1i hnew
  have hmp2:∀ k,(∃ c∈C++[ZE ⟨sn,sr⟩],c.block=k)↔(∃ c∈C,c.block=k)∨k=⟨sn,sr⟩:=fun k=>by
   constructor
   ·rintro ⟨c,hc,e⟩
    rcases List.mem_append.1 hc with hc|hc
    ·exact .inl ⟨c,hc,e⟩
    ·rw[List.mem_singleton.1 hc] at e;exact .inr e.symm
   ·rintro (⟨c,hc,e⟩|rfl)
    ·exact ⟨c,List.mem_append_left _ hc,e⟩
    ·exact ⟨ZE ⟨sn,sr⟩,by simp,rfl⟩
  have HSP:=Jh (Ru HZ.out HV.out hmp2)
  rw[h0] at HSP hlk
  have hen:=m1.entry ZN Wa U4 ⟨sn,sr⟩ (0:Int)
  rw[show ((Z3 ls ⟨sn,sr⟩).map Yy).getD (.int .i64 0)=.int .i64 0 from by rw[show (Z3 ls ⟨sn,sr⟩).map Yy=(Z3 ls ⟨sn,sr⟩).map Yy from rfl];revert h0;cases Z3 ls ⟨sn,sr⟩ <;> simp[Yy]] at hen
  obtain ⟨st,es1,cl1,e1,e2,e3,e4⟩:=hen
  have HMP:=Lib.hid hmp
  clear hmp hmp2 hnew h0
  go_enter Tryz.func64,Tryz.ntmps64
  go_upto_region 2 with fail
  generalize w.alloc (.cells #[.int .i64 sn,.int .i64 sr] 23)=w1 at *
  have hsb:sb<w1.heap.size:=by omega
  have hS0:(fun W:World=>W.cell? ⟨sx,0,none⟩=some (.map (some sb))∧W.cell? ⟨w.heap.size,0,none⟩=some (.int .i64 sn)∧W.cell? ⟨w.heap.size,1,none⟩=some (.int .i64 sr)∧(Instr.lookup 135 (.map (some sb)) (.agg #[.int .i64 sn,.int .i64 sr]) false).run Tryz.prog W=.ok (.int .i64 0) W) w1.drew:=⟨c1,x0,x1,hlk _ m1.drew⟩
  refine Zf (fun W:World=>W.cell? ⟨sx,0,none⟩=some (.map (some sb))∧W.cell? ⟨w.heap.size,0,none⟩=some (.int .i64 sn)∧W.cell? ⟨w.heap.size,1,none⟩=some (.int .i64 sr)∧(Instr.lookup 135 (.map (some sb)) (.agg #[.int .i64 sn,.int .i64 sr]) false).run Tryz.prog W=.ok (.int .i64 0) W) (fun i=>i == 6) (by kernel_rfl) ?_
  refine J4 0 8 _ hS0 ?_
  try simp only[Ja]
  refine J4 1 9 _ hS0 ?_
  try simp only[Ja]
  refine J4 2 10 (.int .i64 0) hS0 ?_
  try simp only[Ja]
  refine J4 3 11 (.int .i64 1) hS0 ?_
  try simp only[Ja]
  refine Zl (i:=4) (d:=some 12) (v:=.tuple #[.int .i64 0,.int .i64 st]) (w':=w1.drew.putObj sb (.map es1 cl1)) (by kernel_rfl) rfl rfl (by rfl) (by have q:(Instr.mapEntry 135 (.map (some sb)) (.agg #[.int .i64 sn,.int .i64 sr])).run Tryz.prog w1.drew=_:=e1 w1.drew rfl;go_simp;try rw[q]) (fun _=>?_) ?_
  ·obtain ⟨es0,k0,hb0,-⟩:=m1.2
   exact ⟨(YG hb0 _ _ _).trans c1,(YG hb0 _ _ _).trans x0,(YG hb0 _ _ _).trans x1,e3 _ (World.putObj_heap_same hsb)⟩
  try simp only[Ja]
  obtain ⟨es2,cl2,f1,f2⟩:=e4 (w1.drew.putObj sb (.map es1 cl1)) (1:Int) (World.putObj_heap_same hsb)
  have hS1:(fun W:World=>W.cell? ⟨sx,0,none⟩=some (.map (some sb))∧W.cell? ⟨w.heap.size,0,none⟩=some (.int .i64 sn)∧W.cell? ⟨w.heap.size,1,none⟩=some (.int .i64 sr)∧(Instr.lookup 135 (.map (some sb)) (.agg #[.int .i64 sn,.int .i64 sr]) false).run Tryz.prog W=.ok (.int .i64 0) W) (w1.drew.putObj sb (.map es1 cl1)):=by
   obtain ⟨es0,k0,hb0,-⟩:=m1.2
   exact ⟨(YG hb0 _ _ _).trans c1,(YG hb0 _ _ _).trans x0,(YG hb0 _ _ _).trans x1,e3 _ (World.putObj_heap_same hsb)⟩
  refine Zl (i:=5) (d:=some 13) (v:=.int .i64 st) (w':=w1.drew.putObj sb (.map es1 cl1)) (by kernel_rfl) rfl rfl (by rfl) (by go_simp;try rfl) (fun _=>hS1) ?_
  try simp only[Ja]
  refine Zh (i:=6) (d:=none) (w':=(w1.drew.putObj sb (.map es1 cl1)).putObj sb (.map es2 cl2)) (by kernel_rfl) rfl rfl (by rfl) (by have q:(Instr.entryStore 135 (.map (some sb)) (.int .i64 st) (.int .i64 1)).run Tryz.prog (w1.drew.putObj sb (.map es1 cl1))=_:=f1;go_simp;try rw[q]) (fun h=>by cases h) ?_
  try simp only[Ja]
  refine Zd (by kernel_rfl) ?_ _
  have hxa:Ext (·=sb) w1 ((w1.drew.putObj sb (.map es1 cl1)).putObj sb (.map es2 cl2)):=(Ext.refl _ _).drew.trans ((Xv _ _ _).trans (Xv _ _ _))
  rw[show (0:Int)+1=1 from rfl] at HSP
  have HSN:Hid (XC ((w1.drew.putObj sb (.map es1 cl1)).putObj sb (.map es2 cl2)) sb (n+1) (C++[ZE ⟨sn,sr⟩])):=Lib.hid ⟨_,f2,HSP.out.1,HSP.out.2⟩
  have k2:=k1.ext hxa (Ne.symm hne) (fun b hb e=>by
   obtain ⟨es0,k0,hb0,-⟩:=m1.2
   obtain ⟨_,cur,hc⟩:=hb
   rw[e,hb0] at hc
   cases hc)
  have d2:=hxa.keep c2 (fun e=>by
   obtain ⟨es0,k0,hb0,-⟩:=m1.2
   simp only[World.cell?,e,hb0] at c2
   cases c2)
  have d3:=hxa.keep c3 (fun e=>by
   obtain ⟨es0,k0,hb0,-⟩:=m1.2
   simp only[World.cell?,e,hb0] at c3
   cases c3)
  have y0:=hxa.keep x0 (by omega)
  have y1:=hxa.keep x1 (by omega)
  have hza:=hxa.size
  have HXA:=Lib.hid hxa
  have HSN2:=f2.2
  have HM1:=Lib.hid m1.2
  clear hS0 hS1 e1 e2 e3 e4 f1 f2 hlk m1 k1 c1 c2 c3 x0 x1 hxa HSP HZ HV
  generalize (w1.drew.putObj sb (.map es1 cl1)).putObj sb (.map es2 cl2)=w2 at *
  go_upto_region 3 with fail
  obtain ⟨i0,hi,hz0,hz1,hz2⟩:=info_parts Xw
  have hlook:∀ W,W.heap[kb]?=w2.heap[kb]?→(Instr.lookup 103 (.map (some kb)) (.agg #[.int .i64 0,.int .i64 0]) false).run Tryz.prog W=.ok (.slice ((Z3 lk ⟨0,0⟩).getD Z2).a ((Z3 lk ⟨0,0⟩).getD Z2).n ((Z3 lk ⟨0,0⟩).getD Z2).cap) W:=fun W hW=>by
   have:=(k2.map.of_block hW).lookup ZN WS VG ⟨0,0⟩
   rw[show ((Z3 lk ⟨0,0⟩).map Sl.val).getD (.slice none 0 0)=((Z3 lk ⟨0,0⟩).getD Z2).val from by cases Z3 lk ⟨0,0⟩ <;> rfl] at this
   exact this
  have hown0:=k2.own ⟨0,0⟩
  have hfl:=Tv C ⟨0,0⟩
  have hrun0:=Yx (P:=Tryz.prog) 48 48 i0 (.agg #[.int .i64 0,.int .i64 0,.int .i64 0,.int .i64 0,.string ⟨#[]⟩]) 48 Wi hi hz0 hz1 hz2 rfl (by omega) (fun _=>rfl) (fun x u hu=>by simp[Ch.cells] at hu;rcases hu with rfl|rfl|rfl|rfl|rfl <;> rfl) (hown0.drew.alloc (.cells #[.int .i64 sn,.int .i64 sr,.int .i64 0,.int .i64 0,.string ⟨#[]⟩] 53)) (ZE ⟨sn,sr⟩) w2.heap.size 1 (fun j u hj=>by
   match j,hj with
   | 0,hj=>simp[Ch.cells,ZE] at hj;subst hj;go_simp
   | 1,hj=>simp[Ch.cells,ZE] at hj;subst hj;go_simp
   | 2,hj=>simp[Ch.cells,ZE] at hj;subst hj;go_simp
   | 3,hj=>simp[Ch.cells,ZE] at hj;subst hj;go_simp
   | 4,hj=>simp[Ch.cells,ZE] at hj;subst hj;go_simp
   | n+5,hj=>simp[Ch.cells,ZE] at hj) (by unfold maxLen;omega) (by omega) (by simp;omega)
  have hx12:Ext (·=kb) w2 (w2.drew.alloc (.cells #[.int .i64 sn,.int .i64 sr,.int .i64 0,.int .i64 0,.string ⟨#[]⟩] 53)):=(Ext.refl _ _).drew.alloc _
  obtain ⟨v3,w3,hr3,hown3,hx3,hfr3⟩:=hrun0
  obtain ⟨s3,rfl⟩:∃ s3:Sl,v3=.slice s3.a s3.n s3.cap:=by
   rcases hown3.eq_slice with ⟨e,_⟩|⟨g,c,e,_⟩
   ·exact ⟨Z2,e⟩
   ·exact ⟨⟨_,_,_⟩,e⟩
  have hm2:Z6 St.val Sl.val (w2.drew.alloc (.cells #[.int .i64 sn,.int .i64 sr,.int .i64 0,.int .i64 0,.string ⟨#[]⟩] 53)) kb lk:=k2.map.drew.alloc _
  have hm3:Z6 St.val Sl.val w3 kb lk:=hm2.ext hx3 (fun e=>by
   cases e2:Z3 lk ⟨0,0⟩ with
   | some s=>rw[e2] at e;exact (k2.blk e2 e).2 rfl
   | none=>rw[e2] at e;cases e)
  have hupd:(Instr.mapUpdate 103 (.map (some kb)) (.agg #[.int .i64 0,.int .i64 0]) (.slice s3.a s3.n s3.cap)).run Tryz.prog w3=.ok () (Zp w3 kb (Zr lk ⟨0,0⟩) (St.val ⟨0,0⟩) s3.val):=hm3.update ZN WS ⟨0,0⟩ s3.val
  have hfin:=k2.put (l:=YH C ⟨0,0⟩++[ZE ⟨sn,sr⟩]) hx12 hx3 hown3 hfr3 (Xr w3 kb (Zr lk ⟨0,0⟩) (St.val ⟨0,0⟩) s3.val) (hm3.put ⟨0,0⟩ s3)
  have hfil:We (YH C) ⟨0,0⟩ (YH C ⟨0,0⟩++[ZE ⟨sn,sr⟩])=YH (C++[ZE ⟨sn,sr⟩]):=(SP C (ZE ⟨sn,sr⟩)).symm
  rw[hfil] at hfin
  have hxb:Ext (fun k=>k=kb∨XG base w2 k) w2 (Zp w3 kb (Zr lk ⟨0,0⟩) (St.val ⟨0,0⟩) s3.val):=((hx12.mono (fun _ _ e=>.inl e)).andThen hx3 (fun i hi e=>by
   cases e2:Z3 lk ⟨0,0⟩ with
   | some s=>rw[e2] at e;exact .inr (k2.blk e2 e).1
   | none=>rw[e2] at e;cases e)).andThen (Xr w3 kb (Zr lk ⟨0,0⟩) (St.val ⟨0,0⟩) s3.val) (fun i hi e=>.inl e)
  have HFIN:=Lib.hid hfin
  have HXB:=Lib.hid hxb
  obtain ⟨sa,sm,sc,hs0⟩:∃ sa sm sc,(Z3 lk ⟨0,0⟩).getD Z2=⟨sa,sm,sc⟩:=⟨_,_,_,rfl⟩
  rw[hs0] at hlook hr3
  simp only[Sl.val] at hr3
  have hkz:w2.heap[kb]?=w2.drew.heap[kb]?:=rfl
  have hkl:kb<w2.heap.size:=k2.map.lt
  have hrow:∀ b,((Z3 lk ⟨0,0⟩).getD Z2).val.ownBlock=some b→b≠kb∧XG base w2 b∧b≠sb:=fun b hb=>by
   cases e2:Z3 lk ⟨0,0⟩ with
   | some s =>
    rw[e2] at hb
    refine ⟨(k2.blk e2 hb).2,(k2.blk e2 hb).1,fun e=>?_⟩
    obtain ⟨_,cur,hc⟩:=(k2.blk e2 hb).1
    obtain ⟨es0,k0,hb0,-⟩:=HSN2
    rw[e,hb0] at hc
    cases hc
   | none=>rw[e2] at hb;cases hb
  have hback:∀ b,XG base w2 b→b≠sb→b<w1.heap.size→XG base w1 b:=fun b hb hs hl=>⟨hb.1,by rw[←HXA.out.block b hl hs];exact hb.2⟩
  have hbxl:=Zj d2
  have hbbl:=Zj d3
  have hxx:∀ b,b<w.heap.size→¬ XG base w b→¬ (((Z3 lk ⟨0,0⟩).getD Z2).val.ownBlock=some b):=fun b hl hn e=>by
   obtain ⟨_,r1,r2⟩:=hrow b e
   exact hn (HRW.out b (hback b r1 r2 (by omega)) hl)
  have hS3:w3.cell? ⟨bx,0,none⟩=some (.pointer (some ⟨bb,0,none⟩))∧w3.cell? ⟨bb,2,none⟩=some (.map (some kb))∧w3.cell? ⟨w.heap.size,0,none⟩=some (.int .i64 sn)∧w3.cell? ⟨w.heap.size,1,none⟩=some (.int .i64 sr)∧w3.heap[kb]?=w2.heap[kb]?:=by
   have hX:¬ (((Z3 lk ⟨0,0⟩).getD Z2).val.ownBlock=some w.heap.size):=fun e=>by
    obtain ⟨_,r1,r2⟩:=hrow _ e
    exact HRN.out (hback _ r1 r2 (by omega))
   refine ⟨hx3.keep (Z1 d2 _) (hxx _ HLX.out hnx),hx3.keep (Z1 d3 _) (hxx _ HLB.out hnb),hx3.keep (Z1 y0 _) hX,hx3.keep (Z1 y1 _) hX,?_⟩
   exact (hx3.block kb (by simp;exact Nat.lt_succ_of_lt k2.map.lt) (fun e=>(hrow _ e).1 rfl)).trans (Below.heap_alloc _ _ _ k2.map.lt)
  have HS3:=Lib.hid hS3
  clear hS3 hxx hback hrow
  clear hfin hxb hfil hown0 hown3 hx3 hfr3 hm2 hm3 hs0
  have hS0:(fun W:World=>W.cell? ⟨bx,0,none⟩=some (.pointer (some ⟨bb,0,none⟩))∧W.cell? ⟨bb,2,none⟩=some (.map (some kb))∧W.cell? ⟨w.heap.size,0,none⟩=some (.int .i64 sn)∧W.cell? ⟨w.heap.size,1,none⟩=some (.int .i64 sr)∧W.heap[kb]?=w2.heap[kb]?) w2.drew:=⟨d2,d3,y0,y1,rfl⟩
  refine Zf (fun W:World=>W.cell? ⟨bx,0,none⟩=some (.pointer (some ⟨bb,0,none⟩))∧W.cell? ⟨bb,2,none⟩=some (.map (some kb))∧W.cell? ⟨w.heap.size,0,none⟩=some (.int .i64 sn)∧W.cell? ⟨w.heap.size,1,none⟩=some (.int .i64 sr)∧W.heap[kb]?=w2.heap[kb]?) (fun i=>i == 15) (by kernel_rfl) ?_
  refine JR 0 14 _ rfl rfl hS0 (fun W hW=>by obtain ⟨q0,q1,q2,q3,q4⟩:=hW;go_simp;try rfl) ?_
  try simp only[Ja]
  refine JR 1 15 _ rfl rfl hS0 (fun W hW=>by obtain ⟨q0,q1,q2,q3,q4⟩:=hW;go_simp;try rfl) ?_
  try simp only[Ja]
  refine JR 2 16 _ rfl rfl hS0 (fun W hW=>by obtain ⟨q0,q1,q2,q3,q4⟩:=hW;go_simp;try rfl) ?_
  try simp only[Ja]
  refine JR 3 17 (.map (some kb)) rfl rfl hS0 (fun W hW=>by obtain ⟨q0,q1,q2,q3,q4⟩:=hW;go_simp;try rfl) ?_
  try simp only[Ja]
  refine JR 4 18 (.agg #[.int .i64 0,.int .i64 0]) rfl rfl hS0 (fun W hW=>by obtain ⟨q0,q1,q2,q3,q4⟩:=hW;go_simp;try rfl) ?_
  try simp only[Ja]
  refine JR 5 19 _ rfl rfl hS0 (fun W hW=>by obtain ⟨q0,q1,q2,q3,q4⟩:=hW;go_simp;try rfl) ?_
  try simp only[Ja]
  refine JR 6 20 _ rfl rfl hS0 (fun W hW=>by obtain ⟨q0,q1,q2,q3,q4⟩:=hW;go_simp;try rfl) ?_
  try simp only[Ja]
  refine JR 7 21 _ rfl rfl hS0 (fun W hW=>by obtain ⟨q0,q1,q2,q3,q4⟩:=hW;go_simp;try rfl) ?_
  try simp only[Ja]
  refine JR 8 22 (.map (some kb)) rfl rfl hS0 (fun W hW=>by obtain ⟨q0,q1,q2,q3,q4⟩:=hW;go_simp;try rfl) ?_
  try simp only[Ja]
  refine JR 9 23 (.agg #[.int .i64 0,.int .i64 0]) rfl rfl hS0 (fun W hW=>by obtain ⟨q0,q1,q2,q3,q4⟩:=hW;go_simp;try rfl) ?_
  try simp only[Ja]
  refine JR 10 24 (.slice sa sm sc) rfl rfl hS0 (fun W hW=>by obtain ⟨q0,q1,q2,q3,q4⟩:=hW;have q5:=hlook W q4;go_simp;try rfl) ?_
  try simp only[Ja]
  refine JR 11 25 (.agg #[.int .i64 sn,.int .i64 sr]) rfl rfl hS0 (fun W hW=>by obtain ⟨q0,q1,q2,q3,q4⟩:=hW;go_simp;try rfl) ?_
  try simp only[Ja]
  refine JR 12 26 (.agg #[.int .i64 sn,.int .i64 sr,.int .i64 0,.int .i64 0,.string ⟨#[]⟩]) rfl rfl hS0 (fun W hW=>by obtain ⟨q0,q1,q2,q3,q4⟩:=hW;go_simp;try rfl) ?_
  try simp only[Ja]
  refine Zl (i:=13) (d:=some 27) (v:=.slice (some ⟨w2.heap.size,0,none⟩) 1 1) (w':=w2.drew.alloc (.cells #[.int .i64 sn,.int .i64 sr,.int .i64 0,.int .i64 0,.string ⟨#[]⟩] 53)) (by kernel_rfl) rfl rfl (by rfl) (by go_simp;try rfl) (fun _=>⟨Z1 d2 _,Z1 d3 _,Z1 y0 _,Z1 y1 _,Below.heap_alloc _ _ _ hkl⟩) ?_
  try simp only[Ja]
  refine Zl (i:=14) (d:=some 28) (v:=.slice s3.a s3.n s3.cap) (w':=w3) (by kernel_rfl) rfl rfl (by rfl) (Yp rfl rfl rfl hr3) (fun _=>HS3.out) ?_
  try simp only[Ja]
  refine Zh (i:=15) (d:=none) (w':=Zp w3 kb (Zr lk ⟨0,0⟩) (St.val ⟨0,0⟩) s3.val) (by kernel_rfl) rfl rfl (by rfl) (by go_simp;try rw[hupd]) (fun h=>by cases h) ?_
  try simp only[Ja]
  refine Zd (by kernel_rfl) ?_ _
  go_wp2_with fail
  go_end0
  have hbk:∀ b,XG base w2 b→b=sb∨(b<w.heap.size→XG base w b):=fun b hb=>by
   by_cases e:b=sb
   ·exact .inl e
   ·exact .inr (fun hl=>HRW.out b ⟨hb.1,by rw[←HXA.out.block b (by omega) e];exact hb.2⟩ hl)
  have hnsb:¬ XG base w2 sb:=fun h=>by
   obtain ⟨_,cur,hc⟩:=h
   obtain ⟨es0,k0,hb0,-⟩:=HSN2
   rw[hb0] at hc
   cases hc
  refine ⟨rfl,?_,⟨Zw lk ⟨0,0⟩ s3,?_⟩,?_⟩
  ·rw[HMP.out]
   exact HSN.out.ext HXB.out (fun e=>e.elim (fun e=>hne e) (fun e=>hnsb e))
  ·rw[HMP.out]
   exact HFIN.out
  ·refine (((Ext.of_below (S:=fun k=>k=sb∨k=kb∨XG base w k) HB0.out).andThen HXA.out (fun i hi e=>.inl e)).andThen HXB.out (fun i hi e=>?_))
   rcases e with e|e
   ·exact .inr (.inl e)
   ·rcases hbk i e with h|h
    ·exact .inl h
    ·exact .inr (.inr (h hi))
 ·have hin:(⟨sn,sr⟩:St)=⟨0,0⟩∨∃ c∈C,c.block=⟨sn,sr⟩:=Classical.byContradiction (fun h=>h0 ((HZ.out ⟨sn,sr⟩).2 h))
  have hmp:=Z2S hin
  generalize (Z3 ls ⟨sn,sr⟩).getD 0=q at hlk h0
  have hlk1:=hlk _ m1
  have HLK:=Lib.hid hlk
  clear hin hlk
  go_enter Tryz.func64,Tryz.ntmps64
  go_wp2_with fail
  go_end0
  refine ⟨rfl,?_,⟨lk,?_⟩,?_⟩
  ·rw[hmp]
   refine ⟨ls,m1,HZ.out,fun u v h=>?_⟩
   have:=HV.out u v h
   omega
  ·rw[hmp];exact k1
  ·exact Ext.of_below HB0.out
end Go.Proofs.YtlgipkemoldckaaGreatDoor
