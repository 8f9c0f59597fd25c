/- OplogAnew, part 3 of what the proof leans on (made short by a program). -/
import Derived.Test.YtgmdimbiipemhaaGreatDoorAnZ2
import Derived.OneCell
import Derived.Stop.Asserts
set_option linter.unusedSimpArgs false
set_option linter.unusedVariables false
set_option linter.unusedSectionVars false
set_option maxRecDepth 20000
set_option maxHeartbeats 30000000
namespace Go.Proofs.YtgmdimbiipemhaaGreatDoor
open Go.RowKit Go.Deep
theorem Zi:(Tryz.prog.info? 5).map (·.size)=some 1:=by kernel_rfl
theorem Z2t:(Tryz.prog.info? 3).map (·.size)=some 1:=by kernel_rfl
theorem Z1P:(Tryz.prog.info? 4).map (·.size)=some 1:=by kernel_rfl
theorem WU (b o j:Nat):(⟨b,o,none⟩:Addr).add j=⟨b,o+j,none⟩:=by unfold Addr.add;split <;> simp_all
theorem ZE {P:Program} {α:Type} {ea:α→List Value} {q:Nat} {t e:TypeId} (ht:P.underlying t=some (.slice e)) (hsz:(P.info? e).map (·.size)=some q) (a:Option Addr) (n cap p:Nat) (hn:n≤cap) (hp:p≤n) :
  ∃ a' c',(∀ W,(Instr.slice t (.slice a n cap) (some (.int .i64 (p:Int))) none none).run P W=.ok (.slice a' (n - p) c') W)∧(∀ W (l:List α),l.length=n→Z0 ea q W (.slice a n cap) l→Z0 ea q W (.slice a' (n - p) c') (l.drop p))∧(∀ ad,a'=some ad→∃ ad0,a=some ad0∧ad.block=ad0.block):=by
 obtain ⟨i,hi,hq⟩:∃ i,P.info? e=some i∧i.size=q:=by
  cases h:P.info? e with
  | none=>rw[h] at hsz;cases hsz
  | some i=>rw[h] at hsz;exact ⟨i,rfl,Option.some.inj hsz⟩
 refine ⟨if cap=p then a else a.map (·.add (p*q)),cap - p,fun W=>?_,fun W l hl h=>?_,fun ad h=>?_⟩
 ·simp[Instr.slice,Instr.sliceBounds,Instr.sliceBound,asIntOf,run_underlying ht,sizeOf,typeInfo,hi,hq,hp,hn]
 ·obtain ⟨a2,c2,e2,h1,h2,h3⟩:=h
  cases e2
  refine ⟨_,_,by rw[List.length_drop],by rw[List.length_drop];omega,by omega,fun hne=>?_⟩
  have hlt:p<l.length:=by
   rcases Nat.lt_or_ge p l.length with h|h
   ·exact h
   ·exact absurd (List.drop_eq_nil_of_le (by omega)) hne
  have hl0:l≠[]:=by rintro rfl;simp at hne
  obtain ⟨b,off,rfl,h4⟩:=h3 hl0
  rw[if_neg (by omega)]
  refine ⟨b,off+p*q,by simp[WU],fun i x hi' j u hj=>?_⟩
  rw[List.getElem?_drop] at hi'
  have h5:=h4 (p+i) x hi' j u hj
  rw[Nat.add_mul] at h5
  rw[show off+p*q+i*q+j=off+(p*q+i*q)+j by omega]
  exact h5
 ·split at h
  ·exact ⟨ad,h,rfl⟩
  ·cases a with
   | none=>cases h
   | some a0=>cases h;exact ⟨a0,rfl,by unfold Addr.add;split <;> rfl⟩
theorem WJ {B:Nat} {w w':World} (h:Below B w w') {b o:Nat} {v:Value} (hc:w.cell? ⟨b,o,none⟩=some v) (hb:b<B):w'.cell? ⟨b,o,none⟩=some v:=(World.cell?_of_block (h.block b hb)).trans hc
theorem Vr {B:Nat} {w w':World} (h:Below B w w'):Ext (fun k=>B≤k) w w':=⟨h.os,h.tape,h.output,h.size,fun k hk hn=>h.block k (by omega)⟩
theorem Z0.of1 {α:Type} {ea:α→List Value} {q:Nat} {w w':World} {bb oo n cap:Nat} {l:List α} (h:Z0 ea q w (.slice (some ⟨bb,oo,none⟩) n cap) l) (hb:∀ o u,w.cell? ⟨bb,o,none⟩=some u→w'.cell? ⟨bb,o,none⟩=some u):Z0 ea q w' (.slice (some ⟨bb,oo,none⟩) n cap) l:=by
 obtain ⟨a,c,e,h2,h3,h4⟩:=h
 cases e
 exact ⟨_,_,rfl,h2,h3,fun hl=>by obtain ⟨b,off,e5,h6⟩:=h4 hl;cases e5;exact ⟨_,_,rfl,fun i x hi j u hj=>hb _ _ (h6 i x hi j u hj)⟩⟩
theorem Z2V {base:Nat} {w0 w:World} {v vx:Value} {out ys:List Bool} (ho:Own btc 1 4 base w v out) (hb:Below base w0 w) (hx:Z0 btc 1 w vx ys) (hbase:base≤w.heap.size) (hl:out.length+ys.length≤1000000000000) :
  ∃ (s:Sl) (w':World),(Builtin.append_ #[75,75] 75 #[v,vx]).run Tryz.prog w=.ok (.slice s.a s.n s.cap) w'∧Own btc 1 4 base w' (.slice s.a s.n s.cap) (out++ys)∧Below base w0 w'∧base≤w'.heap.size:=by
 obtain ⟨i0,hi,hz0,hz1,hz2⟩:=info_parts UF
 obtain ⟨v',w',hr,ho2,hx2⟩:=Yl (P:=Tryz.prog) 75 75 i0 _ 1 Tryz.underlying75 hi hz0 hz1 hz2 rfl (by omega) ZX VC ho hx (by unfold maxLen;omega) (by omega) hbase
 obtain ⟨s,rfl⟩:=ho2.sl
 exact ⟨s,w',hr,ho2,Ext.new hb hx2 (fun i hi _ e=>by have:=(ho.blk i e).1;omega) hbase,Nat.le_trans hbase hx2.size⟩
theorem RU {base:Nat} {w0 w:World} {v vx:Value} {out ys:List Int} (ho:Own Zh 1 3 base w v out) (hb:Below base w0 w) (hx:Z0 Zh 1 w vx ys) (hbase:base≤w.heap.size) (hl:out.length+ys.length≤1000000000000) :
  ∃ (s:Sl) (w':World),(Builtin.append_ #[100,100] 100 #[v,vx]).run Tryz.prog w=.ok (.slice s.a s.n s.cap) w'∧Own Zh 1 3 base w' (.slice s.a s.n s.cap) (out++ys)∧Below base w0 w'∧base≤w'.heap.size:=by
 obtain ⟨i0,hi,hz0,hz1,hz2⟩:=info_parts Wa
 obtain ⟨v',w',hr,ho2,hx2⟩:=Yl (P:=Tryz.prog) 100 100 i0 _ 8 Tryz.underlying100 hi hz0 hz1 hz2 rfl (by omega) Zg XF ho hx (by unfold maxLen;omega) (by omega) hbase
 obtain ⟨s,rfl⟩:=ho2.sl
 exact ⟨s,w',hr,ho2,Ext.new hb hx2 (fun i hi _ e=>by have:=(ho.blk i e).1;omega) hbase,Nat.le_trans hbase hx2.size⟩
def Z6d (w:World) (b:List UInt8) (n:Nat) (e:Ending) (w':World):Prop:=(∃ l u v,Xl n false true b=some (l,u)∧e=.returned (.tuple #[v,.int .i64 (u:Nat),.int .i64 0])∧Own btc 1 4 w.heap.size w' v l∧Below w.heap.size w w') ∨
 (Xl n false true b=none∧e=.returned (.tuple #[.slice none 0 0,.int .i64 0,.int .i64 41])∧Below w.heap.size w w')
def Z5y (w:World) (b:List UInt8) (n:Nat) (e:Ending) (w':World):Prop:=(∃ l u v,YT n none b=some (l,u)∧e=.returned (.tuple #[v,.int .i64 (u:Nat),.int .i64 0])∧Own Zh 1 3 w.heap.size w' v l∧Below w.heap.size w w') ∨
 (YT n none b=none∧e=.returned (.tuple #[.slice none 0 0,.int .i64 0,.int .i64 41])∧Below w.heap.size w w')
theorem Tr:ZA []=none:=VO.2 (fun n h=>Wl n (List.prefix_nil.1 h.2))
theorem Z0.drop1 {w:World} {ad:Addr} {cap p:Nat} {l:List UInt8} (h:Z0 u8c 1 w (.slice (some ad) l.length cap) l) (hp:p≤l.length):Z0 u8c 1 w (.slice (some (ad.add p)) (l.length - p) (cap - p)) (l.drop p):=by
 obtain ⟨a',cap',e,h1,h2,h3⟩:=h
 cases e
 refine ⟨_,cap - p,by rw[List.length_drop],by rw[List.length_drop];omega,by unfold maxLen at h2 ⊢;omega,fun hne=>?_⟩
 obtain ⟨b,off,e,h4⟩:=h3 (fun e=>hne (by rw[e];simp))
 cases e
 refine ⟨b,off+p,by unfold Addr.add;split <;> simp_all,fun i x hi j u hj=>?_⟩
 rw[List.getElem?_drop] at hi
 have:=h4 (p+i) x hi j u hj
 rw[show off+p+i*1+j=off+(p+i)*1+j by omega]
 exact this
def Wv (c:Nat):Nat:=if c≤16 then c else if c≤18 then c+3 else c+4
theorem Z72 {c d:Nat} (hc:c<21) (hd:d<21) (h:Wv c=Wv d):c=d:=by
 unfold Wv at h
 split at h <;> split at h <;> try split at h
 all_goals (try split at h) <;> omega
theorem Z48 {c:Nat} (hc:c<21):Wv c<26:=by unfold Wv;split <;> (try split) <;> omega
def dlt (c:Nat):Bool:=c == 0 || (decide (2≤c) && decide (c<10)) || c == 11
def fld (o:OpD):Nat→Int
 | 0=>o.id.n
 | 1=>o.id.r
 | 2=>o.d0
 | 3=>o.d1
 | 4=>o.d2
 | 5=>o.d3
 | 6=>o.d4
 | 7=>o.d5
 | 8=>o.d6
 | 9=>o.d7
 | 10=>o.kind
 | 11=>o.ref.n
 | 12=>o.ref.r
 | 13=>o.side
 | 14=>o.ch
 | 15=>o.under.n
 | 16=>o.under.r
 | 17=>o.fr.n
 | 18=>o.fr.r
 | 19=>o.tr.n
 | _=>o.tr.r
def OpD.withF (o:OpD) (f:Nat→Int):OpD:=⟨⟨f 0,f 1⟩,f 2,f 3,f 4,f 5,f 6,f 7,f 8,f 9,f 10,⟨f 11,f 12⟩,f 13,f 14,⟨f 15,f 16⟩,o.key,o.name,o.value,⟨f 17,f 18⟩,o.fa,⟨f 19,f 20⟩,o.ta⟩
theorem Z1V (o:OpD) (f:Nat→Int) {c:Nat} (hc:c<21):fld (o.withF f) c=f c:=by
 match c,hc with
 | 0,_=>rfl
 | 1,_=>rfl
 | 2,_=>rfl
 | 3,_=>rfl
 | 4,_=>rfl
 | 5,_=>rfl
 | 6,_=>rfl
 | 7,_=>rfl
 | 8,_=>rfl
 | 9,_=>rfl
 | 10,_=>rfl
 | 11,_=>rfl
 | 12,_=>rfl
 | 13,_=>rfl
 | 14,_=>rfl
 | 15,_=>rfl
 | 16,_=>rfl
 | 17,_=>rfl
 | 18,_=>rfl
 | 19,_=>rfl
 | 20,_=>rfl
 | n+21,h=>exact absurd h (by omega)
structure At (b off:Nat) (o:OpD) (g:Nat→Int) (W:World):Prop where
 num:∀ c,c<21→W.cell? ⟨b,off+Wv c,none⟩=some (.int .i64 (g c))
 key:W.cell? ⟨b,off+17,none⟩=some (.string o.key)
 name:W.cell? ⟨b,off+18,none⟩=some (.string o.name)
 value:W.cell? ⟨b,off+19,none⟩=some (.string o.value)
 fa:W.cell? ⟨b,off+22,none⟩=some (.bool o.fa)
 ta:W.cell? ⟨b,off+25,none⟩=some (.bool o.ta)
 free:∀ j,j<26→W.frozen? ⟨b,off+j,none⟩=false
theorem At.cells {b off:Nat} {o:OpD} {g:Nat→Int} {W:World} (h:At b off o g W):∀ j u,(o.withF g).cells[j]?=some u→W.cell? ⟨b,off+j,none⟩=some u:=by
 intro j u hj
 have hlt:=(List.getElem?_eq_some_iff.1 hj).1
 rw[OpD.len] at hlt
 match j,hlt with
 | 0,_=>cases hj;exact h.num 0 (by omega)
 | 1,_=>cases hj;exact h.num 1 (by omega)
 | 2,_=>cases hj;exact h.num 2 (by omega)
 | 3,_=>cases hj;exact h.num 3 (by omega)
 | 4,_=>cases hj;exact h.num 4 (by omega)
 | 5,_=>cases hj;exact h.num 5 (by omega)
 | 6,_=>cases hj;exact h.num 6 (by omega)
 | 7,_=>cases hj;exact h.num 7 (by omega)
 | 8,_=>cases hj;exact h.num 8 (by omega)
 | 9,_=>cases hj;exact h.num 9 (by omega)
 | 10,_=>cases hj;exact h.num 10 (by omega)
 | 11,_=>cases hj;exact h.num 11 (by omega)
 | 12,_=>cases hj;exact h.num 12 (by omega)
 | 13,_=>cases hj;exact h.num 13 (by omega)
 | 14,_=>cases hj;exact h.num 14 (by omega)
 | 15,_=>cases hj;exact h.num 15 (by omega)
 | 16,_=>cases hj;exact h.num 16 (by omega)
 | 17,_=>cases hj;exact h.key
 | 18,_=>cases hj;exact h.name
 | 19,_=>cases hj;exact h.value
 | 20,_=>cases hj;exact h.num 17 (by omega)
 | 21,_=>cases hj;exact h.num 18 (by omega)
 | 22,_=>cases hj;exact h.fa
 | 23,_=>cases hj;exact h.num 19 (by omega)
 | 24,_=>cases hj;exact h.num 20 (by omega)
 | 25,_=>cases hj;exact h.ta
theorem At.of_cells {b off:Nat} {o:OpD} {W:World} (h:∀ j u,o.cells[j]?=some u→W.cell? ⟨b,off+j,none⟩=some u) (hf:∀ j,j<26→W.frozen? ⟨b,off+j,none⟩=false):At b off o (fld o) W :=
 ⟨fun c hc=>h _ _ (by
  match c,hc with
  | 0,_=>rfl
  | 1,_=>rfl
  | 2,_=>rfl
  | 3,_=>rfl
  | 4,_=>rfl
  | 5,_=>rfl
  | 6,_=>rfl
  | 7,_=>rfl
  | 8,_=>rfl
  | 9,_=>rfl
  | 10,_=>rfl
  | 11,_=>rfl
  | 12,_=>rfl
  | 13,_=>rfl
  | 14,_=>rfl
  | 15,_=>rfl
  | 16,_=>rfl
  | 17,_=>rfl
  | 18,_=>rfl
  | 19,_=>rfl
  | 20,_=>rfl
  | n+21,h=>exact absurd h (by omega)),h 17 _ rfl,h 18 _ rfl,h 19 _ rfl,h 22 _ rfl,h 25 _ rfl,hf⟩
theorem At.of_same {b off:Nat} {o:OpD} {g:Nat→Int} {W W':World} (h:At b off o g W) (hc:∀ q,W'.cell? ⟨b,q,none⟩=W.cell? ⟨b,q,none⟩) (hf:∀ q,W'.frozen? ⟨b,q,none⟩=W.frozen? ⟨b,q,none⟩):At b off o g W' :=
 ⟨fun c h1=>(hc _).trans (h.num c h1),(hc _).trans h.key,(hc _).trans h.name,(hc _).trans h.value,(hc _).trans h.fa,(hc _).trans h.ta,fun j h1=>(hf _).trans (h.free j h1)⟩
theorem At.lt {b off:Nat} {o:OpD} {g:Nat→Int} {W:World} (h:At b off o g W):b<W.heap.size:=Zq h.key
theorem At.ext {b off:Nat} {o:OpD} {g:Nat→Int} {W W':World} {S:Nat→Prop} (h:At b off o g W) (hx:Ext S W W') (hn:¬ S b):At b off o g W' :=
 h.of_same (fun q=>hx.cell (p:=⟨b,q,none⟩) h.lt hn) (fun q=>hx.frozen (p:=⟨b,q,none⟩) h.lt hn)
theorem At.put {b off:Nat} {o:OpD} {g:Nat→Int} {W W':World} (h:At b off o g W) {c:Nat} (hc:c<21) {x:Int} (h1:W'.cell? ⟨b,off+Wv c,none⟩=some (.int .i64 x)) (h2:∀ q,q≠off+Wv c→W'.cell? ⟨b,q,none⟩=W.cell? ⟨b,q,none⟩) (h3:∀ q,W'.frozen? ⟨b,q,none⟩=W.frozen? ⟨b,q,none⟩) :
  At b off o (fun d=>if d=c then x else g d) W':=by
 have hne:∀ j,j=17∨j=18∨j=19∨j=22∨j=25→off+j≠off+Wv c:=fun j hj=>by
  unfold Wv
  split <;> (try split) <;> omega
 refine ⟨fun d hd=>?_,(h2 _ (hne _ (by omega))).trans h.key,(h2 _ (hne _ (by omega))).trans h.name,(h2 _ (hne _ (by omega))).trans h.value,(h2 _ (hne _ (by omega))).trans h.fa,(h2 _ (hne _ (by omega))).trans h.ta,fun j hj=>(h3 _).trans (h.free j hj)⟩
 by_cases e:d=c
 ·subst e;rw[if_pos rfl];exact h1
 ·rw[if_neg e,h2 _ (fun e2=>e (Z72 hd hc (by omega)))]
  exact h.num d hd
def stg (f:Nat→Int) (o:OpD) (c:Nat) (d:Nat):Int:=if d<c∧d≠10∧d≠13 then f d else fld o d
theorem Z7c (f:Nat→Int) (o:OpD):stg f o 0=fld o:=by funext d;unfold stg;rw[if_neg (by omega)]
theorem Z8i (f:Nat→Int) (o:OpD) (c:Nat):stg f o c c=fld o c:=by unfold stg;rw[if_neg (by omega)]
theorem Z6z (f:Nat→Int) (o:OpD) {c:Nat} (h1:c≠10) (h2:c≠13):(fun d=>if d=c then f c else stg f o c d)=stg f o (c+1):=by
 funext d
 unfold stg
 by_cases e:d=c
 ·subst e;rw[if_pos rfl,if_pos ⟨by omega,h1,h2⟩]
 ·rw[if_neg e]
  by_cases h:d<c∧d≠10∧d≠13
  ·rw[if_pos h,if_pos ⟨by omega,h.2⟩]
  ·rw[if_neg h,if_neg (by omega)]
theorem Z7d (f:Nat→Int) (o:OpD) {c:Nat} (h:c=10∨c=13):stg f o c=stg f o (c+1):=by
 funext d
 unfold stg
 by_cases h1:d<c∧d≠10∧d≠13
 ·rw[if_pos h1,if_pos ⟨by omega,h1.2⟩]
 ·rw[if_neg h1,if_neg (by omega)]
def Shp (pb:Nat) (W W':World):Prop:=∀ cs t,W.heap[pb]?=some (.cells cs t (0,0))→∃ cs',W'.heap[pb]?=some (.cells cs' t (0,0))∧cs'.size=cs.size
theorem Shp.same {pb:Nat} {W W':World} (h:W'.heap[pb]?=W.heap[pb]?):Shp pb W W':=fun cs t hc=>⟨cs,h.trans hc,rfl⟩
theorem Shp.trans {pb:Nat} {W W' W'':World} (h:Shp pb W W') (k:Shp pb W' W''):Shp pb W W'':=fun cs t hc=>by
 obtain ⟨c1,h1,h2⟩:=h cs t hc
 obtain ⟨c2,h3,h4⟩:=k c1 t h1
 exact ⟨c2,h3,h4.trans h2⟩
theorem Shp.set (W:World) (pb po:Nat) (v:Value):Shp pb W (W.setCell ⟨pb,po,none⟩ v):=fun cs t hc=>⟨_,heap_setCell_same W pb po cs t v hc,by rw[Array.size_setIfInBounds]⟩
def Rst (b off:Nat) (W W':World):Prop:=∀ cs t,W.heap[b]?=some (.cells cs t (0,0))→∃ cs',W'.heap[b]?=some (.cells cs' t (0,0))∧cs'.size=cs.size∧∀ q,(q<off∨off+26≤q)→cs'[q]?=cs[q]?
theorem Rst.refl (b off:Nat) (W:World):Rst b off W W:=fun cs t hc=>⟨cs,hc,rfl,fun _ _=>rfl⟩
theorem Rst.trans {b off:Nat} {W W' W'':World} (h:Rst b off W W') (k:Rst b off W' W''):Rst b off W W'':=fun cs t hc=>by
 obtain ⟨c1,h1,h2,h5⟩:=h cs t hc
 obtain ⟨c2,h3,h4,h6⟩:=k c1 t h1
 exact ⟨c2,h3,h4.trans h2,fun q hq=>(h6 q hq).trans (h5 q hq)⟩
theorem Rst.same {b off:Nat} {W W':World} (h:W'.heap[b]?=W.heap[b]?):Rst b off W W':=fun cs t hc=>⟨cs,h.trans hc,rfl,fun _ _=>rfl⟩
theorem Rst.of_shp {b off po:Nat} {W W':World} (h:Shp b W W') (hq:∀ q,q≠po→W'.cell? ⟨b,q,none⟩=W.cell? ⟨b,q,none⟩) (h1:off≤po) (h2:po<off+26):Rst b off W W':=fun cs t hc=>by
 obtain ⟨c1,h3,h4⟩:=h cs t hc
 refine ⟨c1,h3,h4,fun q hh=>?_⟩
 have h5:=hq q (by omega)
 unfold World.cell? at h5
 rw[h3,hc] at h5
 exact h5
theorem Rst.set (W:World) {b off po:Nat} (v:Value) (h1:off≤po) (h2:po<off+26):Rst b off W (W.setCell ⟨b,po,none⟩ v):=fun cs t hc =>
 ⟨_,heap_setCell_same W b po cs t v hc,by rw[Array.size_setIfInBounds],fun q hh=>by rw[Array.getElem?_setIfInBounds_ne (by omega)]⟩
def RA (P:Program) (gf:Nat) (lb:Array Value) (f fl:Nat→Int) (J:Nat→(Nat→Prop)→World→Prop):Prop :=
 ∀ (c:Nat) (A:Nat→Prop) (W:World) (pb po:Nat),c<21→J c A W→W.cell? ⟨pb,po,none⟩=some (.int .i64 (fl c))→W.frozen? ⟨pb,po,none⟩=false→A pb →
  Calls P gf (#[.pointer (some ⟨pb,po,none⟩),.bool (dlt c)]++lb) W fun e W'=>(∃ v,e=.returned v)∧J (c+1) A W'∧W'.cell? ⟨pb,po,none⟩=some (.int .i64 (f c)) ∧
   (∀ q,q≠po→W'.cell? ⟨pb,q,none⟩=W.cell? ⟨pb,q,none⟩)∧(∀ q,W'.frozen? ⟨pb,q,none⟩=W.frozen? ⟨pb,q,none⟩)∧Ext (fun k=>¬ A k∨k=pb) W W'∧Shp pb W W'
def JOK (b:Nat) (J:Nat→(Nat→Prop)→World→Prop):Prop:=∀ c A A' W W',J c A W→Ext (fun k=>k=b) W W'→(∀ k,A' k→A k∨(W.heap.size≤k∧k<W'.heap.size))→A b→J c A' W'
theorem Z0v {l:List Int} {i:Nat} {x:Int} (hx:l[i]?=some x):Zc (l.drop i)=Z5 (Za x (l.drop i))++Z5 (Yf x)++Zc (l.drop (i+Za x (l.drop i))):=by
 have e:l.drop i=x :: l.drop (i+1):=by
  have hi:=(List.getElem?_eq_some_iff.1 hx)
  rw[←hi.2]
  exact List.drop_eq_getElem_cons hi.1
 have e2:Za x (l.drop i)=Za x (l.drop (i+1))+1:=by rw[e,Za,if_pos rfl]
 rw[e2]
 conv=>lhs;rw[e,Zc]
 congr 2
 rw[List.drop_drop]
 congr 1
 omega
theorem Uc {B:Nat} {w x:World} (h:Below B w x) (n:Nat):Below B w (x.drewN n):=by
 induction n with
 | zero=>exact h
 | succ n ih=>exact ih.drew
theorem TH (v:Value) (l:List Int) (w:World) (h:Z0 Zh 1 w v l) (hn:l.length≤1000000000000) (hin:∀ x∈l,-9223372036854775808≤x∧x≤9223372036854775807):Calls Tryz.prog 108 #[v] w fun e w'=>Xv w (Zc l) e w':=by
 obtain ⟨a,cap,rfl,hcap,hmax,-⟩:=id h
 unfold maxLen at hmax
 have HH:=Lib.hid h
 have HL:=Jh (Uo _ l rfl (by omega) (fun x hx=>VD (hin x hx).1 (hin x hx).2))
 have HIN:=Lib.hid hin
 clear h hin
 go_enter Tryz.func108,Tryz.ntmps108
 go_wp2_with fail
 go_loopg [3,4] l.length (fun g ov iv wr=>∃ (i:Nat) (s:Sl) (out:List UInt8),g=l.length - i∧ov=.slice s.a s.n s.cap∧iv=.int .i64 i∧i≤l.length∧Hid (Zc l=out++Zc (l.drop i))∧Hid (Own u8c 1 5 w.heap.size wr (.slice s.a s.n s.cap) out∧Below w.heap.size w wr))
 case atStart=>exact ⟨0,⟨none,0,0⟩,[],rfl,rfl,rfl,Nat.zero_le _,Lib.hid rfl,Lib.hid ⟨Own.nil,Below.refl _ _⟩⟩
 case round =>
  obtain ⟨i,⟨sa,sn,sc⟩,out,hg,rfl,rfl,hil,HE,HU⟩:=hrel
  dsimp only at HU ⊢
  have HG:=Lib.hid hg
  clear hg
  by_cases hlt:i<l.length
  ·have hi1:(i:Int)<(l.length:Int):=by omega
   obtain ⟨x0,hx0⟩:∃ x,l[i]?=some x:=⟨_,List.getElem?_eq_getElem (by omega)⟩
   have HX0:=Lib.hid hx0
   clear hx0
   go_wp2_with fail
   go_loopg [5] (l.length - i) (fun g kv wx=>∃ k:Nat,g=l.length - k∧kv=.int .i64 k∧i≤k∧k≤l.length∧Hid (k - i≤Za x0 (l.drop i))∧Hid (Own u8c 1 5 w.heap.size wx (.slice sa sn sc) out∧Below w.heap.size w wx))
   case atStart=>exact ⟨i,rfl,rfl,Nat.le_refl _,by omega,Jh (by omega),HU⟩
   case round =>
    obtain ⟨k,hg2,rfl,hik,hkl,HC,HU⟩:=hrel
    have HG2:=Lib.hid hg2
    clear hg2
    have HUN:Hid (∀ n,Own u8c 1 5 w.heap.size (wr.drewN n) (.slice sa sn sc) out∧Below w.heap.size w (wr.drewN n)):=Jh (fun n=>⟨HU.out.1.below1 (Uc (Below.refl _ _) n),Uc HU.out.2 n⟩)
    obtain ⟨bb,o,rfl,c1⟩:=(HH.out.below HU.out.2).at1 HX0.out rfl
    by_cases hk:k<l.length
    ·have hk1:(k:Int)<(l.length:Int):=by omega
     obtain ⟨x,hx⟩:∃ x,l[k]?=some x:=⟨_,List.getElem?_eq_getElem (by omega)⟩
     obtain ⟨bb2,o2,e2,c0⟩:=(HH.out.below HU.out.2).at1 hx rfl
     cases e2
     have HX:=Jh (Ru hik HC.out hx)
     clear hx
     by_cases hxv:x=x0
     ·have HC2:=Jh (HX.out.1 hxv)
      clear HX
      subst hxv
      have hs1:(x == x)=true:=by simp
      go_upto_region 5 with fail
      go_quiet (fail)
      have HN:=Jh (HUN.out nq)
      go_wp2_with fail
      go_roundg (l.length - (k+1))
      case measure=>rw[HG2.out];omega
      case rel=>exact ⟨k+1,rfl,by simp,by omega,by omega,HC2,HN⟩
     ·have HM:=Jh (HX.out.2 hxv)
      have hs1:(x == x0)=false:=by simpa using hxv
      clear hxv
      obtain ⟨m,hm⟩:∃ m,m=k - i:=⟨_,rfl⟩
      have hsub:((k:Nat):Int) - (i:Int)=(m:Int):=by omega
      have hm64:m<18446744073709551616:=by omega
      have hmm:m=Za x0 (l.drop i):=hm.trans HM.out
      have hm0:0<m:=by
       have h1:=HX0.out
       have e:l.drop i=x0 :: l.drop (i+1):=by
        have hi:=(List.getElem?_eq_some_iff.1 h1)
        rw[←hi.2]
        exact List.drop_eq_getElem_cons hi.1
       rw[hmm,e,Za,if_pos rfl]
       omega
      have hki:k=i+m:=by omega
      have hE2:Zc l=((out++Z5 m)++Z5 (Yf x0))++Zc (l.drop (k)):=by rw[HE.out,Z0v HX0.out,←hmm,hki];simp
      have HE2:=Lib.hid hE2
      have hin:=HIN.out x0 (List.mem_of_getElem? HX0.out)
      have hz64:=VD hin.1 hin.2
      have hlen:out.length+(Z5 m).length≤140737488355328∧(out++Z5 m).length+(Z5 (Yf x0)).length≤140737488355328:=by have h1:=HL.out;rw[hE2,List.length_append,List.length_append,List.length_append] at h1;rw[List.length_append];omega
      have HLEN:=Lib.hid hlen
      have HKI:=Jh (show i<k from by omega)
      clear hm hmm hE2 hlen hm0 hki
      go_upto_region 5 with fail
      go_quiet (fail)
      have HN0:=Jh (HUN.out nq)
      generalize wr.drewN nq=W0 at HN0 ⊢
      clear HU HUN hs1 c1 c0
      go_wp2_with fail
      refine (V6 m _ hm64).mono ?_
      rintro e w5 ⟨v5,rfl,hown5,b5⟩
      obtain ⟨⟨ta,tn,tc⟩,w6,hr6,own6,b6,hsz6⟩:=ZF (HN0.out.1.below1 b5) (HN0.out.2.trans (b5.mono HN0.out.2.size)) (hown5.slice Z7) (Nat.le_trans HN0.out.2.size b5.size) HLEN.out.1
      have HN:=Jh (And.intro own6 b6)
      obtain ⟨bb6,o6,e6,c6⟩:=(HH.out.below b6).at1 HX0.out rfl
      cases e6
      clear own6 b6 hown5 b5 hsub
      go_wp2_with (at_builtin;refine Lib.wpList_append_run _ rfl _ _ _ _ rfl _ _ rfl rfl _ _ hr6 ?_)
      clear hr6 c6
      refine (Z2r x0 _ hin.1 hin.2).mono ?_
      rintro e w7 ⟨rfl,rfl⟩
      go_wp2_with fail
      refine (V6 _ _ hz64).mono ?_
      rintro e w8 ⟨v8,rfl,hown8,b8⟩
      obtain ⟨⟨ua,un,uc⟩,w9,hr9,own9,b9,hsz9⟩:=ZF (HN.out.1.below1 b8) (HN.out.2.trans (b8.mono HN.out.2.size)) (hown8.slice Z7) (Nat.le_trans HN.out.2.size b8.size) HLEN.out.2
      have HN2:=Jh (And.intro own9 b9)
      clear own9 b9 hown8 b8 HN HN0 hsz6 hsz9 hin
      go_wp2_with (at_builtin;refine Lib.wpList_append_run _ rfl _ _ _ _ rfl _ _ rfl rfl _ _ hr9 ?_)
      go_roundg (l.length - k)
      case measure=>rw[HG.out];have:=HKI.out;omega
      case rel=>exact ⟨k,⟨ua,un,uc⟩,_,rfl,rfl,rfl,by omega,HE2,HN2⟩
    ·have hkk:k=l.length:=by omega
     have hk1:¬ (k:Int)<(l.length:Int):=by omega
     have hkk2:k=l.length:=hkk
     go_upto_region 5 with fail
     have hS0:(fun _:World=>True) wr.drew:=trivial
     refine Z6 (fun _=>True) (fun _=>false) (by kernel_rfl) ?_
     refine J0 0 11 _ hS0 ?_
     try simp only[Ja]
     refine J0 1 12 _ hS0 ?_
     try simp only[Ja]
     refine J0 2 13 (.int .i64 l.length) hS0 ?_
     try simp only[Ja]
     refine J0 3 14 (.bool false) hS0 ?_
     try simp only[Ja]
     refine J0 4 15 (.bool false) hS0 ?_
     try simp only[Ja]
     refine JO 5 16 rfl rfl hS0 ?_
     try simp only[Ja]
     refine JO 6 17 rfl rfl hS0 ?_
     try simp only[Ja]
     refine JO 7 18 rfl rfl hS0 ?_
     try simp only[Ja]
     refine JO 8 19 rfl rfl hS0 ?_
     try simp only[Ja]
     refine JO 9 20 rfl rfl hS0 ?_
     try simp only[Ja]
     refine JO 10 21 rfl rfl hS0 ?_
     try simp only[Ja]
     refine JO 11 22 rfl rfl hS0 ?_
     try simp only[Ja]
     refine JO 12 23 rfl rfl hS0 ?_
     try simp only[Ja]
     refine JO 13 24 rfl rfl hS0 ?_
     try simp only[Ja]
     refine J0 14 25 (.bool false) hS0 ?_
     try simp only[Ja]
     refine Z3 (by kernel_rfl) ?_ _
     clear hS0
     have HM:Hid (k - i=Za x0 (l.drop i)):=Jh (by have h1:=HC.out;rw[hkk] at h1 ⊢;exact Sd (by omega) h1)
     clear hk hkk hkk2
     obtain ⟨m,hm⟩:∃ m,m=k - i:=⟨_,rfl⟩
     have hsub:((k:Nat):Int) - (i:Int)=(m:Int):=by omega
     have hm64:m<18446744073709551616:=by omega
     have hmm:m=Za x0 (l.drop i):=hm.trans HM.out
     have hm0:0<m:=by
      have h1:=HX0.out
      have e:l.drop i=x0 :: l.drop (i+1):=by
       have hi:=(List.getElem?_eq_some_iff.1 h1)
       rw[←hi.2]
       exact List.drop_eq_getElem_cons hi.1
      rw[hmm,e,Za,if_pos rfl]
      omega
     have hki:k=i+m:=by omega
     have hE2:Zc l=((out++Z5 m)++Z5 (Yf x0))++Zc (l.drop (k)):=by rw[HE.out,Z0v HX0.out,←hmm,hki];simp
     have HE2:=Lib.hid hE2
     have hin:=HIN.out x0 (List.mem_of_getElem? HX0.out)
     have hz64:=VD hin.1 hin.2
     have hlen:out.length+(Z5 m).length≤140737488355328∧(out++Z5 m).length+(Z5 (Yf x0)).length≤140737488355328:=by have h1:=HL.out;rw[hE2,List.length_append,List.length_append,List.length_append] at h1;rw[List.length_append];omega
     have HLEN:=Lib.hid hlen
     have HKI:=Jh (show i<k from by omega)
     clear hm hmm hE2 hlen hm0 hki
     have HN0:=Jh (HUN.out 1)
     change Hid (Own u8c 1 5 w.heap.size wr.drew (.slice sa sn sc) out∧Below w.heap.size w wr.drew) at HN0
     generalize wr.drew=W0 at HN0 ⊢
     clear HU HUN c1
     go_wp2_with fail
     refine (V6 m _ hm64).mono ?_
     rintro e w5 ⟨v5,rfl,hown5,b5⟩
     obtain ⟨⟨ta,tn,tc⟩,w6,hr6,own6,b6,hsz6⟩:=ZF (HN0.out.1.below1 b5) (HN0.out.2.trans (b5.mono HN0.out.2.size)) (hown5.slice Z7) (Nat.le_trans HN0.out.2.size b5.size) HLEN.out.1
     have HN:=Jh (And.intro own6 b6)
     obtain ⟨bb6,o6,e6,c6⟩:=(HH.out.below b6).at1 HX0.out rfl
     cases e6
     clear own6 b6 hown5 b5 hsub
     go_wp2_with (at_builtin;refine Lib.wpList_append_run _ rfl _ _ _ _ rfl _ _ rfl rfl _ _ hr6 ?_)
     clear hr6 c6
     refine (Z2r x0 _ hin.1 hin.2).mono ?_
     rintro e w7 ⟨rfl,rfl⟩
     go_wp2_with fail
     refine (V6 _ _ hz64).mono ?_
     rintro e w8 ⟨v8,rfl,hown8,b8⟩
     obtain ⟨⟨ua,un,uc⟩,w9,hr9,own9,b9,hsz9⟩:=ZF (HN.out.1.below1 b8) (HN.out.2.trans (b8.mono HN.out.2.size)) (hown8.slice Z7) (Nat.le_trans HN.out.2.size b8.size) HLEN.out.2
     have HN2:=Jh (And.intro own9 b9)
     clear own9 b9 hown8 b8 HN HN0 hsz6 hsz9 hin
     go_wp2_with (at_builtin;refine Lib.wpList_append_run _ rfl _ _ _ _ rfl _ _ rfl rfl _ _ hr9 ?_)
     go_roundg (l.length - k)
     case measure=>rw[HG.out];have:=HKI.out;omega
     case rel=>exact ⟨k,⟨ua,un,uc⟩,_,rfl,rfl,rfl,by omega,HE2,HN2⟩
  ·obtain rfl:i=l.length:=by omega
   have hi1:¬ (l.length:Int)<(l.length:Int):=by omega
   have HR:Hid (Zc l=out):=Jh (by rw[HE.out,List.drop_length,Zc,List.append_nil])
   clear hlt
   go_wp2_with fail
   go_ret
   exact ⟨_,rfl,by rw[HR.out];exact HU.out.1,HU.out.2⟩
theorem Q4:∀ (l:List Int) (p x:Int),YP p (l++[x])=YP p l++[Yb (x - (l.getLast?.getD p))]
 | [],p,x=>by simp[YP]
 | y :: l,p,x=>by
  rw[List.cons_append,YP,Q4 l y x,YP,List.cons_append]
  congr 4
  cases l with
  | nil=>rfl
  | cons z l=>simp only[List.getLast?_cons,Option.getD_some]
theorem Z3W {l:List Int} {i:Nat} {x y:Int} (hx:l[i+1]?=some x) (hy:l[i]?=some y):ZG (l.take (i+2))=ZG (l.take (i+1))++[Yb (x - y)]:=by
 have e1:l.take (i+2)=l.take (i+1)++[x]:=by rw[List.take_add_one,hx,Option.toList_some]
 have e2:l.take (i+1)=l.take i++[y]:=by rw[List.take_add_one,hy,Option.toList_some]
 rw[e1]
 cases l with
 | nil=>simp at hx
 | cons z l =>
  rw[List.take_succ_cons] at e2 ⊢
  rw[List.cons_append,ZG,Q4,ZG,List.cons_append]
  have h:=congrArg List.getLast? e2
  rw[List.getLast?_concat] at h
  have:(l.take i).getLast?.getD z=y:=by
   cases hl:l.take i with
   | nil=>rw[hl] at h;simpa using h
   | cons a b=>rw[hl] at h;rw[List.getLast?_cons_cons] at h;rw[h];rfl
  rw[this]
theorem Uj {l:List Int} (h:∀ x∈l,-9223372036854775808≤x∧x≤9223372036854775807):∀ x∈ZG l,-9223372036854775808≤x∧x≤9223372036854775807:=by
 have key:∀ (l:List Int) (p:Int),∀ x∈YP p l,-9223372036854775808≤x∧x≤9223372036854775807:=by
  intro l
  induction l with
  | nil=>intro p x hx;simp[YP] at hx
  | cons y l ih =>
   intro p x hx
   rw[YP] at hx
   rcases List.mem_cons.1 hx with rfl|hx
   ·exact Z2D _
   ·exact ih y x hx
 intro x hx
 cases l with
 | nil=>simp[ZG] at hx
 | cons y l =>
  rw[ZG] at hx
  rcases List.mem_cons.1 hx with rfl|hx
  ·exact h _ (by simp)
  ·exact key _ _ _ hx
theorem Xj:∀ l:List Int,(ZG l).length=l.length:=by
 have key:∀ (l:List Int) (p:Int),(YP p l).length=l.length:=by
  intro l
  induction l with
  | nil=>intro p;rfl
  | cons y l ih=>intro p;rw[YP,List.length_cons,ih,List.length_cons]
 intro l
 cases l with
 | nil=>rfl
 | cons y l=>rw[ZG,List.length_cons,key,List.length_cons]
end Go.Proofs.YtgmdimbiipemhaaGreatDoor
namespace Go.Proofs.YtgmdimbiipemhaaGreatDoor
def txt (o:OpD):Nat→ByteArray
 | 0=>o.key
 | 1=>o.name
 | _=>o.value
def tru (o:OpD):Nat→Bool
 | 0=>o.fa
 | _=>o.ta
def Y8 (l:List OpD) (c:Nat):List Int:=l.map fun o=>fld o c
def WF (l:List OpD) (c:Nat):List UInt8:=if dlt c then Zc (ZG (Y8 l c)) else Zc (Y8 l c)
def Zr (l:List OpD) (c:Nat):List Bool:=l.map fun o=>tru o c
def Zw (l:List OpD) (c:Nat):List Int:=l.map fun o=>((txt o c).size:Int)
def ZC (l:List OpD) (c:Nat):List UInt8:=l.flatMap fun o=>(txt o c).data.toList
def ZN (l:List OpD) (n:Nat):List UInt8:=(List.range n).flatMap (WF l)
def Yw (l:List OpD) (n:Nat):List UInt8:=(List.range n).flatMap fun c=>Yu (Zr l c)
def X9 (l:List OpD) (n:Nat):List UInt8:=(List.range n).flatMap fun c=>Zc (Zw l c)++ZC l c
def Xm (l:List OpD):List UInt8:=Z5 l.length++ZN l 21++Yw l 2++X9 l 3
theorem Wz (l:List OpD) (n:Nat):ZN l (n+1)=ZN l n++WF l n:=by simp[ZN,List.range_succ]
theorem WB (l:List OpD) (n:Nat):Yw l (n+1)=Yw l n++Yu (Zr l n):=by simp[Yw,List.range_succ]
theorem XW (l:List OpD) (n:Nat):X9 l (n+1)=X9 l n++(Zc (Zw l n)++ZC l n):=by simp[X9,List.range_succ]
def OpD.wf (o:OpD):Prop:=(o.key.size≤9223372036854775807∧o.name.size≤9223372036854775807∧o.value.size≤9223372036854775807)∧∀ c,c<21→-9223372036854775808≤fld o c∧fld o c≤9223372036854775807
theorem OpD.right_txt {o:OpD} (h:o.right=true) (c:Nat):(txt o c).size≤64:=by
 have hk:o.kindOk=true:=by
  unfold OpD.right at h
  simp only[Bool.and_eq_true] at h
  exact h.2.2.2
 have hn:∀ {s:ByteArray},YG s=true→s.size≤64:=fun h=>by
  unfold YG at h
  rw[Bool.and_eq_true] at h
  have:=of_decide_eq_true h.1
  omega
 have hv:∀ {s:ByteArray},YB s=true→s.size≤64:=fun h=>by
  unfold YB at h
  rw[Bool.and_eq_true] at h
  have:=of_decide_eq_true h.1
  omega
 have hkey:∀ {s:ByteArray},YS s=true→s.size≤64:=fun h=>by
  unfold YS at h
  rw[Bool.and_eq_true,Bool.and_eq_true] at h
  have:=of_decide_eq_true h.1.1
  omega
 have h0:ZJ.size≤64:=by show 0≤64;omega
 have fin:o.key.size≤64∧o.name.size≤64∧o.value.size≤64:=by
  unfold OpD.kindOk at hk
  split at hk
  ·rw[Bool.and_eq_true] at hk
   have e:=of_decide_eq_true hk.2
   rw[←e]
   exact ⟨h0,h0,h0⟩
  ·split at hk
   ·rw[Bool.and_eq_true] at hk
    have e:=of_decide_eq_true hk.2
    rw[←e]
    exact ⟨h0,h0,h0⟩
   ·split at hk
    ·rw[Bool.and_eq_true] at hk
     have e:=of_decide_eq_true hk.2
     have h1:=hk.1
     unfold OpD.okM at h1
     rw[Bool.and_eq_true] at h1
     have h2:=hkey h1.2
     refine ⟨h2,?_,?_⟩ <;> (rw[←e];exact h0)
    ·split at hk
     ·rw[Bool.and_eq_true] at hk
      have e:=of_decide_eq_true hk.2
      have h1:=hk.1
      unfold OpD.okS at h1
      rw[Bool.and_eq_true,Bool.and_eq_true] at h1
      exact ⟨by rw[←e];exact h0,hn h1.1.2,hv h1.2⟩
     ·split at hk
      ·rw[Bool.and_eq_true] at hk
       have e:=of_decide_eq_true hk.2
       have h1:=hk.1
       unfold OpD.okK at h1
       rw[Bool.and_eq_true,Bool.and_eq_true] at h1
       exact ⟨by rw[←e];exact h0,hn h1.1.2,hv h1.2⟩
      ·cases hk
 unfold txt
 split
 ·exact fin.1
 ·exact fin.2.1
 ·exact fin.2.2
end Go.Proofs.YtgmdimbiipemhaaGreatDoor
namespace Go.Proofs.YtgmdimbiipemhaaGreatDoor
open Go.RowKit Go.Deep
theorem Z1s:∀ (l:List Int) (p:Int),(WD p l).length=l.length
 | [],_=>rfl
 | x :: l,p=>by rw[WD,List.length_cons,Z1s l,List.length_cons]
theorem Tj (l:List Int):(Ye l).length=l.length:=by
 cases l with
 | nil=>rfl
 | cons x l=>rw[Ye,List.length_cons,Z1s,List.length_cons]
theorem Z1M:∀ (l:List Int) (p:Int) (j:Nat) (x y:Int),l[j]?=some x→(p :: WD p l)[j]?=some y→(WD p l)[j]?=some (Yb (x+y))
 | [],_,_,_,_,h,_=>by simp at h
 | z :: l,p,0,x,y,h,h2=>by
  simp at h h2
  subst h h2
  rw[WD];rfl
 | z :: l,p,j+1,x,y,h,h2=>by
  rw[WD] at h2 ⊢
  rw[List.getElem?_cons_succ] at h h2 ⊢
  exact Z1M l _ j x y h h2
theorem Z1I {l:List Int} {j:Nat} {x y:Int} (hx:l[j+1]?=some x) (hy:(Ye l)[j]?=some y):(Ye l)[j+1]?=some (Yb (x+y)):=by
 cases l with
 | nil=>simp at hx
 | cons z l =>
  rw[Ye] at hy ⊢
  rw[List.getElem?_cons_succ] at hx ⊢
  exact Z1M l z j x y hx hy
theorem QZ:∀ (l:List Int) (p:Int) (j:Nat) (x y:Int),l[j]?=some x→(p :: l)[j]?=some y→(YP p l)[j]?=some (Yb (x - y))
 | [],_,_,_,_,h,_=>by simp at h
 | z :: l,p,0,x,y,h,h2=>by
  simp at h h2
  subst h h2
  rw[YP];rfl
 | z :: l,p,j+1,x,y,h,h2=>by
  rw[YP]
  rw[List.getElem?_cons_succ] at h h2 ⊢
  exact QZ l _ j x y h h2
theorem Z4v {l:List Int} {j:Nat} {x y:Int} (hx:l[j+1]?=some x) (hy:l[j]?=some y):(ZG l)[j+1]?=some (Yb (x - y)):=by
 cases l with
 | nil=>simp at hx
 | cons z l =>
  rw[ZG]
  rw[List.getElem?_cons_succ] at hx ⊢
  exact QZ l z j x y hx hy
def XG (a b:List Int) (i:Nat):List Int:=a.take i++b.drop i
theorem Z1C (a b:List Int):XG a b 0=b:=by simp[XG]
theorem QF {a b:List Int} (h:a.length=b.length) {i:Nat} (hi:i≤b.length):(XG a b i).length=b.length:=by simp[XG];omega
theorem Z2u {a b:List Int} (h:a.length=b.length):XG a b b.length=a:=by simp[XG,←h]
theorem TV {a b:List Int} (h:a.length=b.length) {i:Nat} {x:Int} (hx:b[i]?=some x):(XG a b i)[i]?=some x:=by
 have hi:=(List.getElem?_eq_some_iff.1 hx).1
 unfold XG
 rw[List.getElem?_append_right (by simp;omega),List.length_take,Nat.min_eq_left (by omega),Nat.sub_self,List.getElem?_drop]
 exact hx
theorem Z3V {a b:List Int} (h:a.length=b.length) {i j:Nat} {x:Int} (hx:a[j]?=some x) (hj:j<i):(XG a b i)[j]?=some x:=by
 have hi:=(List.getElem?_eq_some_iff.1 hx).1
 unfold XG
 rw[List.getElem?_append_left (by simp;omega),List.getElem?_take,if_pos hj]
 exact hx
theorem Rt {a b:List Int} (h:a.length=b.length) {i:Nat} {x:Int} (hx:a[i]?=some x):(XG a b i).set i x=XG a b (i+1):=by
 have hi:=(List.getElem?_eq_some_iff.1 hx).1
 unfold XG
 rw[List.set_append_right _ _ (by simp;omega),List.length_take,Nat.min_eq_left (by omega),Nat.sub_self,List.take_add_one,hx,Option.toList_some,List.append_assoc]
 congr 1
 have:b.drop i=b[i] :: b.drop (i+1):=List.drop_eq_getElem_cons (by omega)
 rw[this]
 rfl
theorem Z1W {a b:List Int} (h:a.length=b.length) {i:Nat} {x:Int} (hx:a[i]?=some x) (hb:b[i]?=some x):XG a b i=XG a b (i+1):=by
 rw[←Rt h hx]
 apply List.ext_getElem?
 intro k
 rw[List.getElem?_set]
 split
 ·rename_i e
  subst e
  rw[TV h hb]
  have hi:=(List.getElem?_eq_some_iff.1 hb).1
  rw[if_pos (by rw[QF h (by omega)];exact hi)]
 ·rfl
theorem Z0c {l:List Int} {x:Int} (h:l[0]?=some x):(Ye l)[0]?=some x:=by
 cases l with
 | nil=>simp at h
 | cons y l=>rw[Ye];simpa using h
theorem Z43 {l:List Int} {x:Int} (h:l[0]?=some x):(ZG l)[0]?=some x:=by
 cases l with
 | nil=>simp at h
 | cons y l=>rw[ZG];simpa using h
theorem Tc (v:Value) (b:List UInt8) (n:Nat) (w:World) (h:Z0 u8c 1 w v b) (hn0:n≤65536):Calls Tryz.prog 153 #[v,.int .i64 n] w fun e w'=>Z5y w b n e w':=by
 obtain ⟨a,cap,rfl,hcap,hmax,-⟩:=id h
 unfold maxLen at hmax
 have HH:=Lib.hid h
 clear h
 have hn1:¬ (n:Int)<0:=by omega
 have hn2:¬ (65536:Int)<(n:Int):=by omega
 go_enter Tryz.func153,Tryz.ntmps153
 go_wp2_with fail
 go_loopg [7,8] n (fun g lv pv wr=>∃ (s:Sl) (l:List Int) (p:Nat),g=n - l.length∧lv=.slice s.a s.n s.cap∧pv=.int .i64 p∧s.n=l.length∧l.length≤n∧p≤b.length∧Hid (TR b n l p)∧Hid (Own Zh 1 3 w.heap.size wr (.slice s.a s.n s.cap) l∧Below w.heap.size w wr))
 case atStart=>exact ⟨⟨none,0,0⟩,[],0,rfl,rfl,rfl,rfl,Nat.zero_le _,Nat.zero_le _,Jh (TR.zero b n),Lib.hid ⟨Own.nil,Below.refl _ _⟩⟩
 case round =>
  obtain ⟨⟨sa,sn,sc⟩,l,p,hg,rfl,rfl,hsn,hln,hpb,HT,HU⟩:=hrel
  dsimp only at hsn HU ⊢
  subst hsn
  have HG:=Lib.hid hg
  clear hg
  by_cases hlt:l.length<n
  ·have hl1:(l.length:Int)<(n:Int):=by omega
   obtain ⟨a1,c1,hsl,hS1,-⟩:=ZE (P:=Tryz.prog) (ea:=u8c) Tryz.underlying22 Zi a b.length cap p hcap hpb
   have HS:=Jh (hS1 wr b rfl (HH.out.below HU.out.2))
   clear hS1
   go_wp2_with fail
   refine (Vv _ _ _ HS.out).mono ?_
   rintro e w5 ⟨rfl,e5⟩
   rw[←e5]
   clear e5 w5
   cases hk:ZA (b.drop p) with
   | none =>
    have hr:Yg (b.drop p)=.tuple #[.int .u64 0,.int .i64 0,.int .i64 31]:=by unfold Yg;rw[hk]
    have HD:=Jh (HT.out.bad hlt (.inl hk))
    rw[hr]
    have HR:=Lib.hid hr
    clear hk hr
    have hp00:(p:Int)+0=(p:Int):=by omega
    go_wp2_with fail
    refine (Vv _ _ _ HS.out).mono ?_
    rintro e w5 ⟨rfl,e5⟩
    rw[←e5,HR.out]
    clear e5 w5 HS hsl
    go_wp2_with fail
    refine (Z18 0 _ (by omega)).mono ?_
    rintro e w5 ⟨rfl,e5⟩
    rw[←e5]
    clear e5 w5
    go_wp2_with fail
    go_ret3
    exact .inr ⟨HD.out,rfl,HU.out.2⟩
   | some k =>
    have hr:Yg (b.drop p)=.tuple #[.int .u64 k,.int .i64 (Z5 k).length,.int .i64 0]:=by unfold Yg;rw[hk]
    have hk64:=(Zz.1 hk).1
    have hqp:=(Zz.1 hk).2.length_le
    rw[List.length_drop] at hqp
    have hq0:0<(Z5 k).length:=List.length_pos_iff.2 (Wl k)
    rw[hr]
    obtain ⟨q,hq⟩:=Je ((Z5 k).length)
    rw[hq] at hqp hq0 ⊢
    obtain ⟨a2,c2,hsl2,hS2,-⟩:=ZE (P:=Tryz.prog) (ea:=u8c) Tryz.underlying22 Zi a b.length cap (p+q) hcap (by omega)
    have HS2:=Jh (hS2 wr b rfl (HH.out.below HU.out.2))
    simp only[Int.natCast_add] at hsl2
    clear hS2 hr HS hsl
    go_wp2_with fail
    refine (Vv _ _ _ HS2.out).mono ?_
    rintro e w5 ⟨rfl,e5⟩
    rw[←e5]
    clear e5 w5 HS2
    cases hv:ZA (b.drop (p+q)) with
    | none =>
     have hr:Yg (b.drop (p+q))=.tuple #[.int .u64 0,.int .i64 0,.int .i64 31]:=by unfold Yg;rw[hv]
     have HD:=Jh (HT.out.bad hlt (.inr ⟨k,hk,.inl (by rw[hq];exact hv)⟩))
     rw[hr]
     clear hk hr hv hsl2 hq
     go_wp2_with fail
     refine (Z18 0 _ (by omega)).mono ?_
     rintro e w5 ⟨rfl,e5⟩
     rw[←e5]
     clear e5 w5
     go_wp2_with fail
     go_ret3
     exact .inr ⟨HD.out,rfl,HU.out.2⟩
    | some v =>
     have hr:Yg (b.drop (p+q))=.tuple #[.int .u64 v,.int .i64 (Z5 v).length,.int .i64 0]:=by unfold Yg;rw[hv]
     have hv64:=(Zz.1 hv).1
     have hqp2:=(Zz.1 hv).2.length_le
     rw[List.length_drop] at hqp2
     rw[hr]
     have HBAD:=Jh (fun h=>HT.out.bad hlt (.inr ⟨k,hk,.inr ⟨v,by rw[hq];exact hv,h⟩⟩))
     have HSTEP:=Jh (fun h0 h1 h2=>HT.out.step hk (by rw[hq];exact hv) h0 h1 h2)
     rw[hq] at HSTEP
     obtain ⟨q2,hq2⟩:=Je ((Z5 v).length)
     rw[hq2] at hqp2 HSTEP ⊢
     obtain ⟨x,hx⟩:=Je (YL v)
     rw[hx] at HBAD HSTEP
     have hQ:0<q∧p+q+q2≤b.length:=⟨hq0,by omega⟩
     have HQ:=Lib.hid hQ
     have hxin:=Z0F hv64
     rw[hx] at hxin
     clear hr hsl2 hk hv hq hq2 hqp hqp2 hq0 hQ
     go_wp2_with fail
     refine (Z18 v _ hv64).mono ?_
     rintro e w5 ⟨rfl,e5⟩
     rw[←e5,hx]
     clear e5 w5 hx
     obtain ⟨r,hrr⟩:∃ r:Nat,r=n - l.length:=⟨_,rfl⟩
     have hsub:(n:Int) - (l.length:Int)=(r:Int):=by omega
     by_cases hz:k=0
     ·have HD:=Jh (HBAD.out (.inl hz))
      have hz1:((k:Int) == 0)=true:=by rw[hz];rfl
      clear hz hrr hsub HBAD HSTEP
      go_wp2_with fail
      go_ret3
      exact .inr ⟨HD.out,rfl,HU.out.2⟩
     ·have hz1:((k:Int) == 0)=false:=by simpa using hz
      by_cases hkn:r<k
      ·have hk1:(r:Int)<(k:Int):=by omega
       have HD:=Jh (HBAD.out (.inr (.inl (by omega))))
       have hdk:decide (n - l.length<k)=true:=decide_eq_true (by omega)
       clear hz hkn hrr HBAD HSTEP
       go_wp2_with fail
       go_ret3
       exact .inr ⟨HD.out,rfl,HU.out.2⟩
      ·have hk1:¬ (r:Int)<(k:Int):=by omega
       have hdk:decide (n - l.length<k)=false:=decide_eq_false (by omega)
       have hk65:k≤65536:=by omega
       have HKN:Hid (k≤n - l.length∧k≠0):=Lib.hid ⟨by omega,hz⟩
       have hpq:IntKind.i64.wrap ((p:Int)+((q:Int)+(q2:Int)))=((p+q+q2:Nat):Int):=by rw[IntWalk.i64_in _ (by have:=HQ.out;omega)];omega
       have HC:=Jh (Z4y x wr.heap.size 1 k (wr.alloc (.cells #[.int .i64 x] 3)) (Wm wr x 0 _ rfl) hk65 (Nat.le_refl _))
       by_cases hl0:l.length=0
       ·have hl2:¬ (0:Int)<(l.length:Int):=by omega
        have hl3:decide (0<l.length)=false:=decide_eq_false (by omega)
        have HNX:=Jh (HSTEP.out HKN.out.2 HKN.out.1 (by rw[List.eq_nil_of_length_eq_zero hl0];simp))
        clear hz hkn hrr hl0 HBAD HSTEP
        have hqs:=HQ.out.2
        clear hpq
        go_wp2_with fail
        refine HC.out.mono ?_
        rintro e w6 ⟨v6,rfl,hown6,b6⟩
        have hb0:Below w.heap.size w (wr.alloc (.cells #[.int .i64 x] 3)):=HU.out.2.alloc HU.out.2.size _
        obtain ⟨⟨ta,tn,tc⟩,w7,hr7,own7,b7,hsz7⟩:=RU ((HU.out.1.alloc _).below1 b6) (hb0.trans (b6.mono hb0.size)) (hown6.slice Zg) (Nat.le_trans hb0.size b6.size) (by rw[List.length_replicate];omega)
        have HX:=Jh (And.intro own7 b7)
        have HTN:=Jh (own7.nlen Zg).1
        clear own7 b7 hown6 b6 hb0 HC hsz7
        go_wp2_with (at_builtin;refine Lib.wpList_append_run _ rfl _ _ _ _ rfl _ _ rfl rfl _ _ hr7 ?_)
        go_roundg (n - (l++List.replicate k x).length)
        case measure=>rw[HG.out,List.length_append,List.length_replicate];have h1:=HKN.out;omega
        case rel=>exact ⟨⟨ta,tn,tc⟩,l++List.replicate k x,p+q+q2,rfl,rfl,by simp;omega,HTN.out,by rw[List.length_append,List.length_replicate];have h1:=HKN.out.1;omega,HQ.out.2,HNX,HX⟩
       ·obtain ⟨j,hj⟩:∃ j,l.length=j+1:=⟨l.length - 1,by omega⟩
        obtain ⟨y,hy⟩:∃ y,l[j]?=some y:=⟨_,List.getElem?_eq_getElem (by omega)⟩
        have hlast:l.getLast?=some y:=by rw[List.getLast?_eq_getElem?,hj];exact hy
        obtain ⟨bb,oo,rfl,c0⟩:=(HU.out.1.slice Zg).at1 hy rfl
        have hl2:(0:Int)<(l.length:Int):=by omega
        have hl3:decide (0<l.length)=true:=decide_eq_true (by omega)
        have hj1:(l.length:Int) - 1=(j:Int):=by omega
        have hj2:l.length - 1=j:=by omega
        have hj3:(j:Int)<(l.length:Int):=by omega
        clear hj
        by_cases hyx:y=x
        ·have HD:=Jh (HBAD.out (.inr (.inr (by rw[hlast,hyx]))))
         have hyy:(y == x)=true:=by simpa using hyx
         clear hz hkn hrr hl0 HBAD HSTEP hlast hy hyx HC
         go_wp2_with fail
         go_ret3
         exact .inr ⟨HD.out,rfl,HU.out.2⟩
        ·have HNX:=Jh (HSTEP.out HKN.out.2 HKN.out.1 (by rw[hlast];exact fun e=>hyx (Option.some.inj e)))
         have hyy:(y == x)=false:=by simpa using hyx
         clear hz hkn hrr hl0 HBAD HSTEP hlast hy hyx
         have hqs:=HQ.out.2
         clear hpq
         go_wp2_with fail
         refine HC.out.mono ?_
         rintro e w6 ⟨v6,rfl,hown6,b6⟩
         have hb0:Below w.heap.size w (wr.alloc (.cells #[.int .i64 x] 3)):=HU.out.2.alloc HU.out.2.size _
         obtain ⟨⟨ta,tn,tc⟩,w7,hr7,own7,b7,hsz7⟩:=RU ((HU.out.1.alloc _).below1 b6) (hb0.trans (b6.mono hb0.size)) (hown6.slice Zg) (Nat.le_trans hb0.size b6.size) (by rw[List.length_replicate];omega)
         have HX:=Jh (And.intro own7 b7)
         have HTN:=Jh (own7.nlen Zg).1
         clear own7 b7 hown6 b6 hb0 HC hsz7
         go_wp2_with (at_builtin;refine Lib.wpList_append_run _ rfl _ _ _ _ rfl _ _ rfl rfl _ _ hr7 ?_)
         go_roundg (n - (l++List.replicate k x).length)
         case measure=>rw[HG.out,List.length_append,List.length_replicate];have h1:=HKN.out;omega
         case rel=>exact ⟨⟨ta,tn,tc⟩,l++List.replicate k x,p+q+q2,rfl,rfl,by simp;omega,HTN.out,by rw[List.length_append,List.length_replicate];have h1:=HKN.out.1;omega,HQ.out.2,HNX,HX⟩
  ·have hll:l.length=n:=by omega
   have hl1:¬ (l.length:Int)<(n:Int):=by omega
   have HD:=Jh (HT.out.done hll)
   clear hll hlt
   go_wp2_with fail
   go_ret3
   exact .inl ⟨l,p,_,HD.out,rfl,HU.out.1,HU.out.2⟩
noncomputable def VY (n:Nat) (b:List UInt8):Option (List Int × Nat):=(YT n none b).map fun p=>(Ye p.1,p.2)
def Z62 (w:World) (b:List UInt8) (n:Nat) (e:Ending) (w':World):Prop:=(∃ l u v,VY n b=some (l,u)∧e=.returned (.tuple #[v,.int .i64 (u:Nat),.int .i64 0])∧Own Zh 1 3 w.heap.size w' v l∧Below w.heap.size w w') ∨
 (VY n b=none∧e=.returned (.tuple #[.slice none 0 0,.int .i64 0,.int .i64 41])∧Below w.heap.size w w')
theorem Z0G (v:Value) (b:List UInt8) (n:Nat) (w:World) (h:Z0 u8c 1 w v b) (hn0:n≤65536):Calls Tryz.prog 154 #[v,.int .i64 n] w fun e w'=>Z62 w b n e w':=by
 have HC:=Jh (Tc v b n w h hn0)
 clear h
 go_enter Tryz.func154,Tryz.ntmps154
 go_wp2_with fail
 refine HC.out.mono ?_
 rintro e w5 (⟨d,u,v5,hd,rfl,hown,hb⟩|⟨hd,rfl,hb⟩)
 ·obtain ⟨⟨sa,sn,sc⟩,e5⟩:=hown.sl
  dsimp only at e5
  subst e5
  obtain rfl:=(hown.nlen Zg).1
  have hdl:=(Ua n (by omega) none b d u).1 hd
  have hdn:d.length≤65536:=by rcases hdl with ⟨h,_⟩|⟨_,rfl,_⟩;omega;simp
  have HD:=Jh (show VY n b=some (Ye d,u) from by unfold VY;rw[hd];rfl)
  have hsl:=Tj d
  have HSL:=Lib.hid hsl
  have HU:=Jh (And.intro hown hb)
  clear hd hdl hown hb hsl HC hn0
  go_wp2_with fail
  go_loopg [20,10] d.length (fun g kv iv wr=>∃ i:Nat,g=d.length - i∧kv=.int .i64 i∧i≤d.length∧Hid (Own Zh 1 3 w.heap.size wr (.slice sa d.length sc) (XG (Ye d) d i)∧Below w.heap.size w wr))
  case atStart=>exact ⟨0,rfl,rfl,Nat.zero_le _,by rw[Z1C];exact HU⟩
  case round =>
   clear HU
   obtain ⟨i,hg,rfl,hil,HU⟩:=hrel
   have HG:=Lib.hid hg
   clear hg
   by_cases hlt:i<d.length
   ·have hi1:(i:Int)<(d.length:Int):=by omega
    obtain ⟨x,hx⟩:∃ x,d[i]?=some x:=⟨_,List.getElem?_eq_getElem hlt⟩
    cases i with
    | zero =>
     have HN:Hid (Own Zh 1 3 w.heap.size wr (.slice sa d.length sc) (XG (Ye d) d 1)∧Below w.heap.size w wr):=Jh (by rw[←Z1W HSL.out (Z0c hx) hx];exact HU.out)
     clear hx HU
     go_wp2_with fail
     go_roundg (d.length - 1)
     case measure=>rw[HG.out];omega
     case rel=>exact ⟨1,rfl,by simp,by omega,HN⟩
    | succ j =>
     obtain ⟨y,hy⟩:∃ y,(Ye d)[j]?=some y:=⟨_,List.getElem?_eq_getElem (by rw[HSL.out];omega)⟩
     have hs:=Z1I hx hy
     obtain ⟨z,hz⟩:∃ z,z=Yb (x+y):=⟨_,rfl⟩
     rw[←hz] at hs
     have hml:=QF HSL.out (show j+1≤d.length by omega)
     have HO:=HU.out.1
     rw[←hml] at HO
     obtain ⟨bb,hsa⟩:∃ bb,sa=some ⟨bb,0,none⟩:=by
      rcases HO.eq_slice with ⟨e,h⟩|⟨g,c,e,_⟩
      ·rw[h] at hml;simp at hml;omega
      ·cases e;exact ⟨g,rfl⟩
     subst hsa
     have c1:wr.cell? ⟨bb,j+1,none⟩=some (.int .i64 x):=by have:=HO.cellAt Zg (TV HSL.out hx) (j:=0) rfl;rwa [Nat.mul_one,Nat.add_zero] at this
     have c0:wr.cell? ⟨bb,j,none⟩=some (.int .i64 y):=by have:=HO.cellAt Zg (Z3V HSL.out hy (Nat.lt_succ_self j)) (j:=0) rfl;rwa [Nat.mul_one,Nat.add_zero] at this
     have f1:=HO.free (j+1)
     have HN:Hid (Own Zh 1 3 w.heap.size (wr.drew.setCell ⟨bb,j+1,none⟩ (.int .i64 z)) (.slice (some ⟨bb,0,none⟩) d.length sc) (XG (Ye d) d (j+2))∧Below w.heap.size w (wr.drew.setCell ⟨bb,j+1,none⟩ (.int .i64 z))):=Lib.hid ⟨by
      have h1:=Own.setAt (show Own Zh 1 3 w.heap.size wr.drew (.slice (some ⟨bb,0,none⟩) (XG (Ye d) d (j+1)).length sc) (XG (Ye d) d (j+1)) from HO) Zg (i:=j+1) (j:=0) (y:=z) (TV HSL.out hx) (by omega) rfl
      rw[hml,Nat.mul_one,Nat.add_zero,Rt HSL.out hs] at h1
      exact h1,(HU.out.2.drew).setCell (HU.out.1.blk bb rfl).1 _⟩
     have hzz:IntKind.i64.wrap (x+y)=z:=by rw[hz,U4]
     have hj0:IntKind.i64.wrap (j:Int)=(j:Int):=IntWalk.i64_in _ (by omega)
     have hj3:¬ ((j:Int)+1<0):=by omega
     have hj4:(0:Int)≤(j:Int)+1:=by omega
     have hj1:IntKind.i64.wrap (((j+1:Nat):Int) - 1)=(j:Int):=by rw[IntWalk.i64_in _ (by omega)];omega
     have hj2:(j:Int)<(d.length:Int):=by omega
     clear hx hy hs hz hml HO HU
     go_upto_region 6 with fail
     have hS0:(fun W:World=>W.cell? ⟨bb,j+1,none⟩=some (.int .i64 x)∧W.cell? ⟨bb,j,none⟩=some (.int .i64 y)) wr.drew:=⟨c1,c0⟩
     have f2:wr.drew.frozen? ⟨bb,j+1,none⟩=false:=f1
     have c2:wr.drew.cell? ⟨bb,j+1,none⟩=some (.int .i64 x):=c1
     clear c1 c0 f1
     refine Z6 (fun W:World=>W.cell? ⟨bb,j+1,none⟩=some (.int .i64 x)∧W.cell? ⟨bb,j,none⟩=some (.int .i64 y)) (fun i=>i == 11) (by kernel_rfl) ?_
     generalize wr.drew=W1 at hS0 HN f2 c2 ⊢
     refine J2 0 25 _ hS0 ?_
     try simp only[Ja]
     refine J2 1 26 _ hS0 ?_
     try simp only[Ja]
     refine J2 2 27 (.pointer (some ⟨bb,j+1,none⟩)) hS0 ?_
     try simp only[Ja]
     refine J2 3 28 (.int .i64 x) hS0 ?_
     try simp only[Ja]
     refine J2 4 29 _ hS0 ?_
     try simp only[Ja]
     refine J2 5 30 _ hS0 ?_
     try simp only[Ja]
     refine J2 6 31 (.int .i64 j) hS0 ?_
     try simp only[Ja]
     refine J2 7 32 (.pointer (some ⟨bb,j,none⟩)) hS0 ?_
     try simp only[Ja]
     refine J2 8 33 (.int .i64 y) hS0 ?_
     try simp only[Ja]
     refine J2 9 34 (.int .i64 z) hS0 ?_
     try simp only[Ja]
     refine J2 10 35 (.pointer (some ⟨bb,j+1,none⟩)) hS0 ?_
     try simp only[Ja]
     refine Zn (i:=11) (d:=none) (w':=W1.setCell ⟨bb,j+1,none⟩ (.int .i64 z)) (by kernel_rfl) rfl rfl (by rfl) (by go_simp;try rfl) (fun h=>by cases h) ?_
     try simp only[Ja]
     refine Z3 (by kernel_rfl) ?_ _
     clear hS0 f2 c2
     generalize W1.setCell ⟨bb,j+1,none⟩ (.int .i64 z)=W2 at HN ⊢
     go_wp2_with fail
     go_roundg (d.length - (j+2))
     case measure=>rw[HG.out];omega
     case rel=>exact ⟨j+2,rfl,by simp;omega,by omega,HN⟩
   ·obtain rfl:i=d.length:=by omega
    have hi1:¬ (d.length:Int)<(d.length:Int):=by omega
    have HO:Hid (Own Zh 1 3 w.heap.size wr (.slice sa d.length sc) (Ye d)∧Below w.heap.size w wr):=Jh (by have h:=HU.out;rw[Z2u HSL.out] at h;exact h)
    clear hlt HU
    go_wp2_with fail
    go_ret3
    exact .inl ⟨Ye d,u,_,HD.out,rfl,HO.out.1,HO.out.2⟩
 ·have HD:=Jh (show VY n b=none from by unfold VY;rw[hd];rfl)
  have HB:=Lib.hid hb
  clear hd hb
  go_wp2_with fail
  go_loopg [20,10] 0 (fun g kv iv wr=>g=0∧kv=.int .i64 0∧wr=w5)
  case atStart=>exact ⟨rfl,rfl,rfl⟩
  case round =>
   obtain ⟨rfl,rfl,rfl⟩:=hrel
   go_wp2_with fail
   go_ret3
   exact .inr ⟨HD.out,rfl,HB.out⟩
noncomputable def WK (n:Nat) (d:Bool) (b:List UInt8):Option (List Int × Nat):=if d then VY n b else YT n none b
noncomputable def ZM (n:Nat):Nat→List UInt8→Option (List (List Int) × List UInt8)
 | 0,b=>some ([],b)
 | c+1,b=>(ZM n c b).bind fun p=>(WK n (dlt c) p.2).map fun q=>(p.1++[q.1],p.2.drop q.2)
theorem VK {n c:Nat} {b r:List UInt8} {L:List (List Int)} {l:List Int} {u:Nat} (h:ZM n c b=some (L,r)) (k:WK n (dlt c) r=some (l,u)):ZM n (c+1) b=some (L++[l],r.drop u):=by
 simp[ZM,h,k]
theorem SV {n c:Nat} {b:List UInt8} (h:ZM n c b=none):∀ d,ZM n (c+d) b=none
 | 0=>h
 | d+1=>by
  show (ZM n (c+d) b).bind _=none
  rw[SV h d]
  rfl
theorem Vp {n c:Nat} {b r:List UInt8} {L:List (List Int)} (h:ZM n c b=some (L,r)) (k:WK n (dlt c) r=none) {d:Nat} (hd:c<d):ZM n d b=none:=by
 have h1:ZM n (c+1) b=none:=by simp[ZM,h,k]
 have:=SV h1 (d - (c+1))
 rwa [show c+1+(d - (c+1))=d by omega] at this
theorem Vi {n:Nat} (hn:n≤65536) {b:List UInt8} {l:List Int} {u:Nat} (h:YT n none b=some (l,u)):l.length=n∧u≤b.length:=by
 rcases (Ua n (by omega) none b l u).1 h with ⟨h1,_,_,h2,h3⟩|⟨h1,h2,h3⟩
 ·exact ⟨h1,by rw[h3];exact h2.length_le⟩
 ·subst h2
  exact ⟨by rw[h1];rfl,by omega⟩
theorem Vh {n:Nat} (hn:n≤65536) {d:Bool} {b:List UInt8} {l:List Int} {u:Nat} (h:WK n d b=some (l,u)):l.length=n∧u≤b.length:=by
 unfold WK at h
 cases d with
 | false=>exact Vi hn h
 | true =>
  simp only[if_true] at h
  unfold VY at h
  rw[Option.map_eq_some_iff] at h
  obtain ⟨⟨l0,u0⟩,h1,h2⟩:=h
  cases h2
  have:=Vi hn h1
  exact ⟨by rw[Tj];exact this.1,this.2⟩
theorem TP {n:Nat} (hn:n≤65536):∀ {c:Nat} {b r:List UInt8} {L:List (List Int)},ZM n c b=some (L,r)→L.length=c∧∀ x∈L,x.length=n
 | 0,b,r,L,h=>by
  cases h
  exact ⟨rfl,fun x hx=>by simp at hx⟩
 | c+1,b,r,L,h=>by
  unfold ZM at h
  rw[Option.bind_eq_some_iff] at h
  obtain ⟨⟨L0,r0⟩,h1,h2⟩:=h
  rw[Option.map_eq_some_iff] at h2
  obtain ⟨⟨l,u⟩,h3,h4⟩:=h2
  cases h4
  have h5:=TP hn h1
  have h6:=Vh hn h3
  refine ⟨by rw[List.length_append,h5.1];rfl,fun x hx=>?_⟩
  rcases List.mem_append.1 hx with hx|hx
  ·exact h5.2 x hx
  ·rw[List.mem_singleton.1 hx];exact h6.1
def WV (L:List (List Int)) (j c:Nat):Int:=(L.getD c []).getD j 0
def Xi (L:List (List Int)) (i:Nat) (ls:List OpD):List OpD:=ls.mapIdx fun j o=>if j<i then o.withF (WV L j) else o
theorem U6 (L:List (List Int)) (i:Nat) (ls:List OpD):(Xi L i ls).length=ls.length:=by simp[Xi]
theorem Z5S (L:List (List Int)) (ls:List OpD):Xi L 0 ls=ls:=by
 apply List.ext_getElem?
 intro j
 simp[Xi]
theorem Z49 (L:List (List Int)) (i:Nat) {ls:List OpD} {x:OpD} (h:ls[i]?=some x):(Xi L i ls)[i]?=some x:=by simp[Xi,h]
theorem Z5x (L:List (List Int)) (i:Nat) {ls:List OpD} {x:OpD} (h:ls[i]?=some x):Xi L (i+1) ls=(Xi L i ls).set i (x.withF (WV L i)):=by
 apply List.ext_getElem?
 intro j
 have hi:=(List.getElem?_eq_some_iff.1 h).1
 by_cases e:j=i
 ·subst e
  rw[List.getElem?_set_self (by rw[U6];exact hi)]
  simp[Xi,h]
 ·rw[List.getElem?_set_ne (Ne.symm e)]
  simp only[Xi,List.getElem?_mapIdx]
  congr 1
  funext o
  by_cases h1:j<i
  ·rw[if_pos h1,if_pos (by omega)]
  ·rw[if_neg h1,if_neg (by omega)]
theorem Own.putOp {base g n cap i:Nat} {W W':World} {l:List OpD} {x:OpD} {f:Nat→Int} (h:Own OpD.cells 26 68 base W (.slice (some ⟨g,0,none⟩) n cap) l) (hx:l[i]?=some x) (hA:At g (i*26) x f W') (hR:Rst g (i*26) W W') :
  Own OpD.cells 26 68 base W' (.slice (some ⟨g,0,none⟩) n cap) (l.set i (x.withF f)):=by
 obtain ⟨h1,h2⟩:=h
 have hi:=(List.getElem?_eq_some_iff.1 hx).1
 rcases h2 with ⟨e1,_⟩|⟨g',cap',cur,e1,hb,hg,hn,hm,hs,ht⟩
 ·cases e1
 ·cases e1
  obtain ⟨cs',k1,k2,k3⟩:=hR cur _ hg
  refine ⟨by rw[Zx OpD.len],.inr ⟨g,cap,cs',by rw[List.length_set],hb,k1,by rw[List.length_set];exact hn,hm,by rw[k2];exact hs,?_⟩⟩
  apply List.ext_getElem?
  intro q
  rw[List.length_set]
  by_cases hq:q<l.length*26
  ·rw[List.getElem?_take_of_lt hq,Array.getElem?_toList]
   have hdm:q / 26*26+q % 26=q:=by omega
   by_cases e:q / 26=i
   ·have hset:(l.set i (x.withF f))[i]?=some (x.withF f):=List.getElem?_set_self hi
    obtain ⟨u,hu⟩:∃ u,(x.withF f).cells[q % 26]?=some u:=⟨_,List.getElem?_eq_getElem (by rw[OpD.len];omega)⟩
    have h5:=getElem?_flatMap_k OpD.len _ i _ hset _ _ hu
    have h6:=hA.cells _ _ hu
    unfold World.cell? at h6
    rw[k1] at h6
    rw[←e,hdm] at h5 h6
    rw[←e]
    rw[h5]
    exact h6
   ·obtain ⟨y,hy⟩:∃ y,l[q / 26]?=some y:=⟨_,List.getElem?_eq_getElem (by omega)⟩
    have hset:(l.set i (x.withF f))[q / 26]?=some y:=by rw[List.getElem?_set_ne (Ne.symm e)];exact hy
    obtain ⟨u,hu⟩:∃ u,y.cells[q % 26]?=some u:=⟨_,List.getElem?_eq_getElem (by rw[OpD.len];omega)⟩
    have h5:=getElem?_flatMap_k OpD.len _ _ _ hset _ _ hu
    have h6:=getElem?_flatMap_k OpD.len _ _ _ hy _ _ hu
    rw[hdm] at h5 h6
    rw[h5,k3 q (by omega),←Array.getElem?_toList,←List.getElem?_take_of_lt hq,ht,h6]
  ·rw[List.getElem?_eq_none (by rw[List.length_take];omega),List.getElem?_eq_none (by rw[Zx OpD.len,List.length_set];omega)]
structure TKS (w0:World) (T:Nat) (W:World) (tb:Value) (r:List UInt8) (tl:Value) (ls:List OpD):Prop where
 cell:W.heap[T]?=some (.cells #[tb,tl] 90 (0,0))
 byt:Z0 u8c 1 w0 tb r
 own:Own OpD.cells 26 68 w0.heap.size W tl ls
 bel:Below w0.heap.size w0 W
 new:w0.heap.size≤T
 flt:W.heap[T+1]?=some (.cells #[.int .i64 0] 91 (0,0))
def Kp (w0:World) (T:Nat) (W:World):Prop:=Below w0.heap.size w0 W∧W.heap[T+1]?=some (.cells #[.int .i64 0] 91 (0,0))
theorem TKS.kp {w0:World} {T:Nat} {W:World} {tb tl:Value} {r:List UInt8} {ls:List OpD} (h:TKS w0 T W tb r tl ls):Kp w0 T W:=⟨h.bel,h.flt⟩
theorem TKS.fltKeep {w0:World} {T:Nat} {W W':World} {tb tl:Value} {r:List UInt8} {ls:List OpD} {S:Nat→Prop} (h:TKS w0 T W tb r tl ls) (hx:Ext S W W') (hS:¬ S (T+1)):W'.heap[T+1]?=some (.cells #[.int .i64 0] 91 (0,0)):=(hx.block _ (Array.getElem?_eq_some_iff.1 h.flt).1 hS).trans h.flt
theorem TKS.ext {w0:World} {T:Nat} {W W':World} {tb tl:Value} {r:List UInt8} {ls:List OpD} {S:Nat→Prop} (h:TKS w0 T W tb r tl ls) (hx:Ext S W W') (hT:¬ S T) (hl:∀ k,tl.ownBlock=some k→¬ S k) (hS:∀ k,k<w0.heap.size→¬ S k) (hF:¬ S (T+1)):TKS w0 T W' tb r tl ls :=
 ⟨(hx.block _ (Array.getElem?_eq_some_iff.1 h.cell).1 hT).trans h.cell,h.byt,h.own.ext hx hl,Ext.new h.bel hx (fun i hi _ e=>hS i hi e) h.bel.size,h.new,h.fltKeep hx hF⟩
theorem TKS.below {w0:World} {T:Nat} {W W':World} {tb tl:Value} {r:List UInt8} {ls:List OpD} (h:TKS w0 T W tb r tl ls) (hb:Below W.heap.size W W'):TKS w0 T W' tb r tl ls :=
 h.ext (Ext.of_below (S:=fun _=>False) hb) id (fun _ _=>id) (fun _ _=>id) id
theorem TKS.bytes {w0:World} {T:Nat} {W:World} {tb tl:Value} {r:List UInt8} {ls:List OpD} (h:TKS w0 T W tb r tl ls):Z0 u8c 1 W tb r:=h.byt.below h.bel
def IS (b off:Nat) (o:OpD) (f:Nat→Int) (J:Nat→(Nat→Prop)→World→Prop) (A:Nat→Prop) (w:World) (c:Nat) (A':Nat→Prop) (W:World):Prop:=J c A' W∧At b off o (stg f o c) W∧Ext (fun k=>¬ A k∨k=b) w W∧Rst b off w W
section
variable {P:Program} {gf:Nat} {lb:Array Value} {b off:Nat} {o:OpD} {f:Nat→Int} {J:Nat→(Nat→Prop)→World→Prop} {A A':Nat→Prop} {w W:World} {c:Nat}
theorem IS.use (hU:RA P gf lb f (fld o) J) (hAb:A b) (hAA:∀ k,A k→A' k) (h:IS b off o f J A w c A' W) (hc:c<21) (h1:c≠10) (h2:c≠13) :
  Calls P gf (#[.pointer (some ⟨b,off+Wv c,none⟩),.bool (dlt c)]++lb) W fun e W'=>(∃ v,e=.returned v)∧IS b off o f J A w (c+1) A' W'∧Ext (fun k=>¬ A' k∨k=b) W W':=by
 have hn:=h.2.1.num c hc
 rw[Z8i] at hn
 have hf:=h.2.1.free (Wv c) (Z48 hc)
 refine (hU c A' W b (off+Wv c) hc h.1 hn hf (hAA b hAb)).mono ?_
 rintro e W' ⟨hv,hJ,hp,hq,hfz,hx,hsh⟩
 refine ⟨hv,⟨hJ,?_,h.2.2.1.andThen hx (fun i hi e=>e.elim (fun e=>.inl (fun ha=>e (hAA i ha))) .inr),h.2.2.2.trans (Rst.of_shp hsh hq (by omega) (by have:=Z48 hc;omega))⟩,hx⟩
 have:=h.2.1.put hc hp hq hfz
 rwa [Z6z f o h1 h2] at this
theorem IS.box {k:Nat} (hU:RA P gf lb f (fld o) J) (h:IS b off o f J A w c A' W) (hc:c=10∨c=13) (hk:W.cell? ⟨k,0,none⟩=some (.int .i64 (fld o c))) (hf:W.frozen? ⟨k,0,none⟩=false) (hn:w.heap.size≤k) (hCk:A' k) (hb:b<w.heap.size) (hAb:A b) (hAA:∀ k,A k→A' k) :
  Calls P gf (#[.pointer (some ⟨k,0,none⟩),.bool (dlt c)]++lb) W fun e W'=>(∃ v,e=.returned v)∧IS b off o f J A w (c+1) A' W'∧W'.cell? ⟨k,0,none⟩=some (.int .i64 (f c))∧W'.frozen? ⟨k,0,none⟩=false∧Ext (fun i=>¬ A' i∨i=k) W W':=by
 refine (hU c A' W k 0 (by omega) h.1 hk hf hCk).mono ?_
 rintro e W' ⟨hv,hJ,hp,hq,hfz,hx,hsh⟩
 refine ⟨hv,⟨hJ,?_,h.2.2.1.andThen hx (fun i hi e=>e.elim (fun e=>.inl (fun ha=>e (hAA i ha))) (fun e=>by omega)),h.2.2.2.trans (Rst.same (hx.block b h.2.1.lt (fun e=>e.elim (fun e=>e (hAA b hAb)) (fun e=>by omega))))⟩,hp,(hfz 0).trans hf,hx⟩
 have:=h.2.1.ext hx (fun e=>e.elim (fun e=>e (hAA b hAb)) (fun e=>by omega))
 rwa [Z7d f o hc] at this
theorem IS.step {W':World} {A'':Nat→Prop} (h:IS b off o f J A w c A' W) (hJ:JOK b J) (hb:A' b) (hA:∀ k,A'' k→A' k∨(W.heap.size≤k∧k<W'.heap.size)) (hx:Ext (fun _=>False) W W'):IS b off o f J A w c A'' W' :=
 ⟨hJ _ _ _ _ _ h.1 (hx.mono (fun _ _ e=>e.elim)) hA hb,h.2.1.ext hx id,h.2.2.1.andThen hx (fun i hi e=>e.elim),h.2.2.2.trans (Rst.same (hx.block b h.2.1.lt id))⟩
end
def KF (b off:Nat) (o:OpD) (f:Nat→Int) (J:Nat→(Nat→Prop)→World→Prop) (A:Nat→Prop) (w:World) (k5 k6 c:Nat) (x5 x6:Int) (A':Nat→Prop) (W:World):Prop:=IS b off o f J A w c A' W∧W.cell? ⟨k5,0,none⟩=some (.int .i64 x5)∧W.frozen? ⟨k5,0,none⟩=false∧W.cell? ⟨k6,0,none⟩=some (.int .i64 x6)∧W.frozen? ⟨k6,0,none⟩=false
section
variable {b off:Nat} {o:OpD} {f:Nat→Int} {J:Nat→(Nat→Prop)→World→Prop} {A A' A'':Nat→Prop} {w W W':World} {k5 k6 c c':Nat} {x5 x6:Int} {S:Nat→Prop}
theorem KF.ext (h:KF b off o f J A w k5 k6 c x5 x6 A' W) (hi:IS b off o f J A w c' A'' W') (hx:Ext S W W') (h5:¬ S k5) (h6:¬ S k6):KF b off o f J A w k5 k6 c' x5 x6 A'' W' :=
 ⟨hi,hx.keep h.2.1 h5,(hx.frozen (p:=⟨k5,0,none⟩) (Zq h.2.1) h5).trans h.2.2.1,hx.keep h.2.2.2.1 h6,(hx.frozen (p:=⟨k6,0,none⟩) (Zq h.2.2.2.1) h6).trans h.2.2.2.2⟩
theorem KF.step (h:KF b off o f J A w k5 k6 c x5 x6 A' W) (hJ:JOK b J) (hb:A' b) (hA:∀ k,A'' k→A' k∨(W.heap.size≤k∧k<W'.heap.size)) (hx:Ext (fun _=>False) W W'):KF b off o f J A w k5 k6 c x5 x6 A'' W' :=
 h.ext (h.1.step hJ hb hA hx) hx id id
end
theorem WX {W:World} {b q:Nat} {v u:Value} (h:W.cell? ⟨b,q,none⟩=some u):(W.setCell ⟨b,q,none⟩ v).cell? ⟨b,q,none⟩=some v:=by
 go_simp
theorem Vw {W:World} {b q p:Nat} {v:Value} (h:p≠q):(W.setCell ⟨b,q,none⟩ v).cell? ⟨b,p,none⟩=W.cell? ⟨b,p,none⟩:=by
 go_simp
theorem At.num_eq {b off:Nat} {o:OpD} {g:Nat→Int} {W:World} (h:At b off o g W) (g':Nat→Int) (he:∀ c,c<21→g c=g' c):At b off o g' W :=
 { h with num:=fun c hc=>by rw[←he c hc];exact h.num c hc }
theorem Z7I (f:Nat→Int) (o:OpD):∀ c,c<21→(fun d=>if d=13 then f 13 else (fun d=>if d=10 then f 10 else stg f o 21 d) d) c=f c:=by
 intro c hc
 dsimp only
 by_cases h1:c=13
 ·rw[if_pos h1,h1]
 ·rw[if_neg h1]
  by_cases h2:c=10
  ·rw[if_pos h2,h2]
  ·rw[if_neg h2]
   unfold stg
   rw[if_pos ⟨hc,h2,h1⟩]
theorem Z4P {P:Program} {ops:Array Oper} {Q:Exit→Act→World→Prop} {md:Region.Mode} {S:World→Prop} {Z:Nat→Bool} {rs:List Nat} {fuel:Nat} {listed:Array Bool} {a:Act} {w:World} (hr:Region.ready md ops listed=rs) (hne:rs≠[])
  (h:∀ i∈rs,wpOp P ops Q i (fun a' w'=>(Z i=false→S w')∧Y6 P md ops Q S Z fuel (listed.setIfInBounds i true) a' w') a w):Y6 P md ops Q S Z (fuel+1) listed a w :=
 ⟨fun h0=>absurd (hr.symm.trans h0) hne,fun j hj=>by rw[hr] at hj;exact h j hj⟩
theorem Z2X {P:Program} {ops:Array Oper} {Q:Exit→Act→World→Prop} {i:Nat} {o:Oper} {d:Option Tmp} {v:Value} {K:Act→World→Prop} {a:Act} {w w':World} (ho:ops[i]?=some o) (hd:o.dst=d) (hw:Region.wanted o (yielded ops a.tmps)=true)
  (hv:(execOp a.eval o).run P w=.ok (.value v) w') (h:K (a.put d v) w'):wpOp P ops Q i K a w:=by
 subst hd
 exact wpOp_step ho fun K' hK=>by
  rw[if_pos hw,Oper.wp,hv]
  exact hK _ _ h
theorem Qj {gf:Nat} {lb:Array Value} (hen:∀ args w,(callFunc gf args).run Tryz.prog w=.ok (.enter gf args) w) (b off:Nat) (o:OpD) (f:Nat→Int) (J:Nat→(Nat→Prop)→World→Prop) (A:Nat→Prop) (w:World) (hU:RA Tryz.prog gf lb f (fld o) J)
  (hJ:JOK b J) (hAb:A b) (hA:At b off o (fld o) w) (h0:J 0 A w) :
  Calls Tryz.prog 92 #[.pointer (some ⟨b,off,none⟩),.func (.func gf) #[] lb] w fun e w'=>(∃ v,e=.returned v)∧J 21 A w'∧At b off o f w'∧Ext (fun k=>¬ A k∨k=b) w w'∧Rst b off w w':=by
 have hbw:=hA.lt
 have HU:=Lib.hid hU
 have HJ:=Lib.hid hJ
 have hid8:∀ k,A k→A k:=fun k h=>h
 have HS:Hid (IS b off o f J A w 0 A w):=Lib.hid ⟨h0,by rw[Z7c];exact hA,Ext.refl _ _,Rst.refl _ _ _⟩
 clear hU hJ hA h0
 go_enter Tryz.func92,Tryz.ntmps92
 go_wp2_with fail
 refine (IS.use HU.out hAb hid8 HS.out (by omega) (by omega) (by omega)).mono ?_
 rintro e w1 ⟨⟨v1,rfl⟩,h1,-⟩
 have HS1:=Lib.hid h1
 clear h1 HS
 go_wp2_with fail
 refine (IS.use HU.out hAb hid8 HS1.out (by omega) (by omega) (by omega)).mono ?_
 rintro e w2 ⟨⟨v2,rfl⟩,h2,-⟩
 have HS2:=Lib.hid h2
 clear h2 HS1
 go_wp2_with fail
 go_loopg [21] 8 (fun g kv wx=>∃ k:Nat,g=8 - k∧kv=.int .i64 k∧k≤8∧Hid (IS b off o f J A w (2+k) A wx))
 case atStart=>exact ⟨0,rfl,rfl,by omega,HS2⟩
 case round =>
  clear HS2
  obtain ⟨k,hg,rfl,hk,HS⟩:=hrel
  have HG:=Lib.hid hg
  clear hg
  by_cases hlt:k<8
  ·have hk1:(k:Int)<8:=by omega
   have hc:=IS.use HU.out hAb hid8 HS.out (c:=2+k) (by omega) (by omega) (by omega)
   rw[show off+Wv (2+k)=off+2+k by unfold Wv;rw[if_pos (by omega)];omega,show dlt (2+k)=true by unfold dlt;simp;omega] at hc
   have HC:=Lib.hid hc
   clear hc
   go_wp2_with fail
   refine HC.out.mono ?_
   rintro e w3 ⟨⟨v3,rfl⟩,h3,-⟩
   have HS3:=Lib.hid h3
   clear h3 HC HS
   go_wp2_with fail
   go_roundg (8 - (k+1))
   case measure=>rw[HG.out];omega
   case rel=>exact ⟨k+1,rfl,by simp,by omega,HS3⟩
  ·obtain rfl:k=8:=by omega
   have hk1:¬ (8:Int)<8:=by omega
   have HS10:Hid (IS b off o f J A w 10 A wr):=HS
   clear hlt HS hk
   go_upto_region 7 with fail
   go_cut [5,6] (fun pv qv wx=>∃ k5 k6:Nat,pv=.pointer (some ⟨k5,0,none⟩)∧qv=.pointer (some ⟨k6,0,none⟩)∧w.heap.size≤k5∧w.heap.size≤k6∧k5≠k6∧Hid (IS b off o f J A w 10 (fun k=>A k∨k=k5∨k=k6) wx∧wx.cell? ⟨k5,0,none⟩=some (.int .i64 (fld o 10))∧wx.frozen? ⟨k5,0,none⟩=false∧wx.cell? ⟨k6,0,none⟩=some (.int .i64 (fld o 13))∧wx.frozen? ⟨k6,0,none⟩=false))
   case first=>as_aux_lemma =>
    have hS0:(fun W:World=>W.cell? ⟨b,off+10,none⟩=some (.int .i64 (fld o 10))∧W.cell? ⟨b,off+13,none⟩=some (.int .i64 (fld o 13))) wr.drew:=⟨by have:=HS10.out.2.1.num 10 (by omega);exact this,by have:=HS10.out.2.1.num 13 (by omega);exact this⟩
    have HS1:Hid (IS b off o f J A w 10 A wr.drew):=Jh (HS10.out.step HJ.out hAb (fun k h=>.inl h) (Ext.refl _ _).drew)
    clear HS10
    refine Z6 (fun W:World=>W.cell? ⟨b,off+10,none⟩=some (.int .i64 (fld o 10))∧W.cell? ⟨b,off+13,none⟩=some (.int .i64 (fld o 13))) (fun _=>false) (by kernel_rfl) ?_
    generalize wr.drew=W1 at hS0 HS1 ⊢
    have hsz:=HS1.out.2.2.1.size
    refine J2 0 32 _ hS0 ?_
    try simp only[Ja]
    refine J2 1 33 (.pointer (some ⟨b,off,none⟩)) hS0 ?_
    try simp only[Ja]
    refine J2 2 34 (.pointer (some ⟨b,off+10,none⟩)) hS0 ?_
    try simp only[Ja]
    refine J2 3 35 (.int .i64 (fld o 10)) hS0 ?_
    try simp only[Ja]
    refine J2 4 36 _ hS0 ?_
    try simp only[Ja]
    refine J2 5 37 (.pointer (some ⟨b,off,none⟩)) hS0 ?_
    try simp only[Ja]
    refine J2 6 38 (.pointer (some ⟨b,off+13,none⟩)) hS0 ?_
    try simp only[Ja]
    refine J2 7 39 (.int .i64 (fld o 13)) hS0 ?_
    try simp only[Ja]
    refine Z4P (rs:=[8,9]) (by kernel_rfl) (by simp) (fun i hi=>?_)
    simp only[List.mem_cons,List.not_mem_nil,or_false] at hi
    rcases hi with rfl|rfl
    ·refine Z2X (d:=some 5) (v:=.pointer (some ⟨W1.heap.size,0,none⟩)) (w':=(W1.alloc (.cells #[.int .i64 0] 3))) rfl rfl (by rfl) (by go_simp;try rfl) ⟨fun _=>⟨Zt hS0.1 _,Zt hS0.2 _⟩,?_⟩
     try simp only[Ja]
     refine Zk (i:=9) (d:=some 6) (v:=.pointer (some ⟨W1.heap.size+1,0,none⟩)) (w':=((W1.alloc (.cells #[.int .i64 0] 3)).alloc (.cells #[.int .i64 0] 3))) (by kernel_rfl) rfl rfl (by rfl) (by go_simp;try rfl) (fun _=>⟨Zt (Zt hS0.1 _) _,Zt (Zt hS0.2 _) _⟩) ?_
     try simp only[Ja]
     have hS3:(fun W:World=>W.cell? ⟨b,off+10,none⟩=some (.int .i64 (fld o 10))∧W.cell? ⟨b,off+13,none⟩=some (.int .i64 (fld o 13))) ((W1.alloc (.cells #[.int .i64 0] 3)).alloc (.cells #[.int .i64 0] 3)):=⟨Zt (Zt hS0.1 _) _,Zt (Zt hS0.2 _) _⟩
     have HS3:Hid (Ext (fun _=>False) W1 ((W1.alloc (.cells #[.int .i64 0] 3)).alloc (.cells #[.int .i64 0] 3))):=Jh (((Ext.refl _ _).alloc _).alloc _)
     have z3:((W1.alloc (.cells #[.int .i64 0] 3)).alloc (.cells #[.int .i64 0] 3)).heap.size=W1.heap.size+2:=by simp
     have e1:((W1.alloc (.cells #[.int .i64 0] 3)).alloc (.cells #[.int .i64 0] 3)).heap[W1.heap.size]?=some (.cells #[.int .i64 0] 3 (0,0)):=(Below.heap_alloc _ _ _ (by simp)).trans (ZB W1 _)
     have e2:((W1.alloc (.cells #[.int .i64 0] 3)).alloc (.cells #[.int .i64 0] 3)).heap[W1.heap.size+1]?=some (.cells #[.int .i64 0] 3 (0,0)):=by have:=ZB (W1.alloc (.cells #[.int .i64 0] 3)) (.cells #[.int .i64 0] 3);rwa [World.size_alloc] at this
     generalize ((W1.alloc (.cells #[.int .i64 0] 3)).alloc (.cells #[.int .i64 0] 3))=W3 at hS3 HS3 z3 e1 e2 ⊢
     clear hS0
     have hb1:b<W1.heap.size:=by omega
     obtain ⟨k1,hk1⟩:∃ k1,k1=W1.heap.size:=⟨_,rfl⟩
     have HK1:=Lib.hid hk1
     rw[←hk1] at e1 e2 z3 hb1 hsz ⊢
     clear hk1
     have c5:=cell_of_one e1
     have f5:=free_of_one e1
     have x5:Ext (·=k1) W3 (W3.setCell ⟨k1,0,none⟩ (.int .i64 (fld o 10))):=(Ext.refl (·=k1) W3).setCell (p:=⟨k1,0,none⟩) (.inr rfl) _
     have hS4:(fun W:World=>W.cell? ⟨b,off+10,none⟩=some (.int .i64 (fld o 10))∧W.cell? ⟨b,off+13,none⟩=some (.int .i64 (fld o 13))) (W3.setCell ⟨k1,0,none⟩ (.int .i64 (fld o 10))):=⟨x5.keep hS3.1 (by omega),x5.keep hS3.2 (by omega)⟩
     refine Zn (i:=10) (d:=none) (w':=W3.setCell ⟨k1,0,none⟩ (.int .i64 (fld o 10))) (by kernel_rfl) rfl rfl (by rfl) (by go_simp;try rfl) (fun _=>hS4) ?_
     try simp only[Ja]
     have HS4:Hid (Ext (fun _=>False) W1 (W3.setCell ⟨k1,0,none⟩ (.int .i64 (fld o 10)))):=Jh (HS3.out.setCell (p:=⟨k1,0,none⟩) (.inl (by have:=HK1.out;show W1.heap.size≤k1;omega)) _)
     have g5:=one_setCell (u:=.int .i64 (fld o 10)) e1
     have g6:(W3.setCell ⟨k1,0,none⟩ (.int .i64 (fld o 10))).heap[k1+1]?=some (.cells #[.int .i64 0] 3 (0,0)):=(x5.block _ (by omega) (by omega)).trans e2
     have z4:(W3.setCell ⟨k1,0,none⟩ (.int .i64 (fld o 10))).heap.size=W3.heap.size:=World.size_setCell _ _ _
     generalize W3.setCell ⟨k1,0,none⟩ (.int .i64 (fld o 10))=W4 at hS4 HS4 g5 g6 z4 ⊢
     clear hS3 HS3 e1 e2 c5 f5 x5
     have c6:=cell_of_one g6
     have f6:=free_of_one g6
     have x6:Ext (·=k1+1) W4 (W4.setCell ⟨k1+1,0,none⟩ (.int .i64 (fld o 13))):=(Ext.refl (·=k1+1) W4).setCell (p:=⟨k1+1,0,none⟩) (.inr rfl) _
     have hS5:(fun W:World=>W.cell? ⟨b,off+10,none⟩=some (.int .i64 (fld o 10))∧W.cell? ⟨b,off+13,none⟩=some (.int .i64 (fld o 13))) (W4.setCell ⟨k1+1,0,none⟩ (.int .i64 (fld o 13))):=⟨x6.keep hS4.1 (by omega),x6.keep hS4.2 (by omega)⟩
     refine Zn (i:=11) (d:=none) (w':=W4.setCell ⟨k1+1,0,none⟩ (.int .i64 (fld o 13))) (by kernel_rfl) rfl rfl (by rfl) (by go_simp;try rfl) (fun _=>hS5) ?_
     try simp only[Ja]
     refine Z3 (by kernel_rfl) ?_ _
     have HS5:Hid (IS b off o f J A w 10 (fun k=>A k∨k=k1∨k=k1+1) (W4.setCell ⟨k1+1,0,none⟩ (.int .i64 (fld o 13)))):=Jh (HS1.out.step HJ.out hAb (fun k h=>h.elim .inl (fun e=>.inr (by have h1:=HK1.out;have h2:=World.size_setCell W4 ⟨k1+1,0,none⟩ (.int .i64 (fld o 13));constructor <;> omega))) (HS4.out.setCell (p:=⟨k1+1,0,none⟩) (.inl (by have:=HK1.out;show W1.heap.size≤k1+1;omega)) _))
     have g7:=one_setCell (u:=.int .i64 (fld o 13)) g6
     have g8:(W4.setCell ⟨k1+1,0,none⟩ (.int .i64 (fld o 13))).heap[k1]?=some (.cells #[.int .i64 (fld o 10)] 3 (0,0)):=(x6.block _ (by have:=(Array.getElem?_eq_some_iff.1 g5).1;omega) (by omega)).trans g5
     have HFIN:Hid (IS b off o f J A w 10 (fun k=>A k∨k=k1∨k=k1+1) (W4.setCell ⟨k1+1,0,none⟩ (.int .i64 (fld o 13)))∧_∧_∧_∧_):=Lib.hid ⟨HS5.out,cell_of_one g8,free_of_one g8,cell_of_one g7,free_of_one g7⟩
     clear hS4 hS5 HS4 HS5 g5 g6 g7 g8 c6 f6 x6
     go_wp2_with fail
     go_meet
     case rel=>exact ⟨k1,k1+1,rfl,rfl,by omega,by omega,by omega,HFIN⟩
    ·refine Z2X (d:=some 6) (v:=.pointer (some ⟨W1.heap.size,0,none⟩)) (w':=(W1.alloc (.cells #[.int .i64 0] 3))) rfl rfl (by rfl) (by go_simp;try rfl) ⟨fun _=>⟨Zt hS0.1 _,Zt hS0.2 _⟩,?_⟩
     try simp only[Ja]
     refine Zk (i:=8) (d:=some 5) (v:=.pointer (some ⟨W1.heap.size+1,0,none⟩)) (w':=((W1.alloc (.cells #[.int .i64 0] 3)).alloc (.cells #[.int .i64 0] 3))) (by kernel_rfl) rfl rfl (by rfl) (by go_simp;try rfl) (fun _=>⟨Zt (Zt hS0.1 _) _,Zt (Zt hS0.2 _) _⟩) ?_
     try simp only[Ja]
     have hS3:(fun W:World=>W.cell? ⟨b,off+10,none⟩=some (.int .i64 (fld o 10))∧W.cell? ⟨b,off+13,none⟩=some (.int .i64 (fld o 13))) ((W1.alloc (.cells #[.int .i64 0] 3)).alloc (.cells #[.int .i64 0] 3)):=⟨Zt (Zt hS0.1 _) _,Zt (Zt hS0.2 _) _⟩
     have HS3:Hid (Ext (fun _=>False) W1 ((W1.alloc (.cells #[.int .i64 0] 3)).alloc (.cells #[.int .i64 0] 3))):=Jh (((Ext.refl _ _).alloc _).alloc _)
     have z3:((W1.alloc (.cells #[.int .i64 0] 3)).alloc (.cells #[.int .i64 0] 3)).heap.size=W1.heap.size+2:=by simp
     have e1:((W1.alloc (.cells #[.int .i64 0] 3)).alloc (.cells #[.int .i64 0] 3)).heap[W1.heap.size]?=some (.cells #[.int .i64 0] 3 (0,0)):=(Below.heap_alloc _ _ _ (by simp)).trans (ZB W1 _)
     have e2:((W1.alloc (.cells #[.int .i64 0] 3)).alloc (.cells #[.int .i64 0] 3)).heap[W1.heap.size+1]?=some (.cells #[.int .i64 0] 3 (0,0)):=by have:=ZB (W1.alloc (.cells #[.int .i64 0] 3)) (.cells #[.int .i64 0] 3);rwa [World.size_alloc] at this
     generalize ((W1.alloc (.cells #[.int .i64 0] 3)).alloc (.cells #[.int .i64 0] 3))=W3 at hS3 HS3 z3 e1 e2 ⊢
     clear hS0
     have hb1:b<W1.heap.size:=by omega
     obtain ⟨k1,hk1⟩:∃ k1,k1=W1.heap.size:=⟨_,rfl⟩
     have HK1:=Lib.hid hk1
     rw[←hk1] at e1 e2 z3 hb1 hsz ⊢
     clear hk1
     have c5:=cell_of_one e2
     have f5:=free_of_one e2
     have x5:Ext (·=k1+1) W3 (W3.setCell ⟨k1+1,0,none⟩ (.int .i64 (fld o 10))):=(Ext.refl (·=k1+1) W3).setCell (p:=⟨k1+1,0,none⟩) (.inr rfl) _
     have hS4:(fun W:World=>W.cell? ⟨b,off+10,none⟩=some (.int .i64 (fld o 10))∧W.cell? ⟨b,off+13,none⟩=some (.int .i64 (fld o 13))) (W3.setCell ⟨k1+1,0,none⟩ (.int .i64 (fld o 10))):=⟨x5.keep hS3.1 (by omega),x5.keep hS3.2 (by omega)⟩
     refine Zn (i:=10) (d:=none) (w':=W3.setCell ⟨k1+1,0,none⟩ (.int .i64 (fld o 10))) (by kernel_rfl) rfl rfl (by rfl) (by go_simp;try rfl) (fun _=>hS4) ?_
     try simp only[Ja]
     have HS4:Hid (Ext (fun _=>False) W1 (W3.setCell ⟨k1+1,0,none⟩ (.int .i64 (fld o 10)))):=Jh (HS3.out.setCell (p:=⟨k1+1,0,none⟩) (.inl (by have:=HK1.out;show W1.heap.size≤k1+1;omega)) _)
     have g5:=one_setCell (u:=.int .i64 (fld o 10)) e2
     have g6:(W3.setCell ⟨k1+1,0,none⟩ (.int .i64 (fld o 10))).heap[k1]?=some (.cells #[.int .i64 0] 3 (0,0)):=(x5.block _ (by omega) (by omega)).trans e1
     have z4:(W3.setCell ⟨k1+1,0,none⟩ (.int .i64 (fld o 10))).heap.size=W3.heap.size:=World.size_setCell _ _ _
     generalize W3.setCell ⟨k1+1,0,none⟩ (.int .i64 (fld o 10))=W4 at hS4 HS4 g5 g6 z4 ⊢
     clear hS3 HS3 e1 e2 c5 f5 x5
     have c6:=cell_of_one g6
     have f6:=free_of_one g6
     have x6:Ext (·=k1) W4 (W4.setCell ⟨k1,0,none⟩ (.int .i64 (fld o 13))):=(Ext.refl (·=k1) W4).setCell (p:=⟨k1,0,none⟩) (.inr rfl) _
     have hS5:(fun W:World=>W.cell? ⟨b,off+10,none⟩=some (.int .i64 (fld o 10))∧W.cell? ⟨b,off+13,none⟩=some (.int .i64 (fld o 13))) (W4.setCell ⟨k1,0,none⟩ (.int .i64 (fld o 13))):=⟨x6.keep hS4.1 (by omega),x6.keep hS4.2 (by omega)⟩
     refine Zn (i:=11) (d:=none) (w':=W4.setCell ⟨k1,0,none⟩ (.int .i64 (fld o 13))) (by kernel_rfl) rfl rfl (by rfl) (by go_simp;try rfl) (fun _=>hS5) ?_
     try simp only[Ja]
     refine Z3 (by kernel_rfl) ?_ _
     have HS5:Hid (IS b off o f J A w 10 (fun k=>A k∨k=k1+1∨k=k1) (W4.setCell ⟨k1,0,none⟩ (.int .i64 (fld o 13)))):=Jh (HS1.out.step HJ.out hAb (fun k h=>h.elim .inl (fun e=>.inr (by have h1:=HK1.out;have h2:=World.size_setCell W4 ⟨k1,0,none⟩ (.int .i64 (fld o 13));constructor <;> omega))) (HS4.out.setCell (p:=⟨k1,0,none⟩) (.inl (by have:=HK1.out;show W1.heap.size≤k1;omega)) _))
     have g7:=one_setCell (u:=.int .i64 (fld o 13)) g6
     have g8:(W4.setCell ⟨k1,0,none⟩ (.int .i64 (fld o 13))).heap[k1+1]?=some (.cells #[.int .i64 (fld o 10)] 3 (0,0)):=(x6.block _ (by have:=(Array.getElem?_eq_some_iff.1 g5).1;omega) (by omega)).trans g5
     have HFIN:Hid (IS b off o f J A w 10 (fun k=>A k∨k=k1+1∨k=k1) (W4.setCell ⟨k1,0,none⟩ (.int .i64 (fld o 13)))∧_∧_∧_∧_):=Lib.hid ⟨HS5.out,cell_of_one g8,free_of_one g8,cell_of_one g7,free_of_one g7⟩
     clear hS4 hS5 HS4 HS5 g5 g6 g7 g8 c6 f6 x6
     go_wp2_with fail
     go_meet
     case rel=>exact ⟨k1+1,k1,rfl,rfl,by omega,by omega,by omega,HFIN⟩
   case rest =>
    obtain ⟨k5,k6,rfl,rfl,hk5,hk6,hk56,HF⟩:=hcut
    clear HS10
    have hAA:∀ k,A k→(A k∨k=k5∨k=k6):=fun k h=>.inl h
    go_wp2_with fail
    refine (IS.box HU.out HF.out.1 (.inl rfl) HF.out.2.1 HF.out.2.2.1 hk5 (.inr (.inl rfl)) hbw hAb hAA).mono ?_
    rintro e w4 ⟨⟨vv,rfl⟩,h4,hp4,hf4,hx4⟩
    have hno:¬ (¬ (A k6∨k6=k5∨k6=k6)∨k6=k5):=fun h=>h.elim (fun h=>h (.inr (.inr rfl))) (fun e=>by omega)
    have HF4:Hid (KF b off o f J A w k5 k6 11 (f 10) (fld o 13) (fun k=>A k∨k=k5∨k=k6) w4):=Lib.hid ⟨h4,hp4,hf4,hx4.keep HF.out.2.2.2.1 hno,(hx4.frozen (p:=⟨k6,0,none⟩) (Zq HF.out.2.2.2.1) hno).trans HF.out.2.2.2.2⟩
    clear h4 hp4 hf4 hx4 hno HF
    go_wp2_with fail
    refine (IS.use HU.out hAb hAA HF4.out.1 (by omega) (by omega) (by omega)).mono ?_
    rintro e w5 ⟨⟨vv,rfl⟩,h4,hx4⟩
    have HF5:Hid (KF b off o f J A w k5 k6 12 (f 10) (fld o 13) (fun k=>A k∨k=k5∨k=k6) w5):=Jh (KF.ext HF4.out h4 hx4 (fun h=>h.elim (fun h=>h (.inr (.inl rfl))) (fun e=>by omega)) (fun h=>h.elim (fun h=>h (.inr (.inr rfl))) (fun e=>by omega)))
    clear h4 hx4 HF4
    go_wp2_with fail
    refine (IS.use HU.out hAb hAA HF5.out.1 (by omega) (by omega) (by omega)).mono ?_
    rintro e w6 ⟨⟨vv,rfl⟩,h4,hx4⟩
    have HF6:Hid (KF b off o f J A w k5 k6 13 (f 10) (fld o 13) (fun k=>A k∨k=k5∨k=k6) w6):=Jh (KF.ext HF5.out h4 hx4 (fun h=>h.elim (fun h=>h (.inr (.inl rfl))) (fun e=>by omega)) (fun h=>h.elim (fun h=>h (.inr (.inr rfl))) (fun e=>by omega)))
    clear h4 hx4 HF5
    go_wp2_with fail
    refine (IS.box HU.out HF6.out.1 (.inr rfl) HF6.out.2.2.2.1 HF6.out.2.2.2.2 hk6 (.inr (.inr rfl)) hbw hAb hAA).mono ?_
    rintro e w7 ⟨⟨vv,rfl⟩,h4,hp4,hf4,hx4⟩
    have hno:¬ (¬ (A k5∨k5=k5∨k5=k6)∨k5=k6):=fun h=>h.elim (fun h=>h (.inr (.inl rfl))) (fun e=>by omega)
    have HF7:Hid (KF b off o f J A w k5 k6 14 (f 10) (f 13) (fun k=>A k∨k=k5∨k=k6) w7):=Lib.hid ⟨h4,hx4.keep HF6.out.2.1 hno,(hx4.frozen (p:=⟨k5,0,none⟩) (Zq HF6.out.2.1) hno).trans HF6.out.2.2.1,hp4,hf4⟩
    clear h4 hp4 hf4 hx4 hno HF6
    go_upto_region 12 with fail
    have HF8:Hid (KF b off o f J A w k5 k6 14 (f 10) (f 13) (fun k=>A k∨k=k5∨k=k6) w7.drew):=Jh (KF.step HF7.out HJ.out (hAA b hAb) (fun k h=>.inl h) (Ext.refl _ _).drew)
    clear HF7
    have hS0:(fun _:World=>True) w7.drew:=trivial
    refine Z6 (fun _=>True) (fun _=>false) (by kernel_rfl) ?_
    generalize w7.drew=W1 at hS0 HF8 ⊢
    refine J0 0 56 _ hS0 ?_
    try simp only[Ja]
    refine J0 1 57 (.pointer (some ⟨b,off,none⟩)) hS0 ?_
    try simp only[Ja]
    refine J0 2 58 (.pointer (some ⟨b,off+14,none⟩)) hS0 ?_
    try simp only[Ja]
    refine J0 3 59 _ hS0 ?_
    try simp only[Ja]
    refine J0 4 60 (.pointer (some ⟨b,off,none⟩)) hS0 ?_
    try simp only[Ja]
    refine J0 5 61 (.pointer (some ⟨b,off+15,none⟩)) hS0 ?_
    try simp only[Ja]
    refine J0 6 62 (.pointer (some ⟨b,off+15,none⟩)) hS0 ?_
    try simp only[Ja]
    refine J0 7 63 _ hS0 ?_
    try simp only[Ja]
    refine J0 8 64 (.pointer (some ⟨b,off,none⟩)) hS0 ?_
    try simp only[Ja]
    refine J0 9 65 (.pointer (some ⟨b,off+15,none⟩)) hS0 ?_
    try simp only[Ja]
    refine J0 10 66 (.pointer (some ⟨b,off+16,none⟩)) hS0 ?_
    try simp only[Ja]
    refine J0 11 67 _ hS0 ?_
    try simp only[Ja]
    refine J0 12 68 (.pointer (some ⟨b,off,none⟩)) hS0 ?_
    try simp only[Ja]
    refine J0 13 69 (.pointer (some ⟨b,off+20,none⟩)) hS0 ?_
    try simp only[Ja]
    refine J0 14 70 (.pointer (some ⟨b,off+20,none⟩)) hS0 ?_
    try simp only[Ja]
    refine J0 15 71 (.pointer (some ⟨b,off+20,none⟩)) hS0 ?_
    try simp only[Ja]
    refine J0 16 72 _ hS0 ?_
    try simp only[Ja]
    refine J0 17 73 (.pointer (some ⟨b,off,none⟩)) hS0 ?_
    try simp only[Ja]
    refine J0 18 74 (.pointer (some ⟨b,off+20,none⟩)) hS0 ?_
    try simp only[Ja]
    refine J0 19 75 (.pointer (some ⟨b,off+20,none⟩)) hS0 ?_
    try simp only[Ja]
    refine J0 20 76 (.pointer (some ⟨b,off+21,none⟩)) hS0 ?_
    try simp only[Ja]
    refine J0 21 77 _ hS0 ?_
    try simp only[Ja]
    refine J0 22 78 (.pointer (some ⟨b,off,none⟩)) hS0 ?_
    try simp only[Ja]
    refine J0 23 79 (.pointer (some ⟨b,off+23,none⟩)) hS0 ?_
    try simp only[Ja]
    refine J0 24 80 (.pointer (some ⟨b,off+23,none⟩)) hS0 ?_
    try simp only[Ja]
    refine J0 25 81 (.pointer (some ⟨b,off+23,none⟩)) hS0 ?_
    try simp only[Ja]
    refine J0 26 82 _ hS0 ?_
    try simp only[Ja]
    refine J0 27 83 (.pointer (some ⟨b,off,none⟩)) hS0 ?_
    try simp only[Ja]
    refine J0 28 84 (.pointer (some ⟨b,off+23,none⟩)) hS0 ?_
    try simp only[Ja]
    refine J0 29 85 (.pointer (some ⟨b,off+23,none⟩)) hS0 ?_
    try simp only[Ja]
    refine J0 30 86 (.pointer (some ⟨b,off+24,none⟩)) hS0 ?_
    try simp only[Ja]
    refine J0 33 89 (.int .i64 0) hS0 ?_
    try simp only[Ja]
    refine Zk (i:=31) (d:=some 87) (v:=.slice (some ⟨W1.heap.size,0,none⟩) 7 7) (w':=W1.alloc (.cells #[.pointer (some ⟨b,off+14,none⟩),.pointer (some ⟨b,off+15,none⟩),.pointer (some ⟨b,off+16,none⟩),.pointer (some ⟨b,off+20,none⟩),.pointer (some ⟨b,off+21,none⟩),.pointer (some ⟨b,off+23,none⟩),.pointer (some ⟨b,off+24,none⟩)] 164)) (by kernel_rfl) rfl rfl (by rfl) (by go_simp;try rfl) (fun _=>trivial) ?_
    try simp only[Ja]
    have HF9:Hid (KF b off o f J A w k5 k6 14 (f 10) (f 13) (fun k=>(A k∨k=k5∨k=k6)∨k=W1.heap.size) (W1.alloc (.cells #[.pointer (some ⟨b,off+14,none⟩),.pointer (some ⟨b,off+15,none⟩),.pointer (some ⟨b,off+16,none⟩),.pointer (some ⟨b,off+20,none⟩),.pointer (some ⟨b,off+21,none⟩),.pointer (some ⟨b,off+23,none⟩),.pointer (some ⟨b,off+24,none⟩)] 164))):=Jh (KF.step HF8.out HJ.out (hAA b hAb) (fun k h=>h.elim .inl (fun e=>.inr (by rw[World.size_alloc];omega))) ((Ext.refl _ _).alloc _))
    have hps:∀ k:Nat,k<7→(W1.alloc (.cells #[.pointer (some ⟨b,off+14,none⟩),.pointer (some ⟨b,off+15,none⟩),.pointer (some ⟨b,off+16,none⟩),.pointer (some ⟨b,off+20,none⟩),.pointer (some ⟨b,off+21,none⟩),.pointer (some ⟨b,off+23,none⟩),.pointer (some ⟨b,off+24,none⟩)] 164)).cell? ⟨W1.heap.size,k,none⟩=some (.pointer (some ⟨b,off+Wv (14+k),none⟩)):=fun k hk=>Rb W1 [.pointer (some ⟨b,off+14,none⟩),.pointer (some ⟨b,off+15,none⟩),.pointer (some ⟨b,off+16,none⟩),.pointer (some ⟨b,off+20,none⟩),.pointer (some ⟨b,off+21,none⟩),.pointer (some ⟨b,off+23,none⟩),.pointer (some ⟨b,off+24,none⟩)] _ k _ (by
     match k,hk with
     | 0,_=>rfl
     | 1,_=>rfl
     | 2,_=>rfl
     | 3,_=>rfl
     | 4,_=>rfl
     | 5,_=>rfl
     | 6,_=>rfl
     | n+7,h=>exact absurd h (by omega))
    obtain ⟨SB,hSB⟩:∃ SB,SB=W1.heap.size:=⟨_,rfl⟩
    have hSw:w.heap.size≤SB:=by rw[hSB];exact HF8.out.1.2.2.1.size
    rw[←hSB] at hps HF9 ⊢
    have hA7:∀ k,A k→((A k∨k=k5∨k=k6)∨k=SB):=fun k h=>.inl (.inl h)
    generalize W1.alloc (.cells #[.pointer (some ⟨b,off+14,none⟩),.pointer (some ⟨b,off+15,none⟩),.pointer (some ⟨b,off+16,none⟩),.pointer (some ⟨b,off+20,none⟩),.pointer (some ⟨b,off+21,none⟩),.pointer (some ⟨b,off+23,none⟩),.pointer (some ⟨b,off+24,none⟩)] 164)=W2 at HF9 hps ⊢
    have HPS:=Lib.hid hps
    clear hSB HF8 hps hS0
    have hS0:(fun _:World=>True) W2:=trivial
    refine J0 32 88 (.int .i64 7) hS0 ?_
    try simp only[Ja]
    refine Z3 (by kernel_rfl) ?_ _
    clear hS0
    go_wp2_with fail
    go_loopg [89] 7 (fun g kv wx=>∃ k:Nat,g=7 - k∧kv=.int .i64 k∧k≤7∧Hid (KF b off o f J A w k5 k6 (14+k) (f 10) (f 13) (fun k=>(A k∨k=k5∨k=k6)∨k=SB) wx)∧Hid (∀ q:Nat,q<7→wx.cell? ⟨SB,q,none⟩=some (.pointer (some ⟨b,off+Wv (14+q),none⟩))))
    case atStart=>exact ⟨0,rfl,rfl,by omega,HF9,HPS⟩
    case round =>
     clear HF9 HPS
     obtain ⟨k,hg,rfl,hk,HF,HPS⟩:=hrel
     have HG:=Lib.hid hg
     clear hg
     by_cases hlt:k<7
     ·have hk1:(k:Int)<7:=by omega
      have hcell:=HPS.out k hlt
      have hc:=IS.use HU.out hAb hA7 HF.out.1 (c:=14+k) (by omega) (by omega) (by omega)
      rw[show dlt (14+k)=false by unfold dlt;simp;omega] at hc
      generalize off+Wv (14+k)=pk at hcell hc
      have HC:=Lib.hid hc
      clear hc
      go_wp2_with fail
      refine HC.out.mono ?_
      rintro e w3 ⟨⟨v3,rfl⟩,h3,hx3⟩
      have HF3:Hid (KF b off o f J A w k5 k6 (14+k+1) (f 10) (f 13) (fun k=>(A k∨k=k5∨k=k6)∨k=SB) w3):=Jh (HF.out.ext h3 hx3 (fun h=>h.elim (fun h=>h (.inl (.inr (.inl rfl)))) (fun e=>by omega)) (fun h=>h.elim (fun h=>h (.inl (.inr (.inr rfl)))) (fun e=>by omega)))
      have HPS3:Hid (∀ q:Nat,q<7→w3.cell? ⟨SB,q,none⟩=some (.pointer (some ⟨b,off+Wv (14+q),none⟩))):=Jh (fun q hq=>hx3.keep (HPS.out q hq) (fun h=>h.elim (fun h=>h (.inr rfl)) (fun e=>by omega)))
      clear h3 hx3 HC HF HPS hcell
      go_wp2_with fail
      go_roundg (7 - (k+1))
      case measure=>rw[HG.out];omega
      case rel=>exact ⟨k+1,rfl,by simp,by omega,HF3,HPS3⟩
     ·obtain rfl:k=7:=by omega
      have hk1:¬ (7:Int)<7:=by omega
      have HF21:Hid (KF b off o f J A w k5 k6 21 (f 10) (f 13) (fun k=>(A k∨k=k5∨k=k6)∨k=SB) wr):=HF
      clear hlt HF HPS hk
      have hA:=HF21.out.1.2.1
      have c10:wr.cell? ⟨b,off+10,none⟩=some (.int .i64 (stg f o 21 10)):=hA.num 10 (by omega)
      have f10:wr.frozen? ⟨b,off+10,none⟩=false:=hA.free 10 (by omega)
      have c13:wr.cell? ⟨b,off+13,none⟩=some (.int .i64 (stg f o 21 13)):=hA.num 13 (by omega)
      have f13:wr.frozen? ⟨b,off+13,none⟩=false:=hA.free 13 (by omega)
      have c5:=HF21.out.2.1
      have c6:=HF21.out.2.2.2.1
      have hbk5:¬ b=k5:=by omega
      have hbk6:¬ b=k6:=by omega
      have x1:Ext (·=b) wr (wr.setCell ⟨b,off+10,none⟩ (.int .i64 (f 10))):=(Ext.refl (·=b) wr).setCell (p:=⟨b,off+10,none⟩) (.inr rfl) _
      have hA1:=hA.put (c:=10) (x:=f 10) (by omega) (WX c10) (fun q hq=>Vw hq) (fun q=>World.frozen?_setCell _ _ _ _)
      have x2:Ext (·=b) (wr.setCell ⟨b,off+10,none⟩ (.int .i64 (f 10))) ((wr.setCell ⟨b,off+10,none⟩ (.int .i64 (f 10))).setCell ⟨b,off+13,none⟩ (.int .i64 (f 13))):=(Ext.refl (·=b) _).setCell (p:=⟨b,off+13,none⟩) (.inr rfl) _
      have hA2:=hA1.put (c:=13) (x:=f 13) (by omega) (WX (hA1.num 13 (by omega))) (fun q hq=>Vw hq) (fun q=>World.frozen?_setCell _ _ _ _)
      have HFIN:=Jh (And.intro (HJ.out _ _ A _ _ (HJ.out _ _ A _ _ HF21.out.1.1 x1 (fun k h=>.inl (hA7 k h)) (hA7 b hAb)) x2 (fun k h=>.inl h) hAb) (And.intro (hA2.num_eq f (Z7I f o)) (And.intro ((HF21.out.1.2.2.1.andThen x1 (fun i hi e=>.inr e)).andThen x2 (fun i hi e=>.inr e)) ((HF21.out.1.2.2.2.trans (Rst.set (b:=b) (off:=off) (po:=off+10) wr (.int .i64 (f 10)) (by omega) (by omega))).trans (Rst.set (b:=b) (off:=off) (po:=off+13) _ (.int .i64 (f 13)) (by omega) (by omega))))))
      clear hA hA1 hA2 x1 x2 HF21
      go_wp2_with fail
      go_end0
      exact ⟨⟨_,rfl⟩,HFIN.out⟩
theorem Te {W W':World} {b:Nat} (h:W'.heap[b]?=W.heap[b]?) (q:Nat):W'.cell? ⟨b,q,none⟩=W.cell? ⟨b,q,none⟩:=by
 unfold World.cell?
 rw[h]
structure NR (W1:World) (lo hi Br Bi rb rcap ii:Nat) (f:Nat→Int) (Bc:Nat):Prop where
 br:W1.cell? ⟨Br,0,none⟩=some (.slice (some ⟨rb,0,none⟩) 21 rcap)
 bi:W1.cell? ⟨Bi,0,none⟩=some (.int .i64 ii)
 row:∀ c,c<21→∃ sb sn sc,W1.cell? ⟨rb,c,none⟩=some (.slice (some ⟨sb,0,none⟩) sn sc)∧(lo≤sb∧sb<hi∧sb≠Bc)∧ii<sn∧W1.cell? ⟨sb,ii,none⟩=some (.int .i64 (f c))
 dis:(lo≤Br∧Br<hi∧Br≠Bc)∧(lo≤Bi∧Bi<hi∧Bi≠Bc)∧(lo≤rb∧rb<hi∧rb≠Bc)∧lo≤Bc∧Bc<hi
def JN (W1:World) (lo hi Bc:Nat) (c:Nat) (A:Nat→Prop) (W:World):Prop :=
 (∀ k,A k→k<lo∨hi≤k)∧(∀ k,lo≤k→k<hi→k≠Bc→W.heap[k]?=W1.heap[k]?)∧W.heap[Bc]?=some (.cells #[.int .i64 c] 3 (0,0))∧hi≤W.heap.size∧lo≤Bc∧Bc<hi
theorem JN.jok (W1:World) (lo hi Bc b:Nat):JOK b (JN W1 lo hi Bc):=by
 rintro c A A' W W' ⟨h1,h2,h3,h4,h5,h6⟩ hx hA hb
 have hbn:=h1 b hb
 have hs:=hx.size
 refine ⟨fun k hk=>(hA k hk).elim (h1 k) (fun e=>.inr (by omega)),fun k k1 k2 k3=>(hx.block _ (by omega) (by omega)).trans (h2 k k1 k2 k3),(hx.block _ (by omega) (by omega)).trans h3,by omega,h5,h6⟩
theorem Z7h {W1:World} {lo hi Br Bi rb rcap ii Bc:Nat} {f:Nat→Int} (hN:NR W1 lo hi Br Bi rb rcap ii f Bc) (fl:Nat→Int):RA Tryz.prog 155 #[.pointer (some ⟨Br,0,none⟩),.pointer (some ⟨Bc,0,none⟩),.pointer (some ⟨Bi,0,none⟩)] f fl (JN W1 lo hi Bc):=by
 rintro c A W pb po hc ⟨hA,hkeep,hBc,hhi,hlo1,hlo2⟩ hcell hfree hAp
 show Calls Tryz.prog 155 #[.pointer (some ⟨pb,po,none⟩),.bool (dlt c),.pointer (some ⟨Br,0,none⟩),.pointer (some ⟨Bc,0,none⟩),.pointer (some ⟨Bi,0,none⟩)] W _
 obtain ⟨sb,sn,sc,hrow,⟨s1,s2,s3⟩,hin,hval⟩:=hN.row c hc
 obtain ⟨⟨r1,r2,r3⟩,⟨i1,i2,i3⟩,⟨q1,q2,q3⟩,-,-⟩:=hN.dis
 have hp:=hA pb hAp
 have hSW:(fun W:World=>W.cell? ⟨Br,0,none⟩=some (.slice (some ⟨rb,0,none⟩) 21 rcap)∧W.cell? ⟨Bc,0,none⟩=some (.int .i64 c)∧W.cell? ⟨rb,c,none⟩=some (.slice (some ⟨sb,0,none⟩) sn sc)∧W.cell? ⟨Bi,0,none⟩=some (.int .i64 ii)∧W.cell? ⟨sb,ii,none⟩=some (.int .i64 (f c))) W.drew:=⟨(Te (hkeep Br r1 r2 r3) 0).trans hN.br,cell_of_one hBc,(Te (hkeep rb q1 q2 q3) c).trans hrow,(Te (hkeep Bi i1 i2 i3) 0).trans hN.bi,(Te (hkeep sb s1 s2 s3) ii).trans hval⟩
 have hpc:pb≠Bc:=by omega
 have hpl:=Zq hcell
 have hc1:W.drew.cell? ⟨pb,po,none⟩=some (.int .i64 (fl c)):=hcell
 have hf1:W.drew.frozen? ⟨pb,po,none⟩=false:=hfree
 have hB1:W.drew.heap[Bc]?=some (.cells #[.int .i64 c] 3 (0,0)):=hBc
 have hW0:Ext (fun _=>False) W W.drew:=(Ext.refl _ _).drew
 have HK:=Lib.hid hkeep
 have HA:=Lib.hid hA
 clear hkeep hA hcell hfree hBc hrow hval
 go_enter Tryz.func155,Tryz.ntmps155
 go_upto_region 0 with fail
 refine Z6 (fun W:World=>W.cell? ⟨Br,0,none⟩=some (.slice (some ⟨rb,0,none⟩) 21 rcap)∧W.cell? ⟨Bc,0,none⟩=some (.int .i64 c)∧W.cell? ⟨rb,c,none⟩=some (.slice (some ⟨sb,0,none⟩) sn sc)∧W.cell? ⟨Bi,0,none⟩=some (.int .i64 ii)∧W.cell? ⟨sb,ii,none⟩=some (.int .i64 (f c))) (fun i=>i == 9) (by kernel_rfl) ?_
 generalize W.drew=W2 at hSW hc1 hf1 hB1 hW0 ⊢
 have hc21:(c:Int)<21:=by omega
 have hc0:(0:Int)≤(c:Int):=by omega
 have hi0:(0:Int)≤(ii:Int):=by omega
 have hi1:(ii:Int)<(sn:Int):=by omega
 refine JR 0 7 _ rfl rfl hSW (fun W hW=>by obtain ⟨q0,q1,q2,q3,q4⟩:=hW;go_simp;try rfl) ?_
 try simp only[Ja]
 refine JR 1 8 (.slice (some ⟨rb,0,none⟩) 21 rcap) rfl rfl hSW (fun W hW=>by obtain ⟨q0,q1,q2,q3,q4⟩:=hW;go_simp;try rfl) ?_
 try simp only[Ja]
 refine JR 2 9 (.int .i64 c) rfl rfl hSW (fun W hW=>by obtain ⟨q0,q1,q2,q3,q4⟩:=hW;go_simp;try rfl) ?_
 try simp only[Ja]
 refine JR 3 10 (.pointer (some ⟨rb,c,none⟩)) rfl rfl hSW (fun W hW=>by obtain ⟨q0,q1,q2,q3,q4⟩:=hW;go_simp;try rfl) ?_
 try simp only[Ja]
 refine JR 4 11 (.slice (some ⟨sb,0,none⟩) sn sc) rfl rfl hSW (fun W hW=>by obtain ⟨q0,q1,q2,q3,q4⟩:=hW;go_simp;try rfl) ?_
 try simp only[Ja]
 refine JR 5 12 (.int .i64 ii) rfl rfl hSW (fun W hW=>by obtain ⟨q0,q1,q2,q3,q4⟩:=hW;go_simp;try rfl) ?_
 try simp only[Ja]
 refine JR 6 13 (.pointer (some ⟨sb,ii,none⟩)) rfl rfl hSW (fun W hW=>by obtain ⟨q0,q1,q2,q3,q4⟩:=hW;go_simp;try rfl) ?_
 try simp only[Ja]
 refine JR 7 14 (.int .i64 (f c)) rfl rfl hSW (fun W hW=>by obtain ⟨q0,q1,q2,q3,q4⟩:=hW;go_simp;try rfl) ?_
 try simp only[Ja]
 refine JR 8 15 (.pointer (some ⟨pb,po,none⟩)) rfl rfl hSW (fun W hW=>by obtain ⟨q0,q1,q2,q3,q4⟩:=hW;go_simp;try rfl) ?_
 try simp only[Ja]
 refine Zn (i:=9) (d:=none) (w':=W2.setCell ⟨pb,po,none⟩ (.int .i64 (f c))) (by kernel_rfl) rfl rfl (by rfl) (by go_simp;try rfl) (fun h=>by cases h) ?_
 try simp only[Ja]
 refine Z3 (by kernel_rfl) ?_ _
 have hx3:Ext (·=pb) W2 (W2.setCell ⟨pb,po,none⟩ (.int .i64 (f c))):=(Ext.refl (·=pb) W2).setCell (p:=⟨pb,po,none⟩) (.inr rfl) _
 have hz2:W.heap.size≤W2.heap.size:=hW0.size
 have hB3:(W2.setCell ⟨pb,po,none⟩ (.int .i64 (f c))).heap[Bc]?=some (.cells #[.int .i64 c] 3 (0,0)):=(hx3.block _ (by omega) (fun e=>hpc e.symm)).trans hB1
 have hc3:=WX (v:=.int .i64 (f c)) hc1
 have hP3:∀ q,q≠po→(W2.setCell ⟨pb,po,none⟩ (.int .i64 (f c))).cell? ⟨pb,q,none⟩=W.cell? ⟨pb,q,none⟩:=fun q hq=>(Vw hq).trans (hW0.cell (p:=⟨pb,q,none⟩) hpl id)
 have hF3:∀ q,(W2.setCell ⟨pb,po,none⟩ (.int .i64 (f c))).frozen? ⟨pb,q,none⟩=W.frozen? ⟨pb,q,none⟩:=fun q=>(World.frozen?_setCell _ _ _ _).trans (hW0.frozen (p:=⟨pb,q,none⟩) hpl id)
 have hxa:Ext (·=pb) W (W2.setCell ⟨pb,po,none⟩ (.int .i64 (f c))):=(hW0.mono (fun _ _ f=>f.elim)).andThen hx3 (fun i hi e=>e)
 have hsh3:Shp pb W (W2.setCell ⟨pb,po,none⟩ (.int .i64 (f c))):=(Shp.same (hW0.block pb hpl id)).trans (Shp.set _ _ _ _)
 generalize W2.setCell ⟨pb,po,none⟩ (.int .i64 (f c))=W3 at hB3 hc3 hP3 hF3 hxa hsh3 ⊢
 have b3:=cell_of_one hB3
 have f3:=free_of_one hB3
 have hx4:Ext (·=Bc) W3 (W3.setCell ⟨Bc,0,none⟩ (.int .i64 ((c+1:Nat):Int))):=(Ext.refl (·=Bc) W3).setCell (p:=⟨Bc,0,none⟩) (.inr rfl) _
 have hz3:=hxa.size
 have hall:(∃ v,(Ending.returned (.tuple #[])=.returned v))∧JN W1 lo hi Bc (c+1) A (W3.setCell ⟨Bc,0,none⟩ (.int .i64 ((c+1:Nat):Int)))∧(W3.setCell ⟨Bc,0,none⟩ (.int .i64 ((c+1:Nat):Int))).cell? ⟨pb,po,none⟩=some (.int .i64 (f c)) ∧
   (∀ q,q≠po→(W3.setCell ⟨Bc,0,none⟩ (.int .i64 ((c+1:Nat):Int))).cell? ⟨pb,q,none⟩=W.cell? ⟨pb,q,none⟩)∧(∀ q,(W3.setCell ⟨Bc,0,none⟩ (.int .i64 ((c+1:Nat):Int))).frozen? ⟨pb,q,none⟩=W.frozen? ⟨pb,q,none⟩)∧Ext (fun k=>¬ A k∨k=pb) W (W3.setCell ⟨Bc,0,none⟩ (.int .i64 ((c+1:Nat):Int)))∧Shp pb W (W3.setCell ⟨Bc,0,none⟩ (.int .i64 ((c+1:Nat):Int))) :=
  ⟨⟨_,rfl⟩,⟨HA.out,fun k k1 k2 k3=>(hx4.block _ (by omega) k3).trans ((hxa.block _ (by omega) (by omega)).trans (HK.out k k1 k2 k3)),one_setCell hB3,by rw[World.size_setCell];omega,hlo1,hlo2⟩,
   (hx4.cell (p:=⟨pb,po,none⟩) (by show pb<_;omega) hpc).trans hc3,fun q hq=>(hx4.cell (p:=⟨pb,q,none⟩) (by show pb<_;omega) hpc).trans (hP3 q hq),fun q=>(hx4.frozen (p:=⟨pb,q,none⟩) (by show pb<_;omega) hpc).trans (hF3 q),
   ((hxa.mono (T:=fun k=>¬ A k∨k=pb) (fun k _ e=>.inr e))).andThen hx4 (fun i hi e=>.inl (fun ha=>by have:=HA.out i ha;omega)),hsh3.trans (Shp.same (hx4.block pb (by omega) hpc))⟩
 have HFIN:=Lib.hid hall.2
 clear hall hsh3 hx4 hxa hP3 hF3 hx3 hB3 hSW
 go_wp2_with fail
 go_end0
 exact ⟨⟨_,rfl⟩,HFIN.out⟩
end Go.Proofs.YtgmdimbiipemhaaGreatDoor
namespace Go.Proofs.YtgmdimbiipemhaaGreatDoor
open Go.RowKit
section
variable {α:Type} {ea:α→List Value} {k:Nat} {e:TypeId} {base:Nat} {w:World} {v:Value} {l:List α}
theorem TN {F:Fence} {n:Nat} {P:Program} {ops:Array Oper} {rest:List Oper} {o:Oper} {a:Act} {Q:Exit→Act→World→Prop} (hgd:o.guard=none) (s x:Operand) (t:TypeId)
  (ho:o.op=.call { callee:=.builtin .append,args:=#[s,x],argTypes:=#[t,t] })
  (i:TypeInfo) (z:Value) (bytes:Nat) (ht:P.underlying t=some (.slice e)) (hi:P.info? e=some i) (hz:i.zero=some z)
  (hsize:i.size=k) (hby:i.bytes=bytes) (hzs:z.cells.size=k) (hk0:0<k) (hk:∀ x,(ea x).length=k) (h1:∀ x,∀ u∈ea x,u.oneCell'=true)
  (hs:a.eval s=v) (hown:Own ea k e base w v l) (y:α) (nb c:Nat) (hx:a.eval x=.slice (some ⟨nb,0,none⟩) 1 c) (hnews:∀ j u,(ea y)[j]?=some u→w.cell? ⟨nb,j,none⟩=some u)
  (h63:l.length+1≤maxLen) (hbytes:(l.length+1)*bytes≤140737488355328) (hbase:base≤w.heap.size)
  (h:∀ v' w',Own ea k e base w' v' (l++[y])→Ext (fun b=>v.ownBlock=some b) w w'→wpListIn F n P ops Q rest (a.put o.dst v') w'):wpListIn F n P ops Q (o :: rest) a w:=by
 refine wpListIn_append_own w hgd s x t ho base e i z k bytes ht hi hz hsize hby hzs hk0 v l.length (l.flatMap ea) hs hown ⟨nb,0,none⟩ 1 c (ea y) hx (by rw[hk,Nat.one_mul]) (fun j u hj=>?_) (h1 y) h63 hbytes hbase (fun v' w' h2 h3 _=>h v' w' ?_ (Ext.of_grown h3))
 ·have:=hnews j u hj
  rw[show (Addr.add ⟨nb,0,none⟩ j)=⟨nb,j,none⟩ from by unfold Addr.add;split <;> simp_all]
  exact this
 ·unfold Own
  rw[List.length_append,List.flatMap_append]
  simpa using h2
end
end Go.Proofs.YtgmdimbiipemhaaGreatDoor
namespace Go.Proofs.YtgmdimbiipemhaaGreatDoor
open Go.RowKit Go.Deep
def WP (c:Nat):List Bool:=(List.range c).map dlt
theorem Re (c:Nat):(WP c).length=c:=by simp[WP]
theorem Z4H (c:Nat):WP c++[dlt c]=WP (c+1):=by simp[WP,List.range_succ]
def JC (Bo base:Nat) (c:Nat) (A:Nat→Prop) (W:World):Prop:=(∃ v,W.heap[Bo]?=some (.cells #[v] 75 (0,0))∧Own btc 1 4 base W v (WP c)∧∀ k,v.ownBlock=some k→¬ A k)∧¬ A Bo∧Bo<base∧base≤W.heap.size∧∀ k,A k→k<W.heap.size
theorem JC.jok (Bo base b:Nat):JOK b (JC Bo base):=by
 rintro c A A' W W' ⟨⟨v,h1,h2,h3⟩,h4,h5,h6,h7⟩ hx hA hb
 have hlt:=(Array.getElem?_eq_some_iff.1 h1).1
 have hs:=hx.size
 refine ⟨⟨v,(hx.block _ hlt (fun e=>h4 (by rw[e];exact hb))).trans h1,h2.ext hx (fun k hk e=>h3 k hk (by rw[e];exact hb)),fun k hk ha=>?_⟩,fun ha=>?_,h5,by omega,fun k hk=>?_⟩
 ·rcases hA k ha with e|⟨e,_⟩
  ·exact h3 k hk e
  ·have:=(h2.blk k hk).2;omega
 ·rcases hA Bo ha with e|⟨e,_⟩
  ·exact h4 e
  ·omega
 ·rcases hA k hk with e|⟨_,e⟩
  ·have:=h7 k e;omega
  ·exact e
theorem Z6X (Bo base:Nat) (o:OpD):RA Tryz.prog 145 #[.pointer (some ⟨Bo,0,none⟩)] (fld o) (fld o) (JC Bo base):=by
 rintro c A W pb po hc ⟨⟨v,hb,ho,hnA⟩,hAB,hBb,hbs,hAl⟩ hcell hfree hA
 show Calls Tryz.prog 145 #[.pointer (some ⟨pb,po,none⟩),.bool (dlt c),.pointer (some ⟨Bo,0,none⟩)] W _
 obtain ⟨i0,hi,hy0,hy1,hy2⟩:=info_parts UF
 obtain ⟨⟨sa,sn,sc⟩,e⟩:=ho.sl
 dsimp only at e
 subst e
 have b0:=cell_of_one hb
 have hlt:=(Array.getElem?_eq_some_iff.1 hb).1
 have hll:=Re c
 have HBD:Hid ((WP c).length+1≤maxLen∧((WP c).length+1)*1≤140737488355328):=Jh (by rw[hll];unfold maxLen;omega)
 have hpl:=Zq hcell
 have HW:=Jh (And.intro hcell hfree)
 clear hcell hfree hll
 go_enter Tryz.func145,Tryz.ntmps145
 go_wp2_with (at_builtin;refine ZD rfl _ _ _ rfl i0 _ 1 Tryz.underlying75 hi hy0 hy1 hy2 rfl (by omega) ZX VC rfl (ho.alloc _) (dlt c) W.heap.size 1 rfl (Um _ (dlt c)) HBD.out.1 HBD.out.2 (by simp;omega) ?_)
 intro v' w3 hown3 hx3 hn3
 obtain ⟨⟨ua,un,uc⟩,e3⟩:=hown3.sl
 dsimp only at e3
 subst e3
 rw[Z4H] at hown3
 have hne:¬ (Value.slice sa sn sc).ownBlock=some Bo:=fun e=>by have:=(ho.blk _ e).1;omega
 have hb3:w3.heap[Bo]?=some (.cells #[.slice sa sn sc] 75 (0,0)):=(hx3.block _ (by simp;omega) hne).trans ((Below.heap_alloc _ _ _ hlt).trans hb)
 have c3:=cell_of_one hb3
 have f3:=free_of_one hb3
 have hx4:Ext (·=Bo) w3 (w3.setCell ⟨Bo,0,none⟩ (.slice ua un uc)):=(Ext.refl (·=Bo) w3).setCell (p:=⟨Bo,0,none⟩) (.inr rfl) _
 have hxa:Ext (fun k=>(Value.slice sa sn sc).ownBlock=some k) W w3:=(Ext.alloc (Ext.refl _ _) _).andThen hx3 (fun i hi e=>e)
 have hpB:pb≠Bo:=fun e=>hAB (by rw[←e];exact hA)
 have hpO:¬ (Value.slice sa sn sc).ownBlock=some pb:=fun e=>hnA pb e hA
 have hP4:∀ q,(w3.setCell ⟨Bo,0,none⟩ (.slice ua un uc)).cell? ⟨pb,q,none⟩=W.cell? ⟨pb,q,none⟩:=fun q=>(hx4.cell (p:=⟨pb,q,none⟩) (by have:=hxa.size;show pb<_;omega) hpB).trans (hxa.cell (p:=⟨pb,q,none⟩) hpl hpO)
 have hF4:∀ q,(w3.setCell ⟨Bo,0,none⟩ (.slice ua un uc)).frozen? ⟨pb,q,none⟩=W.frozen? ⟨pb,q,none⟩:=fun q=>(hx4.frozen (p:=⟨pb,q,none⟩) (by have:=hxa.size;show pb<_;omega) hpB).trans (hxa.frozen (p:=⟨pb,q,none⟩) hpl hpO)
 have hs3:=hxa.size
 have hJ4:JC Bo base (c+1) A (w3.setCell ⟨Bo,0,none⟩ (.slice ua un uc)):=⟨⟨_,one_setCell hb3,hown3.ext hx4 (fun b hb e=>by have:=(hown3.blk b hb).1;omega),fun k hk ha=>(hn3 k hk).elim (fun e=>hnA k e ha) (fun e=>by have h9:=hAl k ha;omega)⟩,hAB,hBb,by rw[World.size_setCell];omega,fun k hk=>by have:=hAl k hk;rw[World.size_setCell];omega⟩
 have hX4:Ext (fun k=>¬ A k∨k=pb) W (w3.setCell ⟨Bo,0,none⟩ (.slice ua un uc)):=(hxa.mono (T:=fun k=>¬ A k∨k=pb) (fun k _ e=>.inl (hnA k e))).andThen hx4 (fun i hi e=>.inl (by rw[e];exact hAB))
 have HFIN:=Jh (And.intro hJ4 (And.intro ((hP4 po).trans HW.out.1) (And.intro (fun q (_:q≠po)=>hP4 q) (And.intro hF4 (And.intro hX4 (Shp.same (W:=W) (pb:=pb) (((hx4.block pb (by have:=hxa.size;omega) hpB)).trans (hxa.block pb hpl hpO))))))))
 clear hJ4 hP4 hF4 hX4 hxa hx3 hx4 hown3 hn3 hb3 ho hnA hb
 go_wp2_with fail
 go_end0
 exact ⟨⟨_,rfl⟩,HFIN.out⟩
def YI:OpD:=⟨⟨0,0⟩,0,0,0,0,0,0,0,0,0,⟨0,0⟩,0,0,⟨0,0⟩,⟨#[]⟩,⟨#[]⟩,⟨#[]⟩,⟨0,0⟩,false,⟨0,0⟩,false⟩
theorem Q2 (w:World):Calls Tryz.prog 91 #[] w fun e w'=>∃ v,e=.returned v∧Own btc 1 4 w.heap.size w' v (WP 21)∧Below w.heap.size w w':=by
 go_enter Tryz.func91,Tryz.ntmps91
 go_wp2_with fail
 have hb0:Below w.heap.size w ((w.alloc (.cells #[.slice none 0 0] 75)).alloc (.cells YI.cells.toArray 68)):=((Below.refl _ _).alloc (Nat.le_refl _) _).alloc (by simp) _
 have hz0:((w.alloc (.cells #[.slice none 0 0] 75)).alloc (.cells YI.cells.toArray 68)).heap.size=w.heap.size+2:=by simp
 have ho0:((w.alloc (.cells #[.slice none 0 0] 75)).alloc (.cells YI.cells.toArray 68)).heap[w.heap.size]?=some (.cells #[.slice none 0 0] 75 (0,0)):=(Below.heap_alloc _ _ _ (by simp)).trans (ZB w _)
 have hop:((w.alloc (.cells #[.slice none 0 0] 75)).alloc (.cells YI.cells.toArray 68)).heap[w.heap.size+1]?=some (.cells YI.cells.toArray 68 (0,0)):=by
  have:=ZB (w.alloc (.cells #[.slice none 0 0] 75)) (.cells YI.cells.toArray 68)
  rwa [World.size_alloc] at this
 have hA:At (w.heap.size+1) 0 YI (fld YI) ((w.alloc (.cells #[.slice none 0 0] 75)).alloc (.cells YI.cells.toArray 68)):=At.of_cells (fun j u hj=>by
  rw[Nat.zero_add]
  unfold World.cell?
  rw[hop]
  simpa using hj) (fun j hj=>by
  unfold World.frozen?
  rw[hop]
  simp)
 show Calls Tryz.prog 92 #[.pointer (some ⟨w.heap.size+1,0,none⟩),.func (.func 145) #[] #[.pointer (some ⟨w.heap.size,0,none⟩)]] ((w.alloc (.cells #[.slice none 0 0] 75)).alloc (.cells YI.cells.toArray 68)) _
 generalize (w.alloc (.cells #[.slice none 0 0] 75)).alloc (.cells YI.cells.toArray 68)=W0 at hb0 hz0 ho0 hop hA ⊢
 have hJ0:JC w.heap.size (w.heap.size+2) 0 (fun k=>k<w.heap.size∨k=w.heap.size+1) W0:=⟨⟨_,ho0,Own.nil,fun k hk=>by cases hk⟩,fun h=>by omega,by omega,by omega,fun k hk=>by omega⟩
 have HB0:=Lib.hid hb0
 refine (Qj (enters_of Tryz.func145 (by kernel_rfl) rfl) (w.heap.size+1) 0 YI (fld YI) (JC w.heap.size (w.heap.size+2)) (fun k=>k<w.heap.size∨k=w.heap.size+1) W0 (Z6X _ _ YI) (JC.jok _ _ _) (.inr rfl) hA hJ0).mono ?_
 rintro e w1 ⟨⟨v1,rfl⟩,⟨⟨v,g1,g2,g3⟩,g4,g5,g6,g7⟩,-,hx,-⟩
 have c1:=cell_of_one g1
 have HB1:Hid (Below w.heap.size w w1):=Jh (Ext.new HB0.out hx (fun i hi _ e=>e.elim (fun e=>e (.inl hi)) (fun e=>by omega)) (by omega))
 have HG:=Jh (g2.mono (show w.heap.size≤w.heap.size+2 by omega))
 clear g1 g2 g3 g4 g7 hx hJ0 hA hop ho0 hb0
 go_wp2_with fail
 go_ret
 exact ⟨_,rfl,HG.out,HB1.out⟩
def slc (s:Sl):List Value:=[.slice s.a s.n s.cap]
theorem TX (s:Sl):(slc s).length=1:=rfl
theorem Z0Q (s:Sl):∀ u∈slc s,u.oneCell'=true:=fun u hu=>by rw[slc,List.mem_singleton] at hu;subst hu;rfl
theorem Z4s (W:World) (s:Sl):∀ j u,(slc s)[j]?=some u→(W.alloc (.cells #[.slice s.a s.n s.cap] 100)).cell? ⟨W.heap.size,j,none⟩=some u:=by
 intro j u hj
 rw[World.cell?_alloc_at _ _ _ _ rfl,←hj,slc]
 simp
theorem Z07:(Tryz.prog.info? 100).map (fun i=>(i.zero,i.size,i.bytes))=some (some (.slice none 0 0),1,24):=by kernel_rfl
structure NS (w0:World) (T:Nat) (w:World) (tl:Value) (ls:List OpD) (r:List UInt8) (ca:Option Addr) (cc k:Nat) (W:World) (lo:Nat) (tb rv:Value) (L:List (List Int)) (r':List UInt8) (rs:List Sl):Prop where
 dec:ZM ls.length k r=some (L,r')
 tks:TKS w0 T W tb r' tl ls
 row:W.heap[lo]?=some (.cells #[rv] 161 (0,0))
 own:Own slc 1 100 (lo+1) W rv rs
 num:∀ i s,rs[i]?=some s→Own Zh 1 3 (lo+1) W (.slice s.a s.n s.cap) (L.getD i [])
 len:rs.length=k
 col:Own btc 1 4 (lo+1) W (.slice ca 21 cc) (WP 21)
 siz:lo+1≤W.heap.size
 apt:T<lo∧∀ b,tl.ownBlock=some b→b<lo
theorem NS.below {w0:World} {T:Nat} {w:World} {tl:Value} {ls:List OpD} {r:List UInt8} {ca:Option Addr} {cc k:Nat} {W W':World} {lo:Nat} {tb rv:Value} {L:List (List Int)} {r':List UInt8} {rs:List Sl} (h:NS w0 T w tl ls r ca cc k W lo tb rv L r' rs) (hb:Below W.heap.size W W'):NS w0 T w tl ls r ca cc k W' lo tb rv L r' rs :=
 ⟨h.dec,h.tks.below hb,(hb.block _ (by have:=h.siz;omega)).trans h.row,h.own.below1 hb,fun i s hs=>(h.num i s hs).below1 hb,h.len,h.col.below1 hb,Nat.le_trans h.siz hb.size,h.apt⟩
theorem NS.push {w0:World} {T:Nat} {w:World} {tl:Value} {ls:List OpD} {r:List UInt8} {ca:Option Addr} {cc k:Nat} {w3 w4:World} {lo:Nat} {tb tb' rv rv':Value} {L:List (List Int)} {r':List UInt8} {rs:List Sl} {l:List Int} {u:Nat} {s:Sl} {x:Obj} (h:NS w0 T w tl ls r ca cc k w3 lo tb rv L r' rs) (hn:ls.length≤65536)
  (hcd:WK ls.length (dlt k) r'=some (l,u)) (hl:Own Zh 1 3 (lo+1) w3 (.slice s.a s.n s.cap) l) (h4:Own slc 1 100 (lo+1) w4 rv' (rs++[s])) (hx:Ext (fun b=>rv.ownBlock=some b) (w3.alloc x) w4) (hbyt:Z0 u8c 1 w0 tb' (r'.drop u)) :
  NS w0 T w tl ls r ca cc (k+1) ((w4.setCell ⟨lo,0,none⟩ rv').setCell ⟨T,0,none⟩ tb') lo tb' rv' (L++[l]) (r'.drop u) (rs++[s]):=by
 have hL:=(TP hn h.dec).1
 have hxa:Ext (fun b=>rv.ownBlock=some b) w3 w4:=((Ext.refl _ _).alloc _).andThen hx (fun i hi e=>e)
 have hx5:Ext (·=lo) w4 (w4.setCell ⟨lo,0,none⟩ rv'):=(Ext.refl (·=lo) w4).setCell (p:=⟨lo,0,none⟩) (.inr rfl) _
 have hx6:Ext (·=T) (w4.setCell ⟨lo,0,none⟩ rv') ((w4.setCell ⟨lo,0,none⟩ rv').setCell ⟨T,0,none⟩ tb'):=(Ext.refl (·=T) _).setCell (p:=⟨T,0,none⟩) (.inr rfl) _
 have hTl:=h.apt.1
 have hno:∀ b,rv.ownBlock=some b→lo+1≤b:=fun b hb=>(h.own.blk b hb).1
 have hz:=hxa.size
 have hsz:=h.siz
 have hz5:(w4.setCell ⟨lo,0,none⟩ rv').heap.size=w4.heap.size:=World.size_setCell _ _ _
 have hall:Ext (fun b=>rv.ownBlock=some b∨b=lo∨b=T) w3 ((w4.setCell ⟨lo,0,none⟩ rv').setCell ⟨T,0,none⟩ tb'):=((hxa.mono (fun _ _ e=>.inl e)).andThen hx5 (fun i hi e=>.inr (.inl e))).andThen hx6 (fun i hi e=>.inr (.inr e))
 have hrow4:w4.heap[lo]?=some (.cells #[rv] 161 (0,0)):=(hxa.block _ (by omega) (fun e=>by have:=hno _ e;omega)).trans h.row
 have hT5:(w4.setCell ⟨lo,0,none⟩ rv').heap[T]?=some (.cells #[tb,tl] 90 (0,0)):=(hx5.block _ (by omega) (by omega)).trans ((hxa.block _ (by omega) (fun e=>by have:=hno _ e;omega)).trans h.tks.cell)
 have hnew:w0.heap.size≤T:=h.tks.new
 have keep:∀ {α:Type} {ea:α→List Value} {q:Nat} {t:TypeId} {v:Value} {m:List α},t≠100→Own ea q t (lo+1) w3 v m→Own ea q t (lo+1) ((w4.setCell ⟨lo,0,none⟩ rv').setCell ⟨T,0,none⟩ tb') v m:=fun ht hm=>hm.ext hall (fun b hb e=>by
  rcases e with e|e|e
  ·obtain ⟨c1,g1⟩:=hm.tag hb
   obtain ⟨c2,g2⟩:=h.own.tag e
   rw[g1] at g2
   cases g2
   exact ht rfl
  ·have:=(hm.blk b hb).1;omega
  ·have:=(hm.blk b hb).1;omega)
 refine ⟨VK h.dec hcd,⟨?_,hbyt,h.tks.own.ext hall (fun b hb e=>?_),Ext.new h.tks.bel hall (fun i hi _ e=>?_) h.tks.bel.size,hnew,h.tks.fltKeep hall (fun e=>by
  have hf:=h.tks.flt
  rcases e with e|e|e
  ·obtain ⟨c2,g2⟩:=h.own.tag e
   rw[hf] at g2
   cases g2
  ·have g2:=h.row
   rw[←e,hf] at g2
   cases g2
  ·omega)⟩,?_,(h4.ext hx5 (fun b hb e=>by have:=(h4.blk b hb).1;omega)).ext hx6 (fun b hb e=>by have:=(h4.blk b hb).1;omega),fun i s2 hs=>?_,by rw[List.length_append,h.len];rfl,keep (by decide) h.col,by have:=hall.size;omega,h.apt⟩
 ·rw[heap_setCell_same _ T 0 _ _ _ hT5]
  rfl
 ·have:=h.apt.2 b hb
  rcases e with e|e|e
  ·have:=hno b e;omega
  ·omega
  ·have hc:=h.tks.cell
   obtain ⟨c1,g1⟩:=h.tks.own.tag hb
   rw[e,hc] at g1
   cases g1
 ·rcases e with e|e|e
  ·have:=hno i e;omega
  ·omega
  ·omega
 ·exact (hx6.block _ (by omega) (by omega)).trans (one_setCell hrow4)
 ·by_cases hi:i<rs.length
  ·rw[List.getElem?_append_left hi] at hs
   have:=keep (by decide) (h.num i s2 hs)
   rwa [show (L++[l]).getD i []=L.getD i [] by rw[List.getD_eq_getElem?_getD,List.getD_eq_getElem?_getD,List.getElem?_append_left (by rw[hL,←h.len];exact hi)]]
  ·rw[List.getElem?_append_right (by omega)] at hs
   have hi2:i - rs.length=0:=by
    have:=(List.getElem?_eq_some_iff.1 hs).1
    simp at this
    omega
   rw[hi2] at hs
   cases hs
   rw[show (L++[l]).getD i []=l by rw[List.getD_eq_getElem?_getD,List.getElem?_append_right (by rw[hL,←h.len];omega),hL,←h.len,hi2];rfl]
   exact keep (by decide) hl
structure N2 (w0:World) (T:Nat) (tl:Value) (ls:List OpD) (lo:Nat) (tb rv:Value) (L:List (List Int)) (r':List UInt8) (rs:List Sl) (i:Nat) (W:World):Prop where
 tks:TKS w0 T W tb r' tl (Xi L i ls)
 row:W.heap[lo]?=some (.cells #[rv] 161 (0,0))
 own:Own slc 1 100 (lo+1) W rv rs
 num:∀ i s,rs[i]?=some s→Own Zh 1 3 (lo+1) W (.slice s.a s.n s.cap) (L.getD i [])
 siz:lo+1≤W.heap.size
theorem N2.reads {w0:World} {T:Nat} {tl:Value} {ls:List OpD} {lo:Nat} {tb rv:Value} {L:List (List Int)} {r':List UInt8} {rs:List Sl} {i:Nat} {W:World} (h:N2 w0 T tl ls lo tb rv L r' rs i W) (hr:rs.length=21) (hL:L.length=21∧∀ x∈L,x.length=ls.length) (hi:i<ls.length) :
  ∃ rb rcap,rv=.slice (some ⟨rb,0,none⟩) 21 rcap∧lo+1≤rb∧rb<W.heap.size∧∀ c,c<21→∃ sb sn sc,W.cell? ⟨rb,c,none⟩=some (.slice (some ⟨sb,0,none⟩) sn sc)∧(lo+1≤sb∧sb<W.heap.size)∧i<sn∧W.cell? ⟨sb,i,none⟩=some (.int .i64 (WV L i c)):=by
 rcases h.own.eq_slice with ⟨_,e⟩|⟨rb,rcap,e,h1,h2⟩
 ·rw[e] at hr;simp at hr
 ·rw[hr] at e
  refine ⟨rb,rcap,e,h1,h2,fun c hc=>?_⟩
  obtain ⟨s,hs⟩:∃ s,rs[c]?=some s:=⟨_,List.getElem?_eq_getElem (by omega)⟩
  have hown:=h.own
  rw[e,←hr] at hown
  have h3:=hown.cellAt TX (i:=c) (j:=0) hs rfl
  rw[Nat.mul_one,Nat.add_zero] at h3
  have h4:=h.num c s hs
  have hLc:(L.getD c []).length=ls.length:=by
   obtain ⟨y,hy⟩:∃ y,L[c]?=some y:=⟨_,List.getElem?_eq_getElem (by omega)⟩
   rw[List.getD_eq_getElem?_getD,hy]
   exact hL.2 y (List.mem_of_getElem? hy)
  rcases h4.eq_slice with ⟨_,e4⟩|⟨sb,sc,e4,h5,h6⟩
  ·rw[e4] at hLc;simp at hLc;omega
  ·obtain ⟨x,hx⟩:∃ x,(L.getD c [])[i]?=some x:=⟨_,List.getElem?_eq_getElem (by omega)⟩
   have h7:=h4
   rw[e4] at h7
   have h8:=h7.cellAt Zg (i:=i) (j:=0) hx rfl
   rw[Nat.mul_one,Nat.add_zero] at h8
   refine ⟨sb,_,sc,by rw[h3,e4],⟨h5,h6⟩,by omega,?_⟩
   rw[h8]
   unfold WV
   rw[List.getD_eq_getElem?_getD (l:=L.getD c []),hx]
   rfl
theorem N2.ext {w0:World} {T:Nat} {tl:Value} {ls:List OpD} {lo:Nat} {tb rv:Value} {L:List (List Int)} {r':List UInt8} {rs:List Sl} {i:Nat} {W W':World} {S:Nat→Prop} (h:N2 w0 T tl ls lo tb rv L r' rs i W) (hx:Ext S W W') (hS:∀ k,S k→k<W.heap.size→False) (ha:T<lo∧∀ b,tl.ownBlock=some b→b<lo):N2 w0 T tl ls lo tb rv L r' rs i W' :=
 ⟨h.tks.ext hx (fun e=>hS _ e (by have:=h.siz;omega)) (fun k hk e=>hS k e (by have:=ha.2 k hk;have:=h.siz;omega)) (fun k hk e=>hS k e (by have:=h.tks.bel.size;omega)) (fun e=>hS _ e (Array.getElem?_eq_some_iff.1 h.tks.flt).1),(hx.block _ (by have:=h.siz;omega) (fun e=>hS _ e (by have:=h.siz;omega))).trans h.row,h.own.ext hx (fun b hb e=>hS b e (h.own.blk b hb).2),fun j s hs=>(h.num j s hs).ext hx (fun b hb e=>hS b e ((h.num j s hs).blk b hb).2),Nat.le_trans h.siz hx.size⟩
theorem N2.put {w0:World} {T g lc Bc:Nat} {ls:List OpD} {lo:Nat} {tb rv:Value} {L:List (List Int)} {r':List UInt8} {rs:List Sl} {i:Nat} {W0 W W':World} {x:OpD} (h:N2 w0 T (.slice (some ⟨g,0,none⟩) ls.length lc) ls lo tb rv L r' rs i W) (h0:N2 w0 T (.slice (some ⟨g,0,none⟩) ls.length lc) ls lo tb rv L r' rs i W0) (hx:Ext (fun k=>k=g∨k=Bc) W W') (hBc:W0.heap.size≤Bc) (hxi:ls[i]?=some x) (hA:At g (i*26) x (WV L i) W') (hR:Rst g (i*26) W W') (ha:T<lo∧∀ b,(Value.slice (some ⟨g,0,none⟩) ls.length lc).ownBlock=some b→b<lo) :
  N2 w0 T (.slice (some ⟨g,0,none⟩) ls.length lc) ls lo tb rv L r' rs (i+1) W':=by
 have hg:=ha.2 g rfl
 have h1:=h0.siz
 have hTg:T≠g:=fun e=>by
  have h1:=h.tks.cell
  obtain ⟨c2,h2⟩:=h.tks.own.tag (b:=g) rfl
  rw[e,h2] at h1
  cases h1
 have hgn:=(h.tks.own.blk g rfl).1
 have hb0:=h.tks.bel.size
 have hb1:=h0.tks.bel.size
 refine ⟨⟨(hx.block T (Array.getElem?_eq_some_iff.1 h.tks.cell).1 (fun e=>e.elim hTg (fun e=>by omega))).trans h.tks.cell,h.tks.byt,?_,Ext.new h.tks.bel hx (fun k hk _ e=>e.elim (fun e=>by omega) (fun e=>by omega)) h.tks.bel.size,h.tks.new,h.tks.fltKeep hx (fun e=>e.elim (fun e=>by
  obtain ⟨c2,h2⟩:=h.tks.own.tag (b:=g) rfl
  have h1:=h.tks.flt
  rw[e,h2] at h1
  cases h1) (fun e=>by have:=(Array.getElem?_eq_some_iff.1 h0.tks.flt).1;omega))⟩,(hx.block lo (Array.getElem?_eq_some_iff.1 h.row).1 (fun e=>e.elim (fun e=>by omega) (fun e=>by omega))).trans h.row,h.own.ext hx (fun b hb e=>by have h5:=h0.own.blk b hb;rcases e with e|e <;> omega),fun j s hs=>(h.num j s hs).ext hx (fun b hb e=>by have h5:=(h0.num j s hs).blk b hb;rcases e with e|e <;> omega),Nat.le_trans h.siz hx.size⟩
 rw[Z5x L i hxi]
 exact h.tks.own.putOp (Z49 L i hxi) hA hR
def Tx (what:ByteArray) (n:Int):Value:=.iface 187 (.agg #[.string what,.iface 91 (.int .i64 n)])
theorem Z3A (w0:World) (T:Nat) (w:World) (tb tl:Value) (r:List UInt8) (ls:List OpD) (h:TKS w0 T w tb r tl ls) (hn:ls.length≤200):Calls Tryz.prog 104 #[.pointer (some ⟨T,0,none⟩)] w fun e w' =>
  (∃ L r' tb',ZM ls.length 21 r=some (L,r')∧e=.returned .nilIface∧TKS w0 T w' tb' r' tl (Xi L ls.length ls))∨(ZM ls.length 21 r=none∧(∃ s m,e=.returned (Tx s m))∧Kp w0 T w'):=by
 obtain ⟨⟨la,ln,lc⟩,el⟩:=h.own.sl
 dsimp only at el
 subst el
 obtain rfl:ln=ls.length:=(h.own.nlen OpD.len).1
 have HT:=Lib.hid h
 have hTl:=(Array.getElem?_eq_some_iff.1 h.cell).1
 have hLl:=fun b hb=>(h.own.blk b hb).2
 clear h
 go_enter Tryz.func104,Tryz.ntmps104
 go_wp2_with fail
 obtain ⟨lo,hlo⟩:∃ lo,lo=w.heap.size:=⟨_,rfl⟩
 rw[←hlo]
 have HLO:=Lib.hid hlo
 refine (Q2 _).mono ?_
 rintro e w5 ⟨v5,rfl,hown5,b5⟩
 obtain ⟨⟨ca,cn,cc⟩,e5⟩:=hown5.sl
 dsimp only at e5
 subst e5
 obtain rfl:cn=21:=by have:=(hown5.nlen ZX).1;rw[Re] at this;exact this
 have HS0:Hid (NS w0 T w (.slice la ls.length lc) ls r ca cc 0 w5 lo tb (.slice none 0 0) [] r []):=Jh (by
  have hz:lo+1≤(w.alloc (.cells #[.slice none 0 0] 161)).heap.size:=by rw[World.size_alloc];omega
  refine ⟨rfl,?_,?_,Own.nil,fun i s hs=>by simp at hs,rfl,hown5.mono hz,Nat.le_trans hz b5.size,by omega,fun b hb=>by have:=hLl b hb;omega⟩
  ·exact TKS.below (HT.out.ext ((Ext.refl (fun _=>False) w).alloc _) id (fun _ _=>id) (fun _ _=>id) id) b5
  ·exact (b5.block _ (by omega)).trans (by rw[hlo];exact ZB w _))
 clear hown5 b5 hlo hTl hLl
 go_wp2_with fail
 go_loopg [14] 21 (fun g kv wx=>∃ (k:Nat) (tb rv:Value) (L:List (List Int)) (r2:List UInt8) (rs:List Sl),g=21 - k∧kv=.int .i64 k∧k≤21∧Hid (NS w0 T w (.slice la ls.length lc) ls r ca cc k wx lo tb rv L r2 rs))
 case atStart=>exact ⟨0,_,_,_,_,_,rfl,rfl,by omega,HS0⟩
 case round =>
  clear HS0
  obtain ⟨k,tb1,rv,L,r2,rs,hg,rfl,hk,HR⟩:=hrel
  have HG:=Lib.hid hg
  clear hg
  by_cases hlt:k<21
  ·have hk1:(k:Int)<21:=by omega
   obtain ⟨b9,o9,e9,c9⟩:=(HR.out.col.slice ZX).at1 (k:=k) (x:=dlt k) (by simp[WP,hlt]) rfl
   cases e9
   obtain ⟨ta,tcap,rfl,htc,htm,-⟩:=id HR.out.tks.byt
   unfold maxLen at htm
   have hc0:=HR.out.tks.cell
   have HB:=Lib.hid HR.out.tks.bytes
   have hSW:(fun W:World=>W.cell? ⟨T,0,none⟩=some (.slice ta r2.length tcap)∧W.cell? ⟨T,1,none⟩=some (.slice la ls.length lc)) wr.drew:=⟨by show World.cell? wr _=_;simp[World.cell?,hc0],by show World.cell? wr _=_;simp[World.cell?,hc0]⟩
   clear hc0
   cases hd:dlt k with
   | false =>
    have hcd:WK ls.length (dlt k) r2=YT ls.length none r2:=by unfold WK;rw[hd];rfl
    have HCD:=Lib.hid hcd
    rw[hd] at c9
    clear hd hcd
    go_upto_region 8 with fail
    clear c9
    refine Z6 (fun W:World=>W.cell? ⟨T,0,none⟩=some (.slice ta r2.length tcap)∧W.cell? ⟨T,1,none⟩=some (.slice la ls.length lc)) (fun i=>i == 17) (by kernel_rfl) ?_
    have HR1:Hid (NS w0 T w (.slice la ls.length lc) ls r _ cc k wr.drew lo (.slice ta r2.length tcap) rv L r2 rs):=Jh (HR.out.below (Below.refl _ _).drew)
    have HB1:Hid (Z0 u8c 1 wr.drew (.slice ta r2.length tcap) r2):=Jh (HR1.out.tks.bytes)
    generalize wr.drew=W1 at hSW HR1 HB1 ⊢
    refine J2 0 20 _ hSW ?_
    try simp only[Ja]
    refine J2 1 21 _ hSW ?_
    try simp only[Ja]
    refine J2 2 22 (.pointer (some ⟨T,0,none⟩)) hSW ?_
    try simp only[Ja]
    refine J2 3 23 (.pointer (some ⟨T,0,none⟩)) hSW ?_
    try simp only[Ja]
    refine J2 4 24 (.slice ta r2.length tcap) hSW ?_
    try simp only[Ja]
    refine J2 5 25 _ hSW ?_
    try simp only[Ja]
    refine J2 6 26 (.pointer (some ⟨T,0,none⟩)) hSW ?_
    try simp only[Ja]
    refine J2 7 27 (.pointer (some ⟨T,1,none⟩)) hSW ?_
    try simp only[Ja]
    refine J2 8 28 (.slice la ls.length lc) hSW ?_
    try simp only[Ja]
    refine J2 9 29 (.int .i64 ls.length) hSW ?_
    try simp only[Ja]
    refine Zm (i:=10) (d:=some 30) (f:=153) (args:=#[.slice ta r2.length tcap,.int .i64 ls.length]) (w':=W1) (by kernel_rfl) rfl rfl (by rfl) (by go_simp;try rfl) ?_
    refine (Tc _ r2 ls.length _ HB1.out (by omega)).mono ?_
    rintro e w3 (⟨l,u,v,hdec,rfl,hown,hb⟩|⟨hdec,rfl,hb⟩)
    ·have hS3:(fun W:World=>W.cell? ⟨T,0,none⟩=some (.slice ta r2.length tcap)∧W.cell? ⟨T,1,none⟩=some (.slice la ls.length lc)) w3:=⟨(hb.cell (p:=⟨T,0,none⟩) (Zq hSW.1)).trans hSW.1,(hb.cell (p:=⟨T,1,none⟩) (Zq hSW.2)).trans hSW.2⟩
     have HR3:=Jh (HR1.out.below hb)
     refine ⟨_,rfl,fun _=>hS3,?_⟩
     try simp only[Ja]
     refine J2 11 19 (.tuple #[v,.int .i64 (u:Nat),.int .i64 0]) hS3 ?_
     try simp only[Ja]
     refine J2 12 31 v hS3 ?_
     try simp only[Ja]
     refine J2 13 32 (.int .i64 (u:Nat)) hS3 ?_
     try simp only[Ja]
     refine J2 14 33 (.int .i64 0) hS3 ?_
     try simp only[Ja]
     refine J2 15 7 v hS3 ?_
     try simp only[Ja]
     refine J2 16 8 (.int .i64 (u:Nat)) hS3 ?_
     try simp only[Ja]
     refine Zk (i:=17) (d:=some 9) (v:=.int .i64 0) (w':=w3) (by kernel_rfl) rfl rfl (by rfl) (by go_simp;try rfl) (fun h=>by cases h) ?_
     try simp only[Ja]
     refine Z3 (by kernel_rfl) ?_ _
     clear hS3 hSW
     have HDEC:=Jh (HCD.out.trans hdec)
     clear hdec
     have hcf:=Vh (by omega) HDEC.out
     have hul:=hcf.2
     obtain ⟨⟨pa,pn,pc⟩,ep⟩:=hown.sl
     dsimp only at ep
     subst ep
     obtain ⟨⟨va,vn,vc⟩,ev⟩:=HR3.out.own.sl
     dsimp only at ev
     subst ev
     have HOWN:Hid (Own Zh 1 3 (lo+1) w3 (.slice pa pn pc) l):=Jh (hown.mono HR1.out.siz)
     obtain ⟨a1,c1,hsl,hS1,-⟩:=ZE (P:=Tryz.prog) (ea:=u8c) Tryz.underlying22 Zi ta r2.length tcap u htc hul
     have HBY:=Jh (hS1 w0 r2 rfl HR3.out.tks.byt)
     obtain ⟨i0,hi,hy0,hy1,hy2⟩:=info_parts Z07
     have HBD:Hid (rs.length+1≤maxLen∧(rs.length+1)*24≤140737488355328):=Jh (by rw[HR3.out.len];unfold maxLen;omega)
     have c0:=cell_of_one HR3.out.row
     have hne:¬ T=lo:=by have:=HR3.out.apt.1;omega
     clear hown hcf hS1
     go_wp2_with (at_builtin;refine ZD rfl _ _ _ rfl i0 _ 24 Tryz.underlying161 hi hy0 hy1 hy2 rfl (by omega) TX Z0Q rfl (HR3.out.own.alloc _) (⟨pa,pn,pc⟩:Sl) w3.heap.size 1 rfl (Z4s _ ⟨pa,pn,pc⟩) HBD.out.1 HBD.out.2 (by have:=HR3.out.siz;simp;omega) ?_)
     intro v' w4 hown4 hx4 hn4
     obtain ⟨⟨ua,un,uc⟩,e4⟩:=hown4.sl
     dsimp only at e4
     subst e4
     have hxa:Ext (fun b=>(Value.slice va vn vc).ownBlock=some b) w3 w4:=((Ext.refl _ _).alloc _).andThen hx4 (fun i hi e=>e)
     have g4:w4.heap[lo]?=some (.cells #[.slice va vn vc] 161 (0,0)):=(hxa.block _ (by have:=HR3.out.siz;omega) (fun e=>by have:=(HR3.out.own.blk _ e).1;omega)).trans HR3.out.row
     have gT:w4.heap[T]?=some (.cells #[.slice ta r2.length tcap,.slice la ls.length lc] 90 (0,0)):=(hxa.block _ (by have:=HR3.out.siz;have:=HR3.out.apt.1;omega) (fun e=>by have:=(HR3.out.own.blk _ e).1;have:=HR3.out.apt.1;omega)).trans HR3.out.tks.cell
     have c4:=cell_of_one g4
     have f4:=free_of_one g4
     have cT:w4.cell? ⟨T,0,none⟩=some (.slice ta r2.length tcap):=by simp[World.cell?,gT]
     have fT:w4.frozen? ⟨T,0,none⟩=false:=by simp[World.frozen?,gT]
     have HN:=Jh (HR3.out.push (by omega) HDEC.out HOWN.out hown4 hx4 HBY.out)
     clear hown4 hx4 hn4 hxa g4 gT HOWN HBY c0
     go_wp2_with fail
     go_roundg (21 - (k+1))
     case measure=>rw[HG.out];omega
     case rel=>exact ⟨k+1,_,_,_,_,_,rfl,by simp,by omega,HN⟩
    ·have hS3:(fun W:World=>W.cell? ⟨T,0,none⟩=some (.slice ta r2.length tcap)∧W.cell? ⟨T,1,none⟩=some (.slice la ls.length lc)) w3:=⟨(hb.cell (p:=⟨T,0,none⟩) (Zq hSW.1)).trans hSW.1,(hb.cell (p:=⟨T,1,none⟩) (Zq hSW.2)).trans hSW.2⟩
     have HR3:=Jh (HR1.out.below hb)
     refine ⟨_,rfl,fun _=>hS3,?_⟩
     try simp only[Ja]
     refine J2 11 19 (.tuple #[.slice none 0 0,.int .i64 0,.int .i64 41]) hS3 ?_
     try simp only[Ja]
     refine J2 12 31 (.slice none 0 0) hS3 ?_
     try simp only[Ja]
     refine J2 13 32 (.int .i64 0) hS3 ?_
     try simp only[Ja]
     refine J2 14 33 (.int .i64 41) hS3 ?_
     try simp only[Ja]
     refine J2 15 7 (.slice none 0 0) hS3 ?_
     try simp only[Ja]
     refine J2 16 8 (.int .i64 0) hS3 ?_
     try simp only[Ja]
     refine Zk (i:=17) (d:=some 9) (v:=.int .i64 41) (w':=w3) (by kernel_rfl) rfl rfl (by rfl) (by go_simp;try rfl) (fun h=>by cases h) ?_
     try simp only[Ja]
     refine Z3 (by kernel_rfl) ?_ _
     clear hS3 hSW
     have HBAD:Hid (ZM ls.length 21 r=none):=Jh (Vp HR3.out.dec (HCD.out.trans hdec) hlt)
     clear hdec
     go_wp2_with fail
     go_ret
     exact .inr ⟨HBAD.out,⟨_,_,rfl⟩,HR3.out.tks.kp⟩
   | true =>
    have hcd:WK ls.length (dlt k) r2=VY ls.length r2:=by unfold WK;rw[hd];rfl
    have HCD:=Lib.hid hcd
    rw[hd] at c9
    clear hd hcd
    go_upto_region 8 with fail
    clear c9
    refine Z6 (fun W:World=>W.cell? ⟨T,0,none⟩=some (.slice ta r2.length tcap)∧W.cell? ⟨T,1,none⟩=some (.slice la ls.length lc)) (fun i=>i == 17) (by kernel_rfl) ?_
    have HR1:Hid (NS w0 T w (.slice la ls.length lc) ls r _ cc k wr.drew lo (.slice ta r2.length tcap) rv L r2 rs):=Jh (HR.out.below (Below.refl _ _).drew)
    have HB1:Hid (Z0 u8c 1 wr.drew (.slice ta r2.length tcap) r2):=Jh (HR1.out.tks.bytes)
    generalize wr.drew=W1 at hSW HR1 HB1 ⊢
    refine J2 0 20 _ hSW ?_
    try simp only[Ja]
    refine J2 1 21 _ hSW ?_
    try simp only[Ja]
    refine J2 2 22 (.pointer (some ⟨T,0,none⟩)) hSW ?_
    try simp only[Ja]
    refine J2 3 23 (.pointer (some ⟨T,0,none⟩)) hSW ?_
    try simp only[Ja]
    refine J2 4 24 (.slice ta r2.length tcap) hSW ?_
    try simp only[Ja]
    refine J2 5 25 _ hSW ?_
    try simp only[Ja]
    refine J2 6 26 (.pointer (some ⟨T,0,none⟩)) hSW ?_
    try simp only[Ja]
    refine J2 7 27 (.pointer (some ⟨T,1,none⟩)) hSW ?_
    try simp only[Ja]
    refine J2 8 28 (.slice la ls.length lc) hSW ?_
    try simp only[Ja]
    refine J2 9 29 (.int .i64 ls.length) hSW ?_
    try simp only[Ja]
    refine Zm (i:=10) (d:=some 30) (f:=154) (args:=#[.slice ta r2.length tcap,.int .i64 ls.length]) (w':=W1) (by kernel_rfl) rfl rfl (by rfl) (by go_simp;try rfl) ?_
    refine (Z0G _ r2 ls.length _ HB1.out (by omega)).mono ?_
    rintro e w3 (⟨l,u,v,hdec,rfl,hown,hb⟩|⟨hdec,rfl,hb⟩)
    ·have hS3:(fun W:World=>W.cell? ⟨T,0,none⟩=some (.slice ta r2.length tcap)∧W.cell? ⟨T,1,none⟩=some (.slice la ls.length lc)) w3:=⟨(hb.cell (p:=⟨T,0,none⟩) (Zq hSW.1)).trans hSW.1,(hb.cell (p:=⟨T,1,none⟩) (Zq hSW.2)).trans hSW.2⟩
     have HR3:=Jh (HR1.out.below hb)
     refine ⟨_,rfl,fun _=>hS3,?_⟩
     try simp only[Ja]
     refine J2 11 19 (.tuple #[v,.int .i64 (u:Nat),.int .i64 0]) hS3 ?_
     try simp only[Ja]
     refine J2 12 31 v hS3 ?_
     try simp only[Ja]
     refine J2 13 32 (.int .i64 (u:Nat)) hS3 ?_
     try simp only[Ja]
     refine J2 14 33 (.int .i64 0) hS3 ?_
     try simp only[Ja]
     refine J2 15 7 v hS3 ?_
     try simp only[Ja]
     refine J2 16 8 (.int .i64 (u:Nat)) hS3 ?_
     try simp only[Ja]
     refine Zk (i:=17) (d:=some 9) (v:=.int .i64 0) (w':=w3) (by kernel_rfl) rfl rfl (by rfl) (by go_simp;try rfl) (fun h=>by cases h) ?_
     try simp only[Ja]
     refine Z3 (by kernel_rfl) ?_ _
     clear hS3 hSW
     have HDEC:=Jh (HCD.out.trans hdec)
     clear hdec
     have hcf:=Vh (by omega) HDEC.out
     have hul:=hcf.2
     obtain ⟨⟨pa,pn,pc⟩,ep⟩:=hown.sl
     dsimp only at ep
     subst ep
     obtain ⟨⟨va,vn,vc⟩,ev⟩:=HR3.out.own.sl
     dsimp only at ev
     subst ev
     have HOWN:Hid (Own Zh 1 3 (lo+1) w3 (.slice pa pn pc) l):=Jh (hown.mono HR1.out.siz)
     obtain ⟨a1,c1,hsl,hS1,-⟩:=ZE (P:=Tryz.prog) (ea:=u8c) Tryz.underlying22 Zi ta r2.length tcap u htc hul
     have HBY:=Jh (hS1 w0 r2 rfl HR3.out.tks.byt)
     obtain ⟨i0,hi,hy0,hy1,hy2⟩:=info_parts Z07
     have HBD:Hid (rs.length+1≤maxLen∧(rs.length+1)*24≤140737488355328):=Jh (by rw[HR3.out.len];unfold maxLen;omega)
     have c0:=cell_of_one HR3.out.row
     have hne:¬ T=lo:=by have:=HR3.out.apt.1;omega
     clear hown hcf hS1
     go_wp2_with (at_builtin;refine ZD rfl _ _ _ rfl i0 _ 24 Tryz.underlying161 hi hy0 hy1 hy2 rfl (by omega) TX Z0Q rfl (HR3.out.own.alloc _) (⟨pa,pn,pc⟩:Sl) w3.heap.size 1 rfl (Z4s _ ⟨pa,pn,pc⟩) HBD.out.1 HBD.out.2 (by have:=HR3.out.siz;simp;omega) ?_)
     intro v' w4 hown4 hx4 hn4
     obtain ⟨⟨ua,un,uc⟩,e4⟩:=hown4.sl
     dsimp only at e4
     subst e4
     have hxa:Ext (fun b=>(Value.slice va vn vc).ownBlock=some b) w3 w4:=((Ext.refl _ _).alloc _).andThen hx4 (fun i hi e=>e)
     have g4:w4.heap[lo]?=some (.cells #[.slice va vn vc] 161 (0,0)):=(hxa.block _ (by have:=HR3.out.siz;omega) (fun e=>by have:=(HR3.out.own.blk _ e).1;omega)).trans HR3.out.row
     have gT:w4.heap[T]?=some (.cells #[.slice ta r2.length tcap,.slice la ls.length lc] 90 (0,0)):=(hxa.block _ (by have:=HR3.out.siz;have:=HR3.out.apt.1;omega) (fun e=>by have:=(HR3.out.own.blk _ e).1;have:=HR3.out.apt.1;omega)).trans HR3.out.tks.cell
     have c4:=cell_of_one g4
     have f4:=free_of_one g4
     have cT:w4.cell? ⟨T,0,none⟩=some (.slice ta r2.length tcap):=by simp[World.cell?,gT]
     have fT:w4.frozen? ⟨T,0,none⟩=false:=by simp[World.frozen?,gT]
     have HN:=Jh (HR3.out.push (by omega) HDEC.out HOWN.out hown4 hx4 HBY.out)
     clear hown4 hx4 hn4 hxa g4 gT HOWN HBY c0
     go_wp2_with fail
     go_roundg (21 - (k+1))
     case measure=>rw[HG.out];omega
     case rel=>exact ⟨k+1,_,_,_,_,_,rfl,by simp,by omega,HN⟩
    ·have hS3:(fun W:World=>W.cell? ⟨T,0,none⟩=some (.slice ta r2.length tcap)∧W.cell? ⟨T,1,none⟩=some (.slice la ls.length lc)) w3:=⟨(hb.cell (p:=⟨T,0,none⟩) (Zq hSW.1)).trans hSW.1,(hb.cell (p:=⟨T,1,none⟩) (Zq hSW.2)).trans hSW.2⟩
     have HR3:=Jh (HR1.out.below hb)
     refine ⟨_,rfl,fun _=>hS3,?_⟩
     try simp only[Ja]
     refine J2 11 19 (.tuple #[.slice none 0 0,.int .i64 0,.int .i64 41]) hS3 ?_
     try simp only[Ja]
     refine J2 12 31 (.slice none 0 0) hS3 ?_
     try simp only[Ja]
     refine J2 13 32 (.int .i64 0) hS3 ?_
     try simp only[Ja]
     refine J2 14 33 (.int .i64 41) hS3 ?_
     try simp only[Ja]
     refine J2 15 7 (.slice none 0 0) hS3 ?_
     try simp only[Ja]
     refine J2 16 8 (.int .i64 0) hS3 ?_
     try simp only[Ja]
     refine Zk (i:=17) (d:=some 9) (v:=.int .i64 41) (w':=w3) (by kernel_rfl) rfl rfl (by rfl) (by go_simp;try rfl) (fun h=>by cases h) ?_
     try simp only[Ja]
     refine Z3 (by kernel_rfl) ?_ _
     clear hS3 hSW
     have HBAD:Hid (ZM ls.length 21 r=none):=Jh (Vp HR3.out.dec (HCD.out.trans hdec) hlt)
     clear hdec
     go_wp2_with fail
     go_ret
     exact .inr ⟨HBAD.out,⟨_,_,rfl⟩,HR3.out.tks.kp⟩
  ·obtain rfl:k=21:=by omega
   have hk1:¬ (21:Int)<21:=by omega
   have hc0:=HR.out.tks.cell
   have c1:wr.cell? ⟨T,1,none⟩=some (.slice la ls.length lc):=by simp[World.cell?,hc0]
   have HN0:Hid (N2 w0 T (.slice la ls.length lc) ls lo tb1 rv L r2 rs 0 wr):=Lib.hid ⟨by rw[Z5S];exact HR.out.tks,HR.out.row,HR.out.own,HR.out.num,HR.out.siz⟩
   have HF:Hid (ZM ls.length 21 r=some (L,r2)∧rs.length=21∧T<lo∧(∀ b,(Value.slice la ls.length lc).ownBlock=some b→b<lo)):=Lib.hid ⟨HR.out.dec,HR.out.len,HR.out.apt⟩
   clear hc0 hk hlt HR
   go_wp2_with fail
   clear c1
   go_loopg [59] ls.length (fun g kv wx=>∃ i:Nat,g=ls.length - i∧kv=.int .i64 i∧i≤ls.length∧Hid (N2 w0 T (.slice la ls.length lc) ls lo tb1 rv L r2 rs i wx))
   case atStart=>exact ⟨0,rfl,rfl,by omega,HN0⟩
   case round =>
    clear HN0
    obtain ⟨i,hg,rfl,hk,HR⟩:=hrel
    have HG:=Lib.hid hg
    clear hg
    by_cases hlt:i<ls.length
    ·have hk1:(i:Int)<(ls.length:Int):=by omega
     go_upto_region 18 with fail
     obtain ⟨x,hx⟩:∃ x,ls[i]?=some x:=⟨_,List.getElem?_eq_getElem hlt⟩
     have HX:=Lib.hid hx
     obtain ⟨g,cap,e,hg1,hg2⟩:=HR.out.tks.own.eq_slice.resolve_left (fun e=>by have h2:=e.2;have h3:=U6 L i ls;rw[h2] at h3;simp at h3;omega)
     injection e with e1 e2 e3
     subst e1 e3
     clear e2
     have hgl:g<lo:=HF.out.2.2.2 g rfl
     have hc0:=HR.out.tks.cell
     have hsz:=HR.out.siz
     have hTl:=HF.out.2.2.1
     have hi0:(0:Int)≤(i:Int):=by omega
     have HNR:=Jh (HR.out.reads HF.out.2.1 (TP (by omega) HF.out.1) hlt)
     obtain ⟨W1,hW1⟩:=Je ((wr.alloc (.cells #[.int .i64 i] 3)).alloc (.cells #[.int .i64 0] 3))
     have hz1:W1.heap.size=wr.heap.size+2:=by rw[←hW1];simp
     have hx1:Ext (fun _=>False) wr W1:=by rw[←hW1];exact ((Ext.refl _ _).alloc _).alloc _
     have hBi:W1.heap[wr.heap.size]?=some (.cells #[.int .i64 i] 3 (0,0)):=by rw[←hW1];exact (Below.heap_alloc _ _ _ (by simp)).trans (ZB wr _)
     have hBc:W1.heap[wr.heap.size+1]?=some (.cells #[.int .i64 0] 3 (0,0)):=by
      rw[←hW1]
      have:=ZB (wr.alloc (.cells #[.int .i64 i] 3)) (.cells #[.int .i64 0] 3)
      rwa [World.size_alloc] at this
     rw[hW1]
     clear hW1
     have hSW:(fun W:World=>W.cell? ⟨T,1,none⟩=some (.slice (some ⟨g,0,none⟩) ls.length lc)∧W.cell? ⟨wr.heap.size,0,none⟩=some (.int .i64 i)) W1.drew:=⟨by show World.cell? W1 _=_;simp[World.cell?,(hx1.block T (by omega) id).trans hc0],cell_of_one hBi⟩
     refine Z6 (fun W:World=>W.cell? ⟨T,1,none⟩=some (.slice (some ⟨g,0,none⟩) ls.length lc)∧W.cell? ⟨wr.heap.size,0,none⟩=some (.int .i64 i)) (fun _=>false) (by kernel_rfl) ?_
     have hxd:Ext (fun _=>False) W1 W1.drew:=(Ext.refl _ _).drew
     have HW:=Jh (And.intro hz1 (And.intro hx1 (And.intro hBi (And.intro hBc hxd))))
     clear hz1 hx1 hBi hBc hxd hc0
     have hz:W1.drew.heap.size=W1.heap.size:=rfl
     generalize hWd:W1.drew=W2 at hSW HW hz ⊢
     have HX1:Hid (Ext (fun _=>False) wr W2∧W2.heap.size=wr.heap.size+2∧W2.heap[wr.heap.size]?=some (.cells #[.int .i64 i] 3 (0,0))∧W2.heap[wr.heap.size+1]?=some (.cells #[.int .i64 0] 3 (0,0))):=Jh (by
      have h:=HW.out
      refine ⟨h.2.1.andThen h.2.2.2.2 (fun _ _ f=>f),hz.trans h.1,(h.2.2.2.2.block _ (by omega) id).trans h.2.2.1,(h.2.2.2.2.block _ (by omega) id).trans h.2.2.2.1⟩)
     clear hWd HW hz
     refine J2 0 62 _ hSW ?_
     try simp only[Ja]
     refine J2 1 63 (.pointer (some ⟨T,0,none⟩)) hSW ?_
     try simp only[Ja]
     refine J2 2 64 (.pointer (some ⟨T,1,none⟩)) hSW ?_
     try simp only[Ja]
     refine J2 3 65 (.slice (some ⟨g,0,none⟩) ls.length lc) hSW ?_
     try simp only[Ja]
     refine J2 4 66 (.int .i64 i) hSW ?_
     try simp only[Ja]
     refine J2 5 67 (.pointer (some ⟨g,i*26,none⟩)) hSW ?_
     try simp only[Ja]
     refine J2 6 68 (.func (.func 155) #[] #[.pointer (some ⟨lo,0,none⟩),.pointer (some ⟨wr.heap.size+1,0,none⟩),.pointer (some ⟨wr.heap.size,0,none⟩)]) hSW ?_
     try simp only[Ja]
     obtain ⟨rb,rcap,erv,rb1,rb2,hrow⟩:=HNR.out
     have hbe:Ext (fun _=>False) wr W2:=HX1.out.1
     have hz2:=HX1.out.2.1
     have hN:NR W2 lo (wr.heap.size+2) lo wr.heap.size rb rcap i (WV L i) (wr.heap.size+1) :=
      ⟨by rw[←erv];exact cell_of_one ((hbe.block _ (by omega) id).trans HR.out.row),cell_of_one HX1.out.2.2.1,fun c hc=>by
       obtain ⟨sb,sn,sc,q1,q2,q3,q4⟩:=hrow c hc
       exact ⟨sb,sn,sc,hbe.keep q1 id,⟨by omega,by omega,by omega⟩,q3,hbe.keep q4 id⟩,⟨⟨Nat.le_refl _,by omega,by omega⟩,⟨by omega,by omega,by omega⟩,⟨by omega,by omega,by omega⟩,by omega,by omega⟩⟩
     have hJ0:JN W2 lo (wr.heap.size+2) (wr.heap.size+1) 0 (fun k=>k<lo) W2:=⟨fun k hk=>.inl hk,fun _ _ _ _=>rfl,HX1.out.2.2.2,by omega,by omega,by omega⟩
     have hN2:=HR.out.ext hbe (fun _ f=>f.elim) HF.out.2.2
     have hown3:=hN2.tks.own
     rw[show ls.length=(Xi L i ls).length from (U6 L i ls).symm] at hown3
     have hAt:At g (i*26) x (fld x) W2:=At.of_cells (fun j u hj=>hown3.cellAt OpD.len (Z49 L i HX.out) hj) (fun j _=>hown3.free _)
     refine Zm (i:=7) (d:=some 69) (f:=92) (args:=#[.pointer (some ⟨g,i*26,none⟩),.func (.func 155) #[] #[.pointer (some ⟨lo,0,none⟩),.pointer (some ⟨wr.heap.size+1,0,none⟩),.pointer (some ⟨wr.heap.size,0,none⟩)]]) (w':=W2) (by kernel_rfl) rfl rfl (by rfl) (by go_simp;try rfl) ?_
     refine (Qj (enters_of Tryz.func155 (by kernel_rfl) rfl) g (i*26) x (WV L i) (JN W2 lo (wr.heap.size+2) (wr.heap.size+1)) (fun k=>k<lo) W2 (Z7h hN (fld x)) (JN.jok _ _ _ _ _) hgl hAt hJ0).mono ?_
     rintro e w3 ⟨⟨v3,rfl⟩,hJ,hA3,hx3,hR3⟩
     have hxx:Ext (fun k=>k=g∨k=wr.heap.size+1) W2 w3:=⟨hx3.os,hx3.tape,hx3.output,hx3.size,fun k hk hn=>by
      by_cases h:k<lo
      ·exact hx3.block k hk (fun e=>e.elim (fun e=>e h) (fun e=>hn (.inl e)))
      ·exact hJ.2.1 k (by omega) (by omega) (fun e=>hn (.inr e))⟩
     have HN:Hid (N2 w0 T (.slice (some ⟨g,0,none⟩) ls.length lc) ls lo tb1 rv L r2 rs (i+1) w3):=Jh (hN2.put HR.out hxx (by omega) HX.out hA3 hR3 HF.out.2.2)
     refine ⟨_,rfl,fun _=>⟨hxx.keep hSW.1 (fun e=>e.elim (fun e=>?_) (fun e=>by omega)),hxx.keep hSW.2 (fun e=>by omega)⟩,?_⟩
     ·have h1:=hN2.tks.cell
      obtain ⟨c2,h2⟩:=hN2.tks.own.tag (b:=g) rfl
      rw[e,h2] at h1
      cases h1
     try simp only[Ja]
     refine Z3 (by kernel_rfl) ?_ _
     clear hxx hx3 hJ hA3 hR3 hAt hown3 hN2 hJ0 hN hbe hrow hSW HX1 HNR HR
     go_wp2_with fail
     go_roundg (ls.length - (i+1))
     case measure=>rw[HG.out];omega
     case rel=>exact ⟨i+1,rfl,by simp,by omega,HN⟩
    ·obtain rfl:i=ls.length:=by omega
     have hk1:¬ (ls.length:Int)<(ls.length:Int):=by omega
     go_wp2_with fail
     go_ret
     exact .inl ⟨_,_,HF.out.1,rfl,_,HR.out.tks⟩
end Go.Proofs.YtgmdimbiipemhaaGreatDoor
namespace Go.Proofs.YtgmdimbiipemhaaGreatDoor
open Go.RowKit Go.Extern.Stop Go.Stop Go.Extern
theorem Z89 (t:Value) (w:World) :
  Calls Tryz.prog 52 #[.nilIface,t] w fun e w'=>e=.returned (.bool false)∧w'=w:=by
 go_enter Tryz.func52,Tryz.ntmps52
 go_wp2
 go_ret
 exact ⟨rfl,rfl⟩
theorem Tryz.valueOfP (t:Addr) (w:World):(ReflectliteValue.unpack (.iface 96 (.pointer (some t)))).run Tryz.prog w
  = .ok (.agg #[.pointer (some ⟨5,96,none⟩),.pointer (some ⟨w.heap.size,0,none⟩),.int .u64 150]) (w.alloc (.cells #[.pointer (some t)] 96)):=by kernel_rfl
theorem Tryz.typeP (a : Addr) (w : World) : (ReflectliteValue.methodAny (ReflectliteValue.valueError "reflectlite.Value.Type" 0) (fun t _ _ _ => ReflectliteType.toType t) #[.agg #[.pointer (some ⟨5, 96, none⟩), .pointer (some a), .int .u64 150]]).run Tryz.prog w
  = .ok (.iface 234 (.agg #[.pointer (some ⟨5,96,none⟩)])) w:=by kernel_rfl
theorem Tryz.kindP (w:World):((ReflectliteType.abiMethod fun t=>(fun a:Nat=>Value.int IntKind.u8 (a:Int)) <$> Rtype.kind t) #[.pointer (some ⟨5,96,none⟩)]).run Tryz.prog w=.ok (.int .u8 22) w:=by kernel_rfl
theorem Tryz.kindF (w:World):((ReflectliteType.abiMethod fun t=>(fun a:Nat=>Value.int IntKind.u8 (a:Int)) <$> Rtype.kind t) #[.pointer (some ⟨5,91,none⟩)]).run Tryz.prog w=.ok (.int .u8 2) w:=by kernel_rfl
theorem rlm (z:Sem Value) (f:TypeId→Addr→Nat→Nat→Sem Value) (v:Value) :
  ReflectliteValue.method z f #[v]=(do match ←ReflectliteValue.parts v with|none=>z|some (t,a,fl)=>f t a fl (fl % 32)):=rfl
theorem Tryz.partsP (a:Addr) (w:World):(ReflectliteValue.parts (.agg #[.pointer (some ⟨5,96,none⟩),.pointer (some a),.int .u64 150])).run Tryz.prog w=.ok (some (96,a,150)) w:=by kernel_rfl
theorem Tryz.isNilP (a p:Addr) (W:World) (ha:W.cell? a=some (.pointer (some p))) :
  (ReflectliteValue.method (ReflectliteValue.valueError "reflectlite.Value.IsNil" 0) ReflectliteValue.isNil #[.agg #[.pointer (some ⟨5, 96, none⟩), .pointer (some a), .int .u64 150]]).run Tryz.prog W = .ok (.bool false) W := by
 rw[rlm]
 simp only[Sem.run_bind,Tryz.partsP,Result.andThen]
 simp[ReflectliteValue.isNil,loadVar,isAgg,underlying,Tryz.underlying96,ha,Result.andThen]
theorem Tryz.elemP (w:World):(ReflectliteType.method ReflectliteType.elem #[.agg #[.pointer (some ⟨5,96,none⟩)]]).run Tryz.prog w=.ok (.iface 234 (.agg #[.pointer (some ⟨5,91,none⟩)])) w:=by kernel_rfl
theorem Tryz.implementsF (w : World) : (ReflectliteType.relation "Implements" ReflectliteType.implements_ #[.agg #[.pointer (some ⟨5, 91, none⟩)], .iface 234 (.agg #[.pointer (some ⟨5, 94, none⟩)])]).run Tryz.prog w = .ok (.bool true) w := by kernel_rfl
theorem Tryz.typeOfA (v:Value) (w:World):(ReflectliteType.typeOf #[.iface 187 v]).run Tryz.prog w=.ok (.iface 234 (.agg #[.pointer (some ⟨5,187,none⟩)])) w:=by kernel_rfl
theorem Tryz.typeOfF (v:Value) (w:World):(ReflectliteType.typeOf #[.iface 91 v]).run Tryz.prog w=.ok (.iface 234 (.agg #[.pointer (some ⟨5,91,none⟩)])) w:=by kernel_rfl
theorem Tryz.assignableA (w : World) : (ReflectliteType.relation "AssignableTo" ReflectliteType.assignableTo #[.agg #[.pointer (some ⟨5, 187, none⟩)], .iface 234 (.agg #[.pointer (some ⟨5, 91, none⟩)])]).run Tryz.prog w = .ok (.bool false) w := by kernel_rfl
theorem Tryz.assignableF (w : World) : (ReflectliteType.relation "AssignableTo" ReflectliteType.assignableTo #[.agg #[.pointer (some ⟨5, 91, none⟩)], .iface 234 (.agg #[.pointer (some ⟨5, 91, none⟩)])]).run Tryz.prog w = .ok (.bool true) w := by kernel_rfl
theorem Tryz.valueOfF (n:Int) (w:World):(ReflectliteValue.unpack (.iface 91 (.int .i64 n))).run Tryz.prog w
  = .ok (.agg #[.pointer (some ⟨5,91,none⟩),.pointer (some ⟨w.heap.size,0,none⟩),.int .u64 130]) (w.alloc (.cells #[.int .i64 n] 91)):=by kernel_rfl
theorem Tryz.elemOfP (w:World):(Rtype.elem? 96).run Tryz.prog w=.ok (some 91) w:=by kernel_rfl
theorem Tryz.mkF (p:Addr) (w:World):(ReflectliteValue.mk 91 p ReflectliteValue.flagAddr).run Tryz.prog w=.ok (.agg #[.pointer (some ⟨5,91,none⟩),.pointer (some p),.int .u64 386]) w:=by kernel_rfl
theorem Tryz.elemV (a p:Addr) (W:World) (ha:W.cell? a=some (.pointer (some p))) :
  (ReflectliteValue.method (ReflectliteValue.valueError "reflectlite.Value.Elem" 0) ReflectliteValue.elem #[.agg #[.pointer (some ⟨5, 96, none⟩), .pointer (some a), .int .u64 150]]).run Tryz.prog W
   = .ok (.agg #[.pointer (some ⟨5,91,none⟩),.pointer (some p),.int .u64 386]) W:=by
 rw[rlm]
 simp only[Sem.run_bind,Tryz.partsP,Result.andThen]
 simp[ReflectliteValue.elem,loadVar,isAgg,underlying,Tryz.underlying96,ha,Result.andThen,Tryz.elemOfP,Tryz.mkF]
theorem rls (v x:Value):ReflectliteValue.set #[v,x]=(do
  let (some (dst,a,fl),some (src,b,_)):=(←ReflectliteValue.parts v,←ReflectliteValue.parts x)
   | unsupported (.noEntry "extern/(internal/reflectlite.Value).Set.zeroValue")
  if fl / ReflectliteValue.flagAddr % 2 == 0 then unsupported (.noEntry "extern/(internal/reflectlite.Value).Set.unaddressable")
  let val ←loadVar src b
  if ←Rtype.directlyAssignable dst src then storeVar dst a val
  else if ←Rtype.implements dst src then
   if (←Rtype.kind src) == 20 then
    match val with
    | .nilIface => unsupported (.noEntry "extern/reflectlite: a nil value of one interface type handed on as a value of another")
    | _=>storeVar dst a val
   else storeVar dst a (.iface src val)
  else panicString ("reflectlite.Set: value of type " ++ (← Rtype.spelt src) ++ " is not assignable to type " ++ (← Rtype.spelt dst))
  pure (.tuple #[])):=rfl
theorem Tryz.partsFa (a:Addr) (w:World):(ReflectliteValue.parts (.agg #[.pointer (some ⟨5,91,none⟩),.pointer (some a),.int .u64 386])).run Tryz.prog w=.ok (some (91,a,386)) w:=by kernel_rfl
theorem Tryz.partsF (a:Addr) (w:World):(ReflectliteValue.parts (.agg #[.pointer (some ⟨5,91,none⟩),.pointer (some a),.int .u64 130])).run Tryz.prog w=.ok (some (91,a,130)) w:=by kernel_rfl
theorem Tryz.directF (w:World):(Rtype.directlyAssignable 91 91).run Tryz.prog w=.ok true w:=by kernel_rfl
theorem Tryz.setF (ta b:Addr) (n:Int) (old:Value) (W:World) (hb:W.cell? b=some (.int .i64 n)) (ht:W.cell? ta=some old) (hf:W.frozen? ta=false) :
  (ReflectliteValue.set #[.agg #[.pointer (some ⟨5,91,none⟩),.pointer (some ta),.int .u64 386],.agg #[.pointer (some ⟨5,91,none⟩),.pointer (some b),.int .u64 130]]).run Tryz.prog W
   = .ok (.tuple #[]) (W.setCell ta (.int .i64 n)):=by
 rw[rls]
 simp only[Sem.run_bind,Tryz.partsFa,Tryz.partsF,Result.andThen]
 simp[ReflectliteValue.flagAddr,loadVar,isAgg,underlying,Tryz.underlying91,hb,Result.andThen,Tryz.directF,storeVar,Value.cells,storeCells,Addr.add]
 rw[run_store Tryz.prog W ta _ _ (by rfl)]
 simp[ht,hf]
theorem TQ (nm:String) (sg:TypeId) (got:Array Method) (h:(got.any fun m=>m.name == nm && m.sig == sg)=false):∃ s,Instr.missingMethod #[(nm,sg)] got=some s:=by
 unfold Instr.missingMethod
 simp only[List.filter,h,Bool.not_false,List.map]
 cases hc:nm.contains '.' with
 | true=>simp[List.partition,List.partition.loop,hc,Instr.least]
 | false=>simp[List.partition,List.partition.loop,hc,Instr.least]
theorem Tryz.infoAt : (Tryz.prog.info? 187).map (fun i => i.methods.any fun m => m.name == "As" && m.sig == 241) = some false := by kernel_rfl
theorem Tryz.undAs : Tryz.prog.underlying 239 = some (.interface #[("As", 241)]) := by kernel_rfl
theorem Tryz.zeroAs (w:World):(zeroValue 239).run Tryz.prog w=.ok .nilIface w:=by kernel_rfl
theorem Tryz.noAs (v:Value) (w:World):(Instr.typeAssert (.iface 187 v) 94 239 true).run Tryz.prog w=.ok (.tuple #[.nilIface,.bool false]) w:=by
 obtain ⟨i, hi, hm⟩ : ∃ i, Tryz.prog.info? 187 = some i ∧ (i.methods.any fun m => m.name == "As" && m.sig == 241) = false := by
  have h:=Tryz.infoAt
  cases hh:Tryz.prog.info? 187 with
  | none=>rw[hh] at h;cases h
  | some i=>rw[hh] at h;exact ⟨i,rfl,Option.some.inj h⟩
 obtain ⟨s,hs⟩:=TQ _ _ _ hm
 have hz:=Tryz.zeroAs w
 unfold Instr.typeAssert
 simp[run_underlying Tryz.undAs,typeInfo,hi,hs,hz,Result.andThen]
theorem Tryz.hasUn (v:Value) (w:World):(Instr.typeAssert (.iface 187 v) 94 242 true).run Tryz.prog w=.ok (.tuple #[.iface 187 v,.bool true]) w:=by kernel_rfl
theorem Z57 (what:ByteArray) (x:Value) (w:World):Calls Tryz.prog 250 #[.agg #[.string what,x]] w fun e w'=>e=.returned x∧w'=w.alloc (.cells #[.string what,x] 187):=by
 go_enter Tryz.func250,Tryz.ntmps250
 go_wp2
 go_ret
 exact ⟨rfl,rfl⟩
theorem Tryz.methodKind (n : Nat) (h : Value) (w : World) : (Go.method (n + 1) 234 (.agg #[h]) "Kind").run Tryz.prog w = .ok (241, h) w := by kernel_rfl
theorem Tryz.methodElem (n : Nat) (h : Value) (w : World) : (Go.method (n + 1) 234 (.agg #[h]) "Elem").run Tryz.prog w = .ok (260, .agg #[h]) w := by kernel_rfl
theorem Tryz.methodImplements (n : Nat) (h : Value) (w : World) : (Go.method (n + 1) 234 (.agg #[h]) "Implements").run Tryz.prog w = .ok (261, .agg #[h]) w := by kernel_rfl
theorem Tryz.methodAssignableTo (n : Nat) (h : Value) (w : World) : (Go.method (n + 1) 234 (.agg #[h]) "AssignableTo").run Tryz.prog w = .ok (258, .agg #[h]) w := by kernel_rfl
theorem Tryz.methodUnwrap (n : Nat) (h : Value) (w : World) : (Go.method (n + 1) 187 h "Unwrap").run Tryz.prog w = .ok (250, h) w := by kernel_rfl
theorem Z8k (what:ByteArray) (n:Int) (t:Addr) (A0:Nat) (old:Value) (w:World) (hA:w.cell? ⟨A0,0,none⟩=some (.pointer (some t))) (ht0:w.cell? t=some old) (hf0:w.frozen? t=false) :
  Calls Tryz.prog 102 #[.iface 187 (.agg #[.string what,.iface 91 (.int .i64 n)]),.iface 96 (.pointer (some t)),.agg #[.pointer (some ⟨5,96,none⟩),.pointer (some ⟨A0,0,none⟩),.int .u64 150],.iface 234 (.agg #[.pointer (some ⟨5,91,none⟩)])] w fun ev w'=>ev=.returned (.bool true)∧Ext (·=t.block) w w':=by
 have h6:=@run_callFunc_extern Tryz.prog 99 _ (fun args=>ReflectliteValue.unpack (args.getD 0 (.tuple #[]))) Tryz.func99 (by kernel_rfl) (by kernel_rfl) (by kernel_rfl) (by kernel_rfl)
 have h10:=@run_callFunc_extern Tryz.prog 150 _ ReflectliteType.typeOf Tryz.func150 (by kernel_rfl) (by kernel_rfl) (by kernel_rfl) (by kernel_rfl)
 have h35 := @run_callFunc_extern Tryz.prog 258 _ (ReflectliteType.relation "AssignableTo" ReflectliteType.assignableTo) Tryz.func258 (by kernel_rfl) (by kernel_rfl) (by kernel_rfl) (by kernel_rfl)
 have h11 := @run_callFunc_extern Tryz.prog 151 _ (ReflectliteValue.method (ReflectliteValue.valueError "reflectlite.Value.Elem" 0) ReflectliteValue.elem) Tryz.func151 (by kernel_rfl) (by kernel_rfl) (by kernel_rfl) (by kernel_rfl)
 have h12:=@run_callFunc_extern Tryz.prog 152 _ ReflectliteValue.set Tryz.func152 (by kernel_rfl) (by kernel_rfl) (by kernel_rfl) (by kernel_rfl)
 have mA:=Tryz.methodAssignableTo
 have mU:=Tryz.methodUnwrap
 have tA:=Tryz.typeOfA
 have tF:=Tryz.typeOfF
 have aA:=Tryz.assignableA
 have aF:=Tryz.assignableF
 have nA:=Tryz.noAs
 have hU:=Tryz.hasUn
 have vF:=Tryz.valueOfF
 have hAl:A0<w.heap.size:=Zq hA
 have htl:t.block<w.heap.size:=by
  rcases Nat.lt_or_ge t.block w.heap.size with h|h
  ·exact h
  ·simp[World.cell?,Array.getElem?_eq_none h] at ht0
 have el:=Tryz.elemV ⟨A0,0,none⟩ t ((w.alloc (.cells #[.pointer (some ⟨5,96,none⟩),.pointer (some ⟨A0,0,none⟩),.int .u64 150] 177)).alloc (.cells #[.string what,.iface 91 (.int .i64 n)] 187)) (by rw[World.cell?_alloc_lt _ _ ⟨A0,0,none⟩ (by simp;omega),World.cell?_alloc_lt _ _ ⟨A0,0,none⟩ hAl];exact hA)
 have st:=Tryz.setF t ⟨w.heap.size+1+1,0,none⟩ n old (((w.alloc (.cells #[.pointer (some ⟨5,96,none⟩),.pointer (some ⟨A0,0,none⟩),.int .u64 150] 177)).alloc (.cells #[.string what,.iface 91 (.int .i64 n)] 187)).alloc (.cells #[.int .i64 n] 91)) (by rw[World.cell?_alloc_at _ _ _ _ (by simp)];rfl)
  (by rw[World.cell?_alloc_lt _ _ t (by simp;omega),World.cell?_alloc_lt _ _ t (by simp;omega),World.cell?_alloc_lt _ _ t htl];exact ht0)
  (by rw[World.frozen?_alloc_old _ _ t (by simp;omega),World.frozen?_alloc_old _ _ t (by simp;omega),World.frozen?_alloc_old _ _ t (Nat.ne_of_lt htl)];exact hf0)
 clear ht0 hf0 hA
 go_enter Tryz.func102,Tryz.ntmps102
 go_wp2_with fail
 refine wp_loop_rounds 2 ?_
 rw[rounds_succ]
 go_wp2_with (first|(go_at_call 250;refine (Z57 what (.iface 91 (.int .i64 n)) _).mono ?_;rintro e w' ⟨rfl,rfl⟩))
 rw[rounds_succ]
 go_wp2_with fail
 go_ret
 refine ⟨rfl,?_⟩
 exact ((((Ext.refl (·=t.block) w).alloc _).alloc _).alloc _).setCell (p:=t) (.inr rfl) _
theorem Z8g (what:ByteArray) (n:Int) (t:Addr) (old:Value) (w:World) (hg:w.cell? ⟨0,0,none⟩=some (.iface 234 (.agg #[.pointer (some ⟨5,94,none⟩)]))) (ht0:w.cell? t=some old) (hf0:w.frozen? t=false) :
  Calls Tryz.prog 52 #[Tx what n,.iface 96 (.pointer (some t))] w fun ev w'=>ev=.returned (.bool true)∧Ext (·=t.block) w w':=by
 have h6:=@run_callFunc_extern Tryz.prog 99 _ (fun args=>ReflectliteValue.unpack (args.getD 0 (.tuple #[]))) Tryz.func99 (by kernel_rfl) (by kernel_rfl) (by kernel_rfl) (by kernel_rfl)
 have h7 := @run_callFunc_extern Tryz.prog 100 _ (ReflectliteValue.methodAny (ReflectliteValue.valueError "reflectlite.Value.Type" 0) (fun t _ _ _ => ReflectliteType.toType t)) Tryz.func100 (by kernel_rfl) (by kernel_rfl) (by kernel_rfl) (by kernel_rfl)
 have h8 := @run_callFunc_extern Tryz.prog 101 _ (ReflectliteValue.method (ReflectliteValue.valueError "reflectlite.Value.IsNil" 0) ReflectliteValue.isNil) Tryz.func101 (by kernel_rfl) (by kernel_rfl) (by kernel_rfl) (by kernel_rfl)
 have h27:=@run_callFunc_extern Tryz.prog 241 _ (ReflectliteType.abiMethod fun t=>do pure (.int .u8 (←Rtype.kind t))) Tryz.func241 (by kernel_rfl) (by kernel_rfl) (by kernel_rfl) (by kernel_rfl)
 have h37:=@run_callFunc_extern Tryz.prog 260 _ (ReflectliteType.method ReflectliteType.elem) Tryz.func260 (by kernel_rfl) (by kernel_rfl) (by kernel_rfl) (by kernel_rfl)
 have h38 := @run_callFunc_extern Tryz.prog 261 _ (ReflectliteType.relation "Implements" ReflectliteType.implements_) Tryz.func261 (by kernel_rfl) (by kernel_rfl) (by kernel_rfl) (by kernel_rfl)
 have h10:=@run_callFunc_extern Tryz.prog 150 _ ReflectliteType.typeOf Tryz.func150 (by kernel_rfl) (by kernel_rfl) (by kernel_rfl) (by kernel_rfl)
 have h35 := @run_callFunc_extern Tryz.prog 258 _ (ReflectliteType.relation "AssignableTo" ReflectliteType.assignableTo) Tryz.func258 (by kernel_rfl) (by kernel_rfl) (by kernel_rfl) (by kernel_rfl)
 have h11 := @run_callFunc_extern Tryz.prog 151 _ (ReflectliteValue.method (ReflectliteValue.valueError "reflectlite.Value.Elem" 0) ReflectliteValue.elem) Tryz.func151 (by kernel_rfl) (by kernel_rfl) (by kernel_rfl) (by kernel_rfl)
 have h12:=@run_callFunc_extern Tryz.prog 152 _ ReflectliteValue.set Tryz.func152 (by kernel_rfl) (by kernel_rfl) (by kernel_rfl) (by kernel_rfl)
 have f6:=Tryz.valueOfP
 have f7:=Tryz.typeP
 have k27:=Tryz.kindP
 have k25:=Tryz.kindF
 have e27:=Tryz.elemP
 have i25:=Tryz.implementsF
 have n8:=Tryz.isNilP ⟨w.heap.size,0,none⟩ t ((w.alloc (.cells #[.pointer (some t)] 96)).alloc (.cells #[.pointer (some ⟨5,96,none⟩),.pointer (some ⟨w.heap.size,0,none⟩),.int .u64 150] 177)) (by simp)
 have hlt:0<w.heap.size:=by
  rcases Nat.eq_zero_or_pos w.heap.size with h0|h
  ·simp[World.cell?,h0] at hg
  ·exact h
 have htl:t.block<w.heap.size:=by
  rcases Nat.lt_or_ge t.block w.heap.size with h|h
  ·exact h
  ·simp[World.cell?,Array.getElem?_eq_none h] at ht0
 have hg2:((w.alloc (.cells #[.pointer (some t)] 96)).alloc (.cells #[.pointer (some ⟨5,96,none⟩),.pointer (some ⟨w.heap.size,0,none⟩),.int .u64 150] 177)).cell? ⟨0,0,none⟩=some (.iface 234 (.agg #[.pointer (some ⟨5,94,none⟩)])):=by
  rw[World.cell?_alloc_lt _ _ ⟨0,0,none⟩ (by simp),World.cell?_alloc_lt _ _ ⟨0,0,none⟩ hlt];exact hg
 have mK:=Tryz.methodKind
 have mE:=Tryz.methodElem
 have mI:=Tryz.methodImplements
 have mA:=Tryz.methodAssignableTo
 have mU:=Tryz.methodUnwrap
 have tA:=Tryz.typeOfA
 have tF:=Tryz.typeOfF
 have aA:=Tryz.assignableA
 have aF:=Tryz.assignableF
 have nA:=Tryz.noAs
 have hU:=Tryz.hasUn
 have vF:=Tryz.valueOfF
 unfold Tx
 go_enter Tryz.func52,Tryz.ntmps52
 go_wp2_with fail
 refine (Z8k what n t w.heap.size old _ ?_ ?_ ?_).mono ?_
 ·rw[World.cell?_alloc_lt _ _ ⟨w.heap.size,0,none⟩ (by simp)];simp
 ·rw[World.cell?_alloc_lt _ _ t (by simp;omega),World.cell?_alloc_lt _ _ t htl];exact ht0
 ·rw[World.frozen?_alloc_old _ _ t (by simp;omega),World.frozen?_alloc_old _ _ t (Nat.ne_of_lt htl)];exact hf0
 rintro e w' ⟨rfl,hx⟩
 have HX:Hid (Ext (·=t.block) w w'):=Jh ((((Ext.refl (·=t.block) w).alloc _).alloc _).andThen hx (fun i hi e=>e))
 clear hx
 go_wp2_with fail
 go_ret
 exact ⟨rfl,HX.out⟩
end Go.Proofs.YtgmdimbiipemhaaGreatDoor
