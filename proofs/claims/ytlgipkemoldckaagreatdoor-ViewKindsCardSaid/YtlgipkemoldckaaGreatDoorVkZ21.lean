/- ViewKinds, part 21 of what the proof leans on (made short by a program). -/
import Derived.Test.YtlgipkemoldckaaGreatDoorVkZ20
import Derived.Shelf.Strings.BuilderK
import Derived.Shelf.Strings.Repeat
import Derived.Shelf.Strconv.Itoa3
import Derived.Lib.AppendIntMem
import Derived.Lib.ItoaLen
set_option linter.unusedSimpArgs false
set_option linter.unusedVariables false
set_option linter.unusedSectionVars false
set_option maxRecDepth 20000
set_option maxHeartbeats 30000000
namespace Go.Proofs.YtlgipkemoldckaaGreatDoor
open Go.RowKit Go.Deep
theorem TI {A:List Ch} (h:A.Pairwise (fun a b=>a.block≠b.block)):∀ S:List St,∃ C,Gth A (fun s=>s∈S) C
 | []=>⟨A,(Gth.start h).mono (fun s=>by simp)⟩
 | s :: S=>by
  obtain ⟨C,hC⟩:=TI h S
  exact ⟨YC C s,(hC.more s).mono (fun t=>by simp[or_comm])⟩
theorem Qk {l:List El} {h:Zk} {A:List Ch} (hA:Zo h A) (hk:ZZ h):∃ D,Zo (Y6 l h A) D:=by
 obtain ⟨C,hC⟩:=TI (hA.2.imp (fun {a b} h e=>by rw[e] at h;exact Zm _ h)) ((ZJ l).map (·.1)++A.map Ch.under)
 obtain ⟨D,hD,_⟩:=RT hA hk (hC.mono (T:=fun s=>s∈(ZJ l).map (·.1)∨∃ d∈A,d.under=s) (fun s=>by rw[List.mem_append,List.mem_map (f:=Ch.under)]))
 exact ⟨D,hD⟩
noncomputable def Vh (l:List El) (mv:List RMv) (ws:List Z8) (ms:List OpD) (A:List Ch) (n:Nat):Nd:=(Ye l ms (Xl (Zg ws).1) (Y1 (ZQ mv)) A).tree (XA l ms) n
theorem Z0J {l:List El} {mv:List RMv} {ws:List Z8} {ms:List OpD} {A D:List Ch} (hD:Zo (Y6 l (Y1 (ZQ mv)) A) D) {n k:Nat} (hn:D.length+1≤n) (hk:D.length+1≤k):Vh l mv ws ms A n=Vh l mv ws ms A k:=by
 have hkf:=WI (l:=l) (A:=A) (YV (ZQ mv))
 have haf:=Wy (l:=l) (A:=A) (VH (ZQ mv)) (VN mv)
 have e0:Y9 (Ye l ms (Xl (Zg ws).1) (Y1 (ZQ mv)) A).H 0 ⟨0,0⟩:=YO (VN mv)
 have one:∀ n,D.length+1≤n→(Ye l ms (Xl (Zg ws).1) (Y1 (ZQ mv)) A).row n ⟨0,0⟩=(Ye l ms (Xl (Zg ws).1) (Y1 (ZQ mv)) A).row (D.length+1) ⟨0,0⟩:=fun n hn=>by
  have:=Vw.row_same (V:=Ye l ms (Xl (Zg ws).1) (Y1 (ZQ mv)) A) hkf haf hD e0 (n:=D.length+1) (by omega) (k:=n - (D.length+1))
  rwa [show D.length+1+(n - (D.length+1))=n by omega] at this
 unfold Vh Vw.tree
 rw[one n hn,one k hk]
def SN (l:List El) (mv:List RMv) (ws:List Z8) (ms:List OpD) (w:World) (e:Ending) (w':World):Prop :=
 ∃ (A D:List Ch) (N:Nat) (x y:NdV),e=.returned (.tuple #[x.val,y.val])∧Zo (Y1 (ZQ mv)) A∧Zo (Y6 l (Y1 (ZQ mv)) A) D∧D.length+1≤N ∧
  Zv (fun k=>w.heap.size≤k) w' x (Vh l mv ws ms A N)∧Zv (fun k=>w.heap.size≤k) w' y (Vh l mv ws ms A N)∧Below w.heap.size w w'
def VJ (w:World) (b:Nat) (x:NdV):World:=(((((w.setCell ⟨b,0,none⟩ (.int .i64 x.id.n)).setCell ⟨b,1,none⟩ (.int .i64 x.id.r)).setCell ⟨b,2,none⟩ (.string x.kind)).setCell ⟨b,3,none⟩ (.slice x.attrs.a x.attrs.n x.attrs.cap)).setCell ⟨b,4,none⟩ (.slice x.text.a x.text.n x.text.cap)).setCell ⟨b,5,none⟩ (.slice x.kids.a x.kids.n x.kids.cap)
theorem TV {w:World} {b:Nat} {x:NdV} {i:St} {k:ByteArray} {p q r:Sl} (h:NdB w b i k p q r):NdB (VJ w b x) b x.id x.kind x.attrs x.text x.kids:=by
 have h:=show w.heap[b]?=_ from h
 show (World.heap _)[b]?=_
 simp only[VJ,World.setCell,Array.getElem?_modify,if_true,h]
 rfl
theorem XY (w:World) (b:Nat) (x:NdV):Ext (·=b) w (VJ w b x) :=
 ((((((Ext.refl (·=b) w).setCell (p:=⟨b,0,none⟩) (.inr rfl) _).setCell (p:=⟨b,1,none⟩) (.inr rfl) _).setCell (p:=⟨b,2,none⟩) (.inr rfl) _).setCell (p:=⟨b,3,none⟩) (.inr rfl) _).setCell (p:=⟨b,4,none⟩) (.inr rfl) _).setCell (p:=⟨b,5,none⟩) (.inr rfl) _
theorem R9 {fn:Func} {p t:Tmp} {ty:TypeId} (h:fn.results=#[.cell p ty,.cell t ty]) (tmps:Array Value) (P:Program) (w:World) (g f:Nat) (T U:TypeId) (cs ds:Array Value) (fr fs:Nat × Nat) (d:TypeDesc)
  (hp:tmps.getD p undef=.pointer (some ⟨g,0,none⟩)) (ht:tmps.getD t undef=.pointer (some ⟨f,0,none⟩)) (hg:w.heap[g]?=some (.cells cs T fr)) (hf:w.heap[f]?=some (.cells ds U fs))
  (hd:(match d with|.struct _|.array _ _=>true|_=>false)=true) (hu:P.underlying ty=some d) (hi:(P.info? ty).map (·.size)=some cs.size) (hj:(P.info? ty).map (·.size)=some ds.size) :
  (results fn tmps).run P w=.ok (.tuple #[.agg cs,.agg ds]) w:=by
 have hp':tmps[p]?.getD undef=.pointer (some ⟨g,0,none⟩):=by simpa using hp
 have ht':tmps[t]?.getD undef=.pointer (some ⟨f,0,none⟩):=by simpa using ht
 simp[results,h,hp',ht',asAddr,run_loadVar_row (P:=P) w g T ty cs fr d hg hu (by cases d <;> first|rfl|(cases hd)) hi,run_loadVar_row (P:=P) w f U ty ds fs d hf hu (by cases d <;> first|rfl|(cases hd)) hj]
theorem Q7 {W:World} {a:Option Addr} {n c:Nat} {l:List Z8} (h:Z5 Z8.cells 6 W (.slice a n c) l) {k:Nat} {x:Z8} (hx:l[k]?=some x):∃ b o,a=some ⟨b,o,none⟩∧W.cell? ⟨b,o+k*6,none⟩=some (.int .i64 x.at_.n)∧W.cell? ⟨b,o+k*6+1,none⟩=some (.int .i64 x.at_.r) ∧
  W.cell? ⟨b,o+k*6+2,none⟩=some (.int .i64 x.blk.n)∧W.cell? ⟨b,o+k*6+3,none⟩=some (.int .i64 x.blk.r)∧W.cell? ⟨b,o+k*6+4,none⟩=some (.string x.name)∧W.cell? ⟨b,o+k*6+5,none⟩=some (.string x.value):=by
 obtain ⟨a',c',e,_,_,hh⟩:=h
 injection e with e1 _ _
 subst e1
 obtain ⟨b,o,rfl,h1⟩:=hh (by intro e;rw[e] at hx;simp at hx)
 have:=h1 k x hx
 exact ⟨b,o,rfl,this 0 _ rfl,this 1 _ rfl,this 2 _ rfl,this 3 _ rfl,this 4 _ rfl,this 5 _ rfl⟩
def WK (s:Nat) (ws:List Z8) (w:World):Prop :=
 Ys w (s+5) (s+3) (s+4) (Zg ws).1 (Zg ws).2∧∃ v,w.heap[s+6]?=some (.cells #[v] 81 (0,0))∧Own Z8.cells 6 58 (s+6) w v (X5 ws)
theorem WK.below {s:Nat} {ws:List Z8} {w w':World} (h:WK s ws w) (hb:Below w.heap.size w w'):WK s ws w':=by
 obtain ⟨h1,v,h2,h3⟩:=h
 exact ⟨h1.below hb,v,(hb.block _ (Array.getElem?_eq_some_iff.1 h2).1).trans h2,h3.ext (Ext.of_below (S:=fun _=>False) hb) (fun _ _ f=>f)⟩
theorem Z2y {s:Nat} {ws:List Z8} {w:World} (h:WK s ws w) (hl:ws.length≤60) (W:World) (hW:Below w.heap.size w W) (u:St) :
  Calls Tryz.prog 44 #[.pointer (some ⟨s+5,0,none⟩),.agg #[.int .i64 u.n,.int .i64 u.r]] W fun e w'=>XQ W (Xl (Zg ws).1 u) e w':=by
 have h1:=(h.below hW).1
 have hlen:=Uf ws
 refine (RF (s+5) (s+3) (s+4) _ _ u.n u.r W h1 (by omega)).mono ?_
 rintro e w' ⟨v,l,rfl,ho,hp,hs,hb⟩
 have hal:=Ug h1.hv.nodup hp hs
 rw[show (⟨u.n,u.r⟩:St)=u from rfl] at hal hp
 rw[UY hal]
 exact ⟨v,rfl,ho,by have:=hp.length_eq;have:=Vj (Zg ws).1 u;omega,hb⟩
theorem Z2b {s:Nat} {ws:List Z8} {w:World} (h:WK s ws w) (hl:ws.length≤60) (W:World) (hW:Below w.heap.size w W) (u:St) :
  Calls Tryz.prog 108 #[.pointer (some ⟨s+6,0,none⟩),.agg #[.int .i64 u.n,.int .i64 u.r]] W fun e w'=>XQ W (Xl (Zg ws).1 u) e w':=by
 obtain ⟨hac,hse⟩:=Z20 ws
 have hlen:=SF ws
 have hvl:=Uf ws
 have hmn:=(h.below hW).1.hv.nodup
 refine (Z1G (s+6) (s+6) (X5 ws) u.n u.r W (h.below hW).2 (by omega) hac.right).mono ?_
 rintro e w' ⟨v,O,rfl,ho,hg,hb⟩
 have hal:=hg.allList hac.right (vs:=(Zg ws).1) (fun p=>by rw[←hse];exact Z3u hac p)
 rw[show (⟨u.n,u.r⟩:St)=u from rfl] at hal
 rw[UY hal]
 refine ⟨v,rfl,ho,?_,hb⟩
 have hnd:O.Pairwise (fun a c=>a≠c):=hal.rising.imp (fun {a c} h e=>by rw[e] at h;exact List.lt_irrefl _ h)
 have:=(show O.Nodup from hnd).length_le_of_subset (l₂:=(Zg ws).1.map (fun p=>(⟨p.1.name,p.2.value⟩:Atr))) (fun a ha=>by
  obtain ⟨x,hx,hv⟩:=(hal.mem a).1 ha
  exact List.mem_map.2 ⟨(⟨u,a.name⟩,x),Tu hx,by cases a;simp_all⟩)
 rw[List.length_map] at this
 omega
theorem Z1r (a0 a1 a2 a3:Option Addr) (n0 n1 n2 n3 c0 c1 c2 c3:Nat) (l:List El) (mv:List RMv) (ws:List Z8) (ms:List OpD) (w:World) (h0:Z5 El.cells 4 w (.slice a0 n0 c0) l) (h1:Z5 RMv.cells 7 w (.slice a1 n1 c1) mv) (h2:Z5 Z8.cells 6 w (.slice a2 n2 c2) ws)
  (h3:Z5 OpD.cells 26 w (.slice a3 n3 c3) ms) (hl:l.length≤60) (hul:XO l) (hmv:mv.length≤60) (hws:ws.length≤60) (hms:ms.length≤30) :
  Calls Tryz.prog 17 #[.agg #[.slice a0 n0 c0,.slice a1 n1 c1,.slice a2 n2 c2,.slice a3 n3 c3]] w fun e w'=>SN l mv ws ms w e w':=by
 have e0:=h0.len
 have e1:=h1.len
 have e2:=h2.len
 have e3:=h3.len
 have hB0:Below w.heap.size w (((w.alloc (.cells #[.slice a0 n0 c0,.slice a1 n1 c1,.slice a2 n2 c2,.slice a3 n3 c3] 39)).alloc (.cells #[.int .i64 0,.int .i64 0,.string ⟨#[]⟩,.slice none 0 0,.slice none 0 0,.slice none 0 0] 28)).alloc (.cells #[.int .i64 0,.int .i64 0,.string ⟨#[]⟩,.slice none 0 0,.slice none 0 0,.slice none 0 0] 28)):=(((Below.refl _ _).alloc (Nat.le_refl _) _).alloc (by simp) _).alloc (by simp;omega) _
 have hz1:(((w.alloc (.cells #[.slice a0 n0 c0,.slice a1 n1 c1,.slice a2 n2 c2,.slice a3 n3 c3] 39)).alloc (.cells #[.int .i64 0,.int .i64 0,.string ⟨#[]⟩,.slice none 0 0,.slice none 0 0,.slice none 0 0] 28)).alloc (.cells #[.int .i64 0,.int .i64 0,.string ⟨#[]⟩,.slice none 0 0,.slice none 0 0,.slice none 0 0] 28)).heap.size=w.heap.size+3:=by simp
 have hmd:(((w.alloc (.cells #[.slice a0 n0 c0,.slice a1 n1 c1,.slice a2 n2 c2,.slice a3 n3 c3] 39)).alloc (.cells #[.int .i64 0,.int .i64 0,.string ⟨#[]⟩,.slice none 0 0,.slice none 0 0,.slice none 0 0] 28)).alloc (.cells #[.int .i64 0,.int .i64 0,.string ⟨#[]⟩,.slice none 0 0,.slice none 0 0,.slice none 0 0] 28)).heap[w.heap.size]?=some (.cells #[.slice a0 n0 c0,.slice a1 n1 c1,.slice a2 n2 c2,.slice a3 n3 c3] 39):=(Below.heap_alloc _ _ _ (by simp;omega)).trans ((Below.heap_alloc _ _ _ (by simp)).trans (World.alloc_heap_new w _))
 have hn2:NdB (((w.alloc (.cells #[.slice a0 n0 c0,.slice a1 n1 c1,.slice a2 n2 c2,.slice a3 n3 c3] 39)).alloc (.cells #[.int .i64 0,.int .i64 0,.string ⟨#[]⟩,.slice none 0 0,.slice none 0 0,.slice none 0 0] 28)).alloc (.cells #[.int .i64 0,.int .i64 0,.string ⟨#[]⟩,.slice none 0 0,.slice none 0 0,.slice none 0 0] 28)) (w.heap.size+1) ⟨0,0⟩ ⟨#[]⟩ Z2 Z2 Z2:=by
  have:=(X8 (w.alloc (.cells #[.slice a0 n0 c0,.slice a1 n1 c1,.slice a2 n2 c2,.slice a3 n3 c3] 39))).ext ((Ext.refl (fun _=>False) _).alloc (.cells #[.int .i64 0,.int .i64 0,.string ⟨#[]⟩,.slice none 0 0,.slice none 0 0,.slice none 0 0] 28)) (fun f=>f)
  rwa [World.size_alloc] at this
 have hn3:NdB (((w.alloc (.cells #[.slice a0 n0 c0,.slice a1 n1 c1,.slice a2 n2 c2,.slice a3 n3 c3] 39)).alloc (.cells #[.int .i64 0,.int .i64 0,.string ⟨#[]⟩,.slice none 0 0,.slice none 0 0,.slice none 0 0] 28)).alloc (.cells #[.int .i64 0,.int .i64 0,.string ⟨#[]⟩,.slice none 0 0,.slice none 0 0,.slice none 0 0] 28)) (w.heap.size+2) ⟨0,0⟩ ⟨#[]⟩ Z2 Z2 Z2:=by
  have:=X8 ((w.alloc (.cells #[.slice a0 n0 c0,.slice a1 n1 c1,.slice a2 n2 c2,.slice a3 n3 c3] 39)).alloc (.cells #[.int .i64 0,.int .i64 0,.string ⟨#[]⟩,.slice none 0 0,.slice none 0 0,.slice none 0 0] 28))
  rwa [World.size_alloc,World.size_alloc] at this
 have HIN:=Jh (And.intro h0 (And.intro h1 (And.intro h2 h3)))
 have HLN:=Jh (And.intro e0.1 (And.intro e1.1 (And.intro e2.1 e3.1)))
 have HLE:=Jh (And.intro hl (And.intro hmv (And.intro hws (And.intro hms hul))))
 have HB0:=Lib.hid hB0
 have HZ1:=Lib.hid hz1
 have HMD:=Lib.hid hmd
 have HN:=Jh (And.intro hn2 hn3)
 have hn2n:n2≤9223372036854775807:=by omega
 clear h0 h1 h2 h3 e0 e1 e2 e3 hl hmv hws hms hul hB0 hz1 hmd hn2 hn3
 go_enter Tryz.func17,Tryz.ntmps17
 go_upto_region 1 with fail
 generalize (((w.alloc (.cells #[.slice a0 n0 c0,.slice a1 n1 c1,.slice a2 n2 c2,.slice a3 n3 c3] 39)).alloc (.cells #[.int .i64 0,.int .i64 0,.string ⟨#[]⟩,.slice none 0 0,.slice none 0 0,.slice none 0 0] 28)).alloc (.cells #[.int .i64 0,.int .i64 0,.string ⟨#[]⟩,.slice none 0 0,.slice none 0 0,.slice none 0 0] 28))=w1 at *
 go_wp2_with fail
 refine (QO w1).mono ?_
 rintro e w2 ⟨rfl,hreg,b2,hz2⟩
 have hrb:(w2.alloc (.cells #[.slice none 0 0] 81)).heap[w2.heap.size]?=some (.cells #[.slice none 0 0] 81):=World.alloc_heap_new w2 _
 rw[HZ1.out] at hreg hz2 ⊢
 rw[show w.heap.size+3+2=w.heap.size+5 from rfl]
 rw[hz2] at hrb
 have HRA:Hid (WK w.heap.size [] (w2.alloc (.cells #[.slice none 0 0] 81))):=Lib.hid ⟨hreg.below ((Below.refl _ _).alloc (Nat.le_refl _) _),.slice none 0 0,hrb,Own.nil⟩
 have HB2:=Jh ((show Below (w.heap.size+3) w1 w2 from b2.mono (by have:=HZ1.out;omega)).alloc (by have:=HZ1.out;omega) (.cells #[.slice none 0 0] 81))
 have HZ2:=Lib.hid hz2
 have HZA:Hid (w.heap.size+7≤(w2.alloc (.cells #[.slice none 0 0] 81)).heap.size):=Jh (by rw[World.size_alloc];omega)
 clear hreg b2 hrb
 go_upto_region 3 with fail
 rw[show w.heap.size+3+3=w.heap.size+6 from rfl]
 clear hz2
 generalize w2.alloc (.cells #[.slice none 0 0] 81)=wa at *
 go_wp2_with fail
 go_loopg [6] n2 (fun g iv wr=>∃ k:Nat,g=n2 - k∧k≤n2∧iv=.int .i64 k∧Hid (WK w.heap.size (ws.take k) wr)∧Hid (Below (w.heap.size+3) w1 wr)∧Hid (w.heap.size+7≤wr.heap.size))
 case atStart=>exact ⟨0,by omega,Nat.zero_le _,rfl,HRA,HB2,HZA⟩
 case round =>
  obtain ⟨k,hg,hk,rfl,HR,HB,HZ⟩:=hrel
  have HG:=Lib.hid hg
  clear hg
  have HBW:=Jh (HB0.out.trans (HB.out.mono (by omega)))
  have hmd:=(HB.out.block w.heap.size (by omega)).trans HMD.out
  have x0:wr.cell? ⟨w.heap.size,0,none⟩=some (.slice a0 n0 c0):=by rw[Lib.cell_of_heap hmd];rfl
  have x1:wr.cell? ⟨w.heap.size,1,none⟩=some (.slice a1 n1 c1):=by rw[Lib.cell_of_heap hmd];rfl
  have x2:wr.cell? ⟨w.heap.size,2,none⟩=some (.slice a2 n2 c2):=by rw[Lib.cell_of_heap hmd];rfl
  have x3:wr.cell? ⟨w.heap.size,3,none⟩=some (.slice a3 n3 c3):=by rw[Lib.cell_of_heap hmd];rfl
  clear hmd
  by_cases hkl:k<n2
  ·obtain ⟨⟨⟨an,ar⟩,⟨bn,br⟩,nm,vl⟩,hx⟩:∃ x,ws[k]?=some x:=⟨_,List.getElem?_eq_getElem (by have:=HLN.out.2.2.1;omega)⟩
   obtain ⟨b,o,rfl,z0,z1,z2,z3,z4,z5⟩:=Q7 HIN.out.2.2.1 hx
   replace z0:=Z0 HBW.out z0
   replace z1:=Z0 HBW.out z1
   replace z2:=Z0 HBW.out z2
   replace z3:=Z0 HBW.out z3
   replace z4:=Z0 HBW.out z4
   replace z5:=Z0 HBW.out z5
   simp only at z0 z1 z2 z3 z4 z5
   have HX:=Lib.hid hx
   have hkk:(k:Int)<(n2:Int):=by omega
   clear hx
   have hblk:(wr.alloc (.cells #[.int .i64 an,.int .i64 ar,.int .i64 bn,.int .i64 br,.string nm,.string vl] 58)).heap[wr.heap.size]?=some (.cells #[.int .i64 an,.int .i64 ar,.int .i64 bn,.int .i64 br,.string nm,.string vl] 58):=World.alloc_heap_new wr _
   have HBK:=Lib.hid hblk
   have HR9:=Jh (HR.out.below ((Below.refl wr.heap.size wr).alloc (Nat.le_refl _) (.cells #[.int .i64 an,.int .i64 ar,.int .i64 bn,.int .i64 br,.string nm,.string vl] 58)))
   have HB9:Hid (Below (w.heap.size+3) w1 (wr.alloc (.cells #[.int .i64 an,.int .i64 ar,.int .i64 bn,.int .i64 br,.string nm,.string vl] 58))):=Jh (HB.out.alloc (by have:=HZ1.out;have:=HZ.out;omega) _)
   have hza:(wr.alloc (.cells #[.int .i64 an,.int .i64 ar,.int .i64 bn,.int .i64 br,.string nm,.string vl] 58)).heap.size=wr.heap.size+1:=by simp
   have HZA9:=Lib.hid hza
   clear hblk hza
   go_upto_region 7 with fail
   generalize wr.alloc (.cells #[.int .i64 an,.int .i64 ar,.int .i64 bn,.int .i64 br,.string nm,.string vl] 58)=w9 at *
   clear z0 z1 z2 z3 z4 z5
   have y0:w9.cell? ⟨wr.heap.size,0,none⟩=some (.int .i64 an):=by rw[Lib.cell_of_heap HBK.out];rfl
   have y1:w9.cell? ⟨wr.heap.size,1,none⟩=some (.int .i64 ar):=by rw[Lib.cell_of_heap HBK.out];rfl
   have y2:w9.cell? ⟨wr.heap.size,2,none⟩=some (.int .i64 bn):=by rw[Lib.cell_of_heap HBK.out];rfl
   have y3:w9.cell? ⟨wr.heap.size,3,none⟩=some (.int .i64 br):=by rw[Lib.cell_of_heap HBK.out];rfl
   have y4:w9.cell? ⟨wr.heap.size,4,none⟩=some (.string nm):=by rw[Lib.cell_of_heap HBK.out];rfl
   have y5:w9.cell? ⟨wr.heap.size,5,none⟩=some (.string vl):=by rw[Lib.cell_of_heap HBK.out];rfl
   have HSET:=Jh (QH (w.heap.size+5) (w.heap.size+3) (w.heap.size+4) (Zg (ws.take k)).1 (Zg (ws.take k)).2 an ar bn br nm vl w9 HR9.out.1)
   go_wp2_with fail
   refine HSET.out.mono ?_
   rintro e w10 ⟨rfl,hr10,hx10⟩
   have hbk10:=(hx10.block wr.heap.size (by have:=HZA9.out;omega) (by have:=HZ.out;omega)).trans HBK.out
   replace y0:w10.cell? ⟨wr.heap.size,0,none⟩=some (.int .i64 an):=by rw[Lib.cell_of_heap hbk10];rfl
   replace y1:w10.cell? ⟨wr.heap.size,1,none⟩=some (.int .i64 ar):=by rw[Lib.cell_of_heap hbk10];rfl
   replace y2:w10.cell? ⟨wr.heap.size,2,none⟩=some (.int .i64 bn):=by rw[Lib.cell_of_heap hbk10];rfl
   replace y3:w10.cell? ⟨wr.heap.size,3,none⟩=some (.int .i64 br):=by rw[Lib.cell_of_heap hbk10];rfl
   replace y4:w10.cell? ⟨wr.heap.size,4,none⟩=some (.string nm):=by rw[Lib.cell_of_heap hbk10];rfl
   replace y5:w10.cell? ⟨wr.heap.size,5,none⟩=some (.string vl):=by rw[Lib.cell_of_heap hbk10];rfl
   obtain ⟨v9,hv9,ho9⟩:=HR9.out.2
   have hv10:=(hx10.block (w.heap.size+6) (Array.getElem?_eq_some_iff.1 hv9).1 (by omega)).trans hv9
   have ho10:=ho9.ext hx10 (fun b hb h=>by have:=(ho9.blk b hb).1;omega)
   have hz10:=hx10.size
   have HRS:=Jh (Z2R (w.heap.size+6) (w.heap.size+6) v9 (X5 (ws.take k)) ⟨⟨an,ar⟩,⟨bn,br⟩,nm,vl⟩ w10 hv10 ho10 (by have:=HZ.out;have:=HZA9.out;omega) (by have:=SF (ws.take k);rw[List.length_take] at this;have:=HLE.out.2.2.1;omega))
   have HV9:=Jh (fun q (hq:v9.ownBlock=some q)=>(ho9.blk q hq).1)
   have HR10:=Lib.hid hr10
   have HB10:Hid (Below (w.heap.size+3) w1 w10):=Jh (Ext.new HB9.out hx10 (fun i hi _ h=>by omega) (by have:=HZA9.out;have:=HZ.out;omega))
   have HZ10:Hid (w.heap.size+7≤w10.heap.size):=Jh (by have:=HZA9.out;have:=HZ.out;omega)
   clear hr10 hx10 hbk10 hv9 ho9 hv10 ho10 hz10 HSET
   go_upto_region 8 with fail
   go_wp2_with fail
   refine HRS.out.mono ?_
   rintro e w11 ⟨rfl,hr11,hx11⟩
   have HRF:Hid (WK w.heap.size (ws.take (k+1)) w11):=Lib.hid ⟨by rw[T5 HX.out];exact HR10.out.ext hx11 (by rintro (h|h);omega;have:=HV9.out _ h;omega) (by rintro (h|h);omega;have:=HV9.out _ h;omega) (by rintro (h|h);omega;have:=HV9.out _ h;omega),by rw[Z0S HX.out];exact hr11⟩
   have HB11:Hid (Below (w.heap.size+3) w1 w11):=Jh (Ext.new HB10.out hx11 (fun i hi _ h=>by rcases h with h|h;omega;have:=HV9.out _ h;omega) (by have:=HZ10.out;omega))
   have HZ11:Hid (w.heap.size+7≤w11.heap.size):=Jh (by have:=hx11.size;have:=HZ10.out;omega)
   clear hr11 hx11 HRS
   go_wp2_with fail
   go_roundg (n2 - (k+1))
   case measure=>rw[HG.out];omega
   case rel=>exact ⟨k+1,rfl,hkl,by go_num,HRF,HB11,HZ11⟩
  ·have hkk:¬ ((k:Int)<(n2:Int)):=by omega
   have HRW:Hid (WK w.heap.size ws wr):=Jh (by have:=HR.out;rwa [List.take_of_length_le (by have:=HLN.out.2.2.1;omega)] at this)
   have HHG:=Jh (Z2L a0 a1 a2 a3 n0 n1 n2 n3 c0 c1 c2 c3 mv wr (HIN.out.2.1.below HBW.out) HLE.out.2.1)
   go_wp2_with fail
   refine HHG.out.mono ?_
   rintro e w5 ⟨v5,A,rfl,ho5,hA5,b5⟩
   obtain ⟨a5,c5,rfl,hc5,hm5,-⟩:=ho5.slice (fun _=>rfl)
   have HO5:=Jh (ho5.slice (fun _=>rfl))
   have HA5:=Lib.hid hA5
   have HAL:Hid (A.length≤60):=Jh (Nat.le_trans (Z1Z hA5) (Nat.le_trans (Sv mv) HLE.out.2.1))
   have HR5:=Jh (HRW.out.below b5)
   have HB5:Hid (Below (w.heap.size+3) w1 w5):=Jh (HB.out.trans (b5.mono (by have:=HZ.out;omega)))
   have HBW5:=Jh (HBW.out.trans (b5.mono HBW.out.size))
   have HZ5:Hid (w.heap.size+7≤w5.heap.size):=Jh (by have:=b5.size;have:=HZ.out;omega)
   replace x0:=Z0 b5 x0
   replace x3:=Z0 b5 x3
   clear x1 x2 ho5 hA5 b5 hc5 hm5 HHG
   have HB1:Hid (∀ W,Below w5.heap.size w5 W→Calls Tryz.prog 27 #[.slice a0 n0 c0,.slice a5 A.length c5,.pointer (some ⟨w.heap.size+5,0,none⟩),.slice a3 n3 c3] W fun e w'=>∃ (x:NdV) (n:Nat),e=.returned x.val∧(∀ D,Zo (Y6 l (Y1 (ZQ mv)) A) D→D.length+1≤n)∧Zv (fun k=>W.heap.size≤k) w' x (Vh l mv ws ms A n)∧Below W.heap.size W w'):=Jh (fun W hW=>by
    have:=SK a0 a5 a3 (some ⟨w.heap.size+5,0,none⟩) c0 c5 c3 l A ms (Xl (Zg ws).1) (Y1 (ZQ mv)) W (by have:=(HIN.out.1.below HBW5.out).below hW;rwa [HLN.out.1] at this) (by have:=HLE.out.1;omega) HLE.out.2.2.2.2 (HO5.out.below hW) (by have:=HAL.out;omega) HA5.out (YV _) (VH _) (VN mv) (by have:=(HIN.out.2.2.2.below HBW5.out).below hW;rwa [HLN.out.2.2.2] at this) (by have:=HLE.out.2.2.2.1;omega) (fun W2 hW2 u=>Z2y HR5.out HLE.out.2.2.1 W2 (hW.trans (hW2.mono hW.size)) u)
    rw[←HLN.out.1,←HLN.out.2.2.2] at this
    exact this)
   have HB2:Hid (∀ W,Below w5.heap.size w5 W→Calls Tryz.prog 37 #[.slice a0 n0 c0,.slice a5 A.length c5,.pointer (some ⟨w.heap.size+6,0,none⟩),.slice a3 n3 c3] W fun e w'=>∃ (x:NdV) (n:Nat),e=.returned x.val∧(∀ D,Zo (Y6 l (Y1 (ZQ mv)) A) D→D.length+1≤n)∧Zv (fun k=>W.heap.size≤k) w' x (Vh l mv ws ms A n)∧Below W.heap.size W w'):=Jh (fun W hW=>by
    have:=Z17 a0 a5 a3 c0 c5 c3 (w.heap.size+6) l A ms (Xl (Zg ws).1) (Y1 (ZQ mv)) W (by have:=(HIN.out.1.below HBW5.out).below hW;rwa [HLN.out.1] at this) (by have:=HLE.out.1;omega) HLE.out.2.2.2.2 (HO5.out.below hW) (by have:=HAL.out;omega) HA5.out (YV _) (VH _) (VN mv) (by have:=(HIN.out.2.2.2.below HBW5.out).below hW;rwa [HLN.out.2.2.2] at this) (by have:=HLE.out.2.2.2.1;omega) (fun W2 hW2 u=>Z2b HR5.out HLE.out.2.2.1 W2 (hW.trans (hW2.mono hW.size)) u)
    rw[←HLN.out.1,←HLN.out.2.2.2] at this
    exact this)
   unfold NdV.val at HB1 HB2
   go_upto_region 10 with fail
   have hS0:(fun W:World=>W.cell? ⟨w.heap.size,0,none⟩=some (.slice a0 n0 c0)∧W.cell? ⟨w.heap.size,3,none⟩=some (.slice a3 n3 c3)) w5.drew:=⟨x0,x3⟩
   refine Zf (fun W:World=>W.cell? ⟨w.heap.size,0,none⟩=some (.slice a0 n0 c0)∧W.cell? ⟨w.heap.size,3,none⟩=some (.slice a3 n3 c3)) (fun _=>false) (by kernel_rfl) ?_
   refine J2 0 46 _ hS0 ?_
   try simp only[Ja]
   refine J2 1 47 _ hS0 ?_
   try simp only[Ja]
   refine J2 2 48 _ hS0 ?_
   try simp only[Ja]
   refine J2 3 49 _ hS0 ?_
   try simp only[Ja]
   refine J2 4 50 _ hS0 ?_
   try simp only[Ja]
   refine J2 5 51 _ hS0 ?_
   try simp only[Ja]
   refine J2 7 53 _ hS0 ?_
   try simp only[Ja]
   refine J2 8 54 _ hS0 ?_
   try simp only[Ja]
   refine J2 9 55 _ hS0 ?_
   try simp only[Ja]
   refine J2 10 56 _ hS0 ?_
   try simp only[Ja]
   refine J2 11 57 _ hS0 ?_
   try simp only[Ja]
   refine J2 12 58 _ hS0 ?_
   try simp only[Ja]
   refine ZB (i:=6) (d:=some 52) (f:=27) (args:=#[.slice a0 n0 c0,.slice a5 A.length c5,.pointer (some ⟨w.heap.size+5,0,none⟩),.slice a3 n3 c3]) (w':=w5.drew) (by kernel_rfl) rfl rfl (by rfl) (by go_simp;try rfl) ?_
   refine (HB1.out w5.drew (below_drewN (Below.refl _ _) 1)).mono ?_
   rintro e w6 ⟨⟨⟨xn,xr⟩,xk,⟨xa,xb,xc⟩,⟨xd,xe,xf⟩,⟨xg,xh,xi⟩⟩,N1,rfl,hN1,hx6,b6⟩
   simp only[Y4,ZU] at b6 hx6
   refine ⟨_,rfl,fun _=>⟨Z0 b6 x0,Z0 b6 x3⟩,?_⟩
   try simp only[Ja]
   refine ZB (i:=13) (d:=some 59) (f:=37) (args:=#[.slice a0 n0 c0,.slice a5 A.length c5,.pointer (some ⟨w.heap.size+6,0,none⟩),.slice a3 n3 c3]) (w':=w6) (by kernel_rfl) rfl rfl (by rfl) (by go_simp;try rfl) ?_
   refine (HB2.out w6 b6).mono ?_
   rintro e w7 ⟨⟨⟨yn,yr⟩,yk,⟨ya,yb,yc⟩,⟨yd,ye,yf⟩,⟨yg,yh,yi⟩⟩,N2,rfl,hN2,hy7,b7⟩
   have hz6:=b6.size
   have hz7:=b7.size
   have hb7:Below (w.heap.size+3) w1 w7:=(HB5.out.trans (b6.mono (by have:=HZ5.out;omega))).trans (b7.mono (by have:=HZ5.out;omega))
   have hnb1:NdB w7 (w.heap.size+1) ⟨0,0⟩ ⟨#[]⟩ Z2 Z2 Z2:=(hb7.block _ (by omega)).trans HN.out.1
   have hnb2:NdB w7 (w.heap.size+2) ⟨0,0⟩ ⟨#[]⟩ Z2 Z2 Z2:=(hb7.block _ (by omega)).trans HN.out.2
   have x0c:=Z0 b7 (Z0 b6 x0)
   have x3c:=Z0 b7 (Z0 b6 x3)
   refine ⟨_,rfl,fun _=>⟨Z0 b7 (Z0 b6 x0),Z0 b7 (Z0 b6 x3)⟩,?_⟩
   try simp only[Ja]
   have q0:w7.cell? ⟨w.heap.size+1,0,none⟩=some (.int .i64 0):=by rw[Lib.cell_of_heap hnb1];rfl
   have f0:w7.frozen? ⟨w.heap.size+1,0,none⟩=false:=Lib.frozen_of_heap hnb1 0
   have q1:w7.cell? ⟨w.heap.size+1,1,none⟩=some (.int .i64 0):=by rw[Lib.cell_of_heap hnb1];rfl
   have f1:w7.frozen? ⟨w.heap.size+1,1,none⟩=false:=Lib.frozen_of_heap hnb1 1
   have q2:w7.cell? ⟨w.heap.size+1,2,none⟩=some (.string ⟨#[]⟩):=by rw[Lib.cell_of_heap hnb1];rfl
   have f2:w7.frozen? ⟨w.heap.size+1,2,none⟩=false:=Lib.frozen_of_heap hnb1 2
   have q3:w7.cell? ⟨w.heap.size+1,3,none⟩=some (.slice none 0 0):=by rw[Lib.cell_of_heap hnb1];rfl
   have f3:w7.frozen? ⟨w.heap.size+1,3,none⟩=false:=Lib.frozen_of_heap hnb1 3
   have q4:w7.cell? ⟨w.heap.size+1,4,none⟩=some (.slice none 0 0):=by rw[Lib.cell_of_heap hnb1];rfl
   have f4:w7.frozen? ⟨w.heap.size+1,4,none⟩=false:=Lib.frozen_of_heap hnb1 4
   have q5:w7.cell? ⟨w.heap.size+1,5,none⟩=some (.slice none 0 0):=by rw[Lib.cell_of_heap hnb1];rfl
   have f5:w7.frozen? ⟨w.heap.size+1,5,none⟩=false:=Lib.frozen_of_heap hnb1 5
   refine Zh (i:=14) (d:=none) (w':=VJ w7 (w.heap.size+1) ⟨⟨xn,xr⟩,xk,⟨xa,xb,xc⟩,⟨xd,xe,xf⟩,⟨xg,xh,xi⟩⟩) (by kernel_rfl) rfl rfl (by rfl) (by go_simp;try rfl) (fun _=>⟨(XY w7 _ _).keep x0c (by omega),(XY w7 _ _).keep x3c (by omega)⟩) ?_
   try simp only[Ja]
   clear q0 q1 q2 q3 q4 q5 f0 f1 f2 f3 f4 f5
   have hp1:=TV (x:=⟨⟨xn,xr⟩,xk,⟨xa,xb,xc⟩,⟨xd,xe,xf⟩,⟨xg,xh,xi⟩⟩) hnb1
   have hp2:=(show (VJ w7 (w.heap.size+1) ⟨⟨xn,xr⟩,xk,⟨xa,xb,xc⟩,⟨xd,xe,xf⟩,⟨xg,xh,xi⟩⟩).heap[w.heap.size+2]?=_ from ((XY w7 (w.heap.size+1) _).block (w.heap.size+2) (Array.getElem?_eq_some_iff.1 hnb2).1 (by omega)).trans hnb2)
   have hpx:=XY w7 (w.heap.size+1) ⟨⟨xn,xr⟩,xk,⟨xa,xb,xc⟩,⟨xd,xe,xf⟩,⟨xg,xh,xi⟩⟩
   generalize VJ w7 (w.heap.size+1) ⟨⟨xn,xr⟩,xk,⟨xa,xb,xc⟩,⟨xd,xe,xf⟩,⟨xg,xh,xi⟩⟩=w8 at *
   have q0:w8.cell? ⟨w.heap.size+2,0,none⟩=some (.int .i64 0):=by rw[Lib.cell_of_heap hp2];rfl
   have f0:w8.frozen? ⟨w.heap.size+2,0,none⟩=false:=Lib.frozen_of_heap hp2 0
   have q1:w8.cell? ⟨w.heap.size+2,1,none⟩=some (.int .i64 0):=by rw[Lib.cell_of_heap hp2];rfl
   have f1:w8.frozen? ⟨w.heap.size+2,1,none⟩=false:=Lib.frozen_of_heap hp2 1
   have q2:w8.cell? ⟨w.heap.size+2,2,none⟩=some (.string ⟨#[]⟩):=by rw[Lib.cell_of_heap hp2];rfl
   have f2:w8.frozen? ⟨w.heap.size+2,2,none⟩=false:=Lib.frozen_of_heap hp2 2
   have q3:w8.cell? ⟨w.heap.size+2,3,none⟩=some (.slice none 0 0):=by rw[Lib.cell_of_heap hp2];rfl
   have f3:w8.frozen? ⟨w.heap.size+2,3,none⟩=false:=Lib.frozen_of_heap hp2 3
   have q4:w8.cell? ⟨w.heap.size+2,4,none⟩=some (.slice none 0 0):=by rw[Lib.cell_of_heap hp2];rfl
   have f4:w8.frozen? ⟨w.heap.size+2,4,none⟩=false:=Lib.frozen_of_heap hp2 4
   have q5:w8.cell? ⟨w.heap.size+2,5,none⟩=some (.slice none 0 0):=by rw[Lib.cell_of_heap hp2];rfl
   have f5:w8.frozen? ⟨w.heap.size+2,5,none⟩=false:=Lib.frozen_of_heap hp2 5
   refine Zh (i:=15) (d:=none) (w':=VJ w8 (w.heap.size+2) ⟨⟨yn,yr⟩,yk,⟨ya,yb,yc⟩,⟨yd,ye,yf⟩,⟨yg,yh,yi⟩⟩) (by kernel_rfl) rfl rfl (by rfl) (by go_simp;try rfl) (fun _=>⟨(XY w8 _ _).keep (hpx.keep x0c (by omega)) (by omega),(XY w8 _ _).keep (hpx.keep x3c (by omega)) (by omega)⟩) ?_
   try simp only[Ja]
   refine Zd (by kernel_rfl) ?_ _
   clear q0 q1 q2 q3 q4 q5 f0 f1 f2 f3 f4 f5
   have hpy:=XY w8 (w.heap.size+2) ⟨⟨yn,yr⟩,yk,⟨ya,yb,yc⟩,⟨yd,ye,yf⟩,⟨yg,yh,yi⟩⟩
   have hq2:=TV (x:=⟨⟨yn,yr⟩,yk,⟨ya,yb,yc⟩,⟨yd,ye,yf⟩,⟨yg,yh,yi⟩⟩) hp2
   have hq1:=(hpy.block (w.heap.size+1) (Array.getElem?_eq_some_iff.1 hp1).1 (by omega)).trans hp1
   generalize VJ w8 (w.heap.size+2) ⟨⟨yn,yr⟩,yk,⟨ya,yb,yc⟩,⟨yd,ye,yf⟩,⟨yg,yh,yi⟩⟩=w9 at *
   have HQ:=Jh (And.intro hq1 hq2)
   have HF:Hid (SN l mv ws ms w (.returned (.tuple #[NdV.val ⟨⟨xn,xr⟩,xk,⟨xa,xb,xc⟩,⟨xd,xe,xf⟩,⟨xg,xh,xi⟩⟩,NdV.val ⟨⟨yn,yr⟩,yk,⟨ya,yb,yc⟩,⟨yd,ye,yf⟩,⟨yg,yh,yi⟩⟩])) w9):=Jh (by
    obtain ⟨D,hD⟩:=Qk (l:=l) HA5.out (YV (ZQ mv))
    have hz5:=HZ5.out
    refine ⟨A,D,N1,_,_,rfl,HA5.out,hD,hN1 D hD,?_,?_,?_⟩
    ·exact (((hx6.belowW b7).ext hpx (fun b hb _ e=>by omega)).ext hpy (fun b hb _ e=>by omega)).mono (fun b hb=>by omega)
    ·rw[Z0J hD (hN1 D hD) (hN2 D hD)]
     exact ((hy7.ext hpx (fun b hb _ e=>by omega)).ext hpy (fun b hb _ e=>by omega)).mono (fun b hb=>by omega)
    ·exact Ext.new (Ext.new (HB0.out.trans (hb7.mono (by omega))) hpx (fun i hi _ e=>by omega) (by omega)) hpy (fun i hi _ e=>by omega) (by have:=hpx.size;omega))
   clear hx6 hy7 hN1 hN2 b6 b7 hb7 hpx hpy hp1 hp2 hq1 hq2 hnb1 hnb2 x0c x3c hS0
   go_wp2_with fail
   refine bodyPost_ret (v:=.tuple #[NdV.val ⟨⟨xn,xr⟩,xk,⟨xa,xb,xc⟩,⟨xd,xe,xf⟩,⟨xg,xh,xi⟩⟩,NdV.val ⟨⟨yn,yr⟩,yk,⟨ya,yb,yc⟩,⟨yd,ye,yf⟩,⟨yg,yh,yi⟩⟩]) (R9 rfl _ _ _ (w.heap.size+1) (w.heap.size+2) _ _ _ _ _ _ _ rfl rfl HQ.out.1 HQ.out.2 rfl Tryz.underlying28 (by kernel_rfl) (by kernel_rfl)) rfl ?_
   exact HF.out
end Go.Proofs.YtlgipkemoldckaaGreatDoor
namespace Go.Proofs
open Go.Shelf
def Tryz.repF_ren:Go.Shelf.Ren:=⟨fun|105=>50|212=>73|99=>74|165=>75|166=>49|170=>76|169=>29|263=>101|264=>102|206=>103|240=>72|241=>104|276=>100|277=>130|n=>n,fun|9=>9|3=>3|4=>4|20=>20|0=>0|46=>145|109=>146|5=>5|72=>66|76=>115|51=>189|146=>190|53=>192|148=>193|70=>63|37=>64|75=>114|127=>118|164=>187|80=>68|n=>n,fun|n=>n⟩
theorem Tryz.repF:Go.Proofs.Lays.n105 Tryz.prog Tryz.repF_ren:={
 mixed:=by kernel_rfl
 f99:=Tryz.func74.trans (congrArg some (by kernel_rfl))
 f105:=Tryz.func50.trans (congrArg some (by kernel_rfl))
 f165:=Tryz.func75.trans (congrArg some (by kernel_rfl))
 f166:=Tryz.func49.trans (congrArg some (by kernel_rfl))
 f169:=Tryz.func29.trans (congrArg some (by kernel_rfl))
 f170:=Tryz.func76.trans (congrArg some (by kernel_rfl))
 f206:=Tryz.func103.trans (congrArg some (by kernel_rfl))
 f212:=Tryz.func73.trans (congrArg some (by kernel_rfl))
 f240:=Tryz.func72.trans (congrArg some (by kernel_rfl))
 f241:=Tryz.func104.trans (congrArg some (by kernel_rfl))
 f263:=Tryz.func101.trans (congrArg some (by kernel_rfl))
 f264:=Tryz.func102.trans (congrArg some (by kernel_rfl))
 f276:=Tryz.func100.trans (congrArg some (by kernel_rfl))
 f277:=Tryz.func130.trans (congrArg some (by kernel_rfl))
 t0:=Tryz.underlying0
 a0:=Tryz.isAgg0
 z0:=Tryz.sizeOf0
 v0:=Tryz.zeroValue0
 t3:=Tryz.underlying3
 a3:=Tryz.isAgg3
 z3:=Tryz.sizeOf3
 v3:=Tryz.zeroValue3
 t4:=Tryz.underlying4
 a4:=Tryz.isAgg4
 z4:=Tryz.sizeOf4
 v4:=Tryz.zeroValue4
 t5:=Tryz.underlying5
 a5:=Tryz.isAgg5
 z5:=Tryz.sizeOf5
 v5:=Tryz.zeroValue5
 t9:=Tryz.underlying9
 a9:=Tryz.isAgg9
 z9:=Tryz.sizeOf9
 v9:=Tryz.zeroValue9
 t20:=Tryz.underlying20
 a20:=Tryz.isAgg20
 z20:=Tryz.sizeOf20
 v20:=Tryz.zeroValue20
 t37:=Tryz.underlying64
 a37:=Tryz.isAgg64
 z37:=Tryz.sizeOf64
 v37:=Tryz.zeroValue64
 t46:=Tryz.underlying145
 a46:=Tryz.isAgg145
 z46:=Tryz.sizeOf145
 v46:=Tryz.zeroValue145
 t51:=Tryz.underlying189
 a51:=Tryz.isAgg189
 z51:=Tryz.sizeOf189
 v51:=Tryz.zeroValue189
 t53:=Tryz.underlying192
 a53:=Tryz.isAgg192
 z53:=Tryz.sizeOf192
 v53:=Tryz.zeroValue192
 t70:=Tryz.underlying63
 a70:=Tryz.isAgg63
 z70:=Tryz.sizeOf63
 v70:=Tryz.zeroValue63
 t72:=Tryz.underlying66
 a72:=Tryz.isAgg66
 z72:=Tryz.sizeOf66
 v72:=Tryz.zeroValue66
 t75:=Tryz.underlying114
 a75:=Tryz.isAgg114
 z75:=Tryz.sizeOf114
 v75:=Tryz.zeroValue114
 t76:=Tryz.underlying115
 a76:=Tryz.isAgg115
 z76:=Tryz.sizeOf115
 v76:=Tryz.zeroValue115
 t109:=Tryz.underlying146
 a109:=Tryz.isAgg146
 z109:=Tryz.sizeOf146
 v109:=Tryz.zeroValue146
 t127:=Tryz.underlying118
 a127:=Tryz.isAgg118
 z127:=Tryz.sizeOf118
 v127:=Tryz.zeroValue118
 t146:=Tryz.underlying190
 a146:=Tryz.isAgg190
 z146:=Tryz.sizeOf190
 v146:=Tryz.zeroValue190
 t148:=Tryz.underlying193
 a148:=Tryz.isAgg193
 z148:=Tryz.sizeOf193
 v148:=Tryz.zeroValue193
 t164:=Tryz.underlying187
 a164:=Tryz.isAgg187
 z164:=Tryz.sizeOf187
 v164:=Tryz.zeroValue187 }
def Tryz.itoaF_ren:Go.Shelf.Ren:=⟨fun|171=>105|243=>131|246=>144|283=>149|284=>150|285=>151|286=>152|129=>118|317=>154|318=>155|319=>156|320=>157|337=>158|338=>159|n=>n,fun|3=>3|9=>9|2=>2|4=>4|171=>232|0=>0|53=>192|37=>64|5=>5|173=>234|212=>238|51=>189|20=>20|213=>239|46=>145|232=>240|233=>241|n=>n,fun|17=>1|18=>2|19=>3|n=>n⟩
theorem Tryz.itoaF:Go.Proofs.LaysM.n171 Tryz.prog Tryz.itoaF_ren:={
 mixed:=by kernel_rfl
 f129:=Tryz.func118.trans (congrArg some (by kernel_rfl))
 f171:=Tryz.func105.trans (congrArg some (by kernel_rfl))
 f243:=Tryz.func131.trans (congrArg some (by kernel_rfl))
 f246:=Tryz.func144.trans (congrArg some (by kernel_rfl))
 f283:=Tryz.func149.trans (congrArg some (by kernel_rfl))
 f284:=Tryz.func150.trans (congrArg some (by kernel_rfl))
 f285:=Tryz.func151.trans (congrArg some (by kernel_rfl))
 f286:=Tryz.func152.trans (congrArg some (by kernel_rfl))
 f317:=Tryz.func154.trans (congrArg some (by kernel_rfl))
 f318:=Tryz.func155.trans (congrArg some (by kernel_rfl))
 f319:=Tryz.func156.trans (congrArg some (by kernel_rfl))
 f320:=Tryz.func157.trans (congrArg some (by kernel_rfl))
 f337:=Tryz.func158.trans (congrArg some (by kernel_rfl))
 f338:=Tryz.func159.trans (congrArg some (by kernel_rfl))
 t0:=Tryz.underlying0
 a0:=Tryz.isAgg0
 z0:=Tryz.sizeOf0
 v0:=Tryz.zeroValue0
 t2:=Tryz.underlying2
 a2:=Tryz.isAgg2
 z2:=Tryz.sizeOf2
 v2:=Tryz.zeroValue2
 t3:=Tryz.underlying3
 a3:=Tryz.isAgg3
 z3:=Tryz.sizeOf3
 v3:=Tryz.zeroValue3
 t4:=Tryz.underlying4
 a4:=Tryz.isAgg4
 z4:=Tryz.sizeOf4
 v4:=Tryz.zeroValue4
 t5:=Tryz.underlying5
 a5:=Tryz.isAgg5
 z5:=Tryz.sizeOf5
 v5:=Tryz.zeroValue5
 t9:=Tryz.underlying9
 a9:=Tryz.isAgg9
 z9:=Tryz.sizeOf9
 v9:=Tryz.zeroValue9
 t20:=Tryz.underlying20
 a20:=Tryz.isAgg20
 z20:=Tryz.sizeOf20
 v20:=Tryz.zeroValue20
 t37:=Tryz.underlying64
 a37:=Tryz.isAgg64
 z37:=Tryz.sizeOf64
 v37:=Tryz.zeroValue64
 t46:=Tryz.underlying145
 a46:=Tryz.isAgg145
 z46:=Tryz.sizeOf145
 v46:=Tryz.zeroValue145
 t51:=Tryz.underlying189
 a51:=Tryz.isAgg189
 z51:=Tryz.sizeOf189
 v51:=Tryz.zeroValue189
 t53:=Tryz.underlying192
 a53:=Tryz.isAgg192
 z53:=Tryz.sizeOf192
 v53:=Tryz.zeroValue192
 t171:=Tryz.underlying232
 a171:=Tryz.isAgg232
 z171:=Tryz.sizeOf232
 v171:=Tryz.zeroValue232
 t173:=Tryz.underlying234
 a173:=Tryz.isAgg234
 z173:=Tryz.sizeOf234
 v173:=Tryz.zeroValue234
 t212:=Tryz.underlying238
 a212:=Tryz.isAgg238
 z212:=Tryz.sizeOf238
 v212:=Tryz.zeroValue238
 t213:=Tryz.underlying239
 a213:=Tryz.isAgg239
 z213:=Tryz.sizeOf239
 t232:=Tryz.underlying240
 a232:=Tryz.isAgg240
 z232:=Tryz.sizeOf240
 v232:=Tryz.zeroValue240
 t233:=Tryz.underlying241
 a233:=Tryz.isAgg241
 z233:=Tryz.sizeOf241
 v233:=Tryz.zeroValue241
 g17:=by kernel_rfl
 g18:=by kernel_rfl
 g19:=by kernel_rfl
 i0:=by kernel_rfl
 i2:=by kernel_rfl
 i3:=by kernel_rfl
 i4:=by kernel_rfl
 i5:=by kernel_rfl
 i9:=by kernel_rfl
 i20:=by kernel_rfl
 i37:=by kernel_rfl
 i46:=by kernel_rfl
 i51:=by kernel_rfl
 i53:=by kernel_rfl
 i171:=by kernel_rfl
 i173:=by kernel_rfl
 i212:=by kernel_rfl
 i232:=by kernel_rfl
 i233:=by kernel_rfl
 m17:=by kernel_rfl
 m18:=by kernel_rfl
 m19:=by kernel_rfl }
end Go.Proofs
namespace Go.Proofs.YtlgipkemoldckaaGreatDoor
open Go.RowKit Go.Shelf
def BdF (B b:Nat) (l:List UInt8) (w:World):Prop:=Lib.IsBuilderF 66 5 B b (Lib.byteCells l) w
def KpO (b:Nat) (w w':World):Prop:=Lib.OthersKept 5 (some b) w w'
theorem BdF.keepW {B b:Nat} {l:List UInt8} {w w':World} (h:BdF B b l w) (hk:∀ k,k<w.heap.size→w'.heap[k]?=w.heap[k]?):BdF B b l w':=by
 have go:∀ p,Lib.BuilderAtF 66 5 B b p (Lib.byteCells l) w→Lib.BuilderAtF 66 5 B b p (Lib.byteCells l) w':=by
  rintro p ⟨hB,v,hb,⟨h1,h2⟩,hne⟩
  have hlt:∀ k o,w.heap[k]?=some o→w'.heap[k]?=some o:=fun k o e=>(hk k (Array.getElem?_eq_some_iff.1 e).1).trans e
  refine ⟨hB,v,hlt _ _ hb,⟨h1,?_⟩,hne⟩
  rcases h2 with h2|⟨g,cap,cur,fz,e1,e2,e3,rest⟩
  ·exact .inl h2
  ·exact .inr ⟨g,cap,cur,fz,e1,e2,hlt _ _ e3,rest⟩
 exact h.elim (fun x=>.inl (go _ x)) (fun x=>.inr (go _ x))
theorem BdF.below {B b:Nat} {l:List UInt8} {w w':World} (h:BdF B b l w) (hb:Below w.heap.size w w'):BdF B b l w':=h.keepW hb.block
theorem BdF.alloc {B b:Nat} {l:List UInt8} {w:World} (h:BdF B b l w) (o:Obj):BdF B b l (w.alloc o):=Lib.IsBuilderF.alloc h o
theorem BdF.lt {B b:Nat} {l:List UInt8} {w:World} (h:BdF B b l w):B≤b∧b<w.heap.size:=h.elim (fun x=>⟨x.1,x.lt⟩) (fun x=>⟨x.1,x.lt⟩)
theorem KpO.refl (b:Nat) (w:World):KpO b w w:=Lib.OthersKept.refl _ _ _
theorem KpO.trans {b:Nat} {w w' w'':World} (h:KpO b w w') (k:KpO b w' w''):KpO b w w'':=Lib.OthersKept.trans h k
theorem KpO.of_below {b:Nat} {w w':World} (h:Below w.heap.size w w'):KpO b w w':=fun k o e _ _=>(h.block k (Array.getElem?_eq_some_iff.1 e).1).trans e
theorem KpO.alloc {b:Nat} {w w':World} (h:KpO b w w') (o:Obj):KpO b w (w'.alloc o):=Lib.OthersKept.alloc h o
theorem KpO.block {b:Nat} {w w':World} (h:KpO b w w') {k:Nat} {cs:Array Value} {t:TypeId} {fz:Nat × Nat} (e:w.heap[k]?=some (.cells cs t fz)) (hk:k≠b) (ht:t≠5):w'.heap[k]?=some (.cells cs t fz) :=
 h k _ e (fun e=>hk (Option.some.inj e)) (fun c f e2=>by cases e2;exact ht rfl)
theorem BdF.ne {B b:Nat} {l:List UInt8} {w:World} (h:BdF B b l w) {k:Nat} {cs:Array Value} {t:TypeId} {fz:Nat × Nat} (e:w.heap[k]?=some (.cells cs t fz)) (ht:t≠66):k≠b:=by
 rintro rfl
 rcases h with ⟨_,v,hb,_⟩|⟨_,v,hb,_⟩ <;> (rw[e] at hb;cases hb;exact ht rfl)
theorem BdF.fresh {B b:Nat} {w:World} (hB:B≤b) (h:w.heap[b]?=some (.cells #[.pointer none,.slice none 0 0] 66 (0,0))):BdF B b [] w :=
 .inl ⟨hB,.slice none 0 0,h,⟨rfl,.inl ⟨rfl,rfl⟩⟩,by simp[Value.ownBlock]⟩
theorem Z3Q:Lays.n166 Tryz.prog Tryz.repF_ren:={ Tryz.repF with }
theorem RA:Builder.Extra Tryz.prog Tryz.repF_ren where
 sizeBuilder:=by kernel_rfl
 liesBuilder:=by kernel_rfl
 t5:=Tryz.underlying5
 a5:=Tryz.isAgg5
 z5:=Tryz.sizeOf5
 v5:=Tryz.zeroValue5
 infoByte:=by kernel_rfl
 cellsByte:=by kernel_rfl
 sizeByte:=by kernel_rfl
 neB5:=by decide
theorem T2 (B b:Nat) (l:List UInt8) (s:ByteArray) (w:World) (h:BdF B b l w) (hl:l.length+s.size≤140737488355328) (hB:B≤w.heap.size) :
  Calls Tryz.prog 49 #[.pointer (some ⟨b,0,none⟩),.string s] w fun e w'=>e=.returned (.tuple #[.int .i64 s.size,.nilIface])∧BdF B b (l++s.data.toList) w'∧Below B w w'∧KpO b w w':=by
 refine (Any.Builder_WriteString_k Z3Q RA B b (Lib.byteCells l) s w h (by rw[Lib.byteCells_length];exact hl) hB).mono ?_
 rintro e w' ⟨rfl,h1,h2,h3⟩
 refine ⟨rfl,?_,h2,h3⟩
 rw[Lib.strCells_eq,←Lib.byteCells_append] at h1
 exact .inr h1
theorem Z3P:Lays.n169 Tryz.prog Tryz.repF_ren:={ Tryz.repF with }
theorem Q8 (B b:Nat) (l:List UInt8) (w:World) (h:BdF B b l w) (hB:B≤w.heap.size) :
  Calls Tryz.prog 29 #[.pointer (some ⟨b,0,none⟩)] w fun e w'=>e=.returned (.string ⟨l.toArray⟩)∧BdF B b l w'∧Below B w w'∧KpO b w w' :=
 Any.Builder_String_any_k Z3P RA B b l w h hB
def YU (ss:List ByteArray):List UInt8:=ss.flatMap fun s=>s.data.toList
theorem SA {ss:List ByteArray} {k:Nat} {s:ByteArray} (h:ss[k]?=some s):YU (ss.take (k+1))=YU (ss.take k)++s.data.toList:=by
 unfold YU
 rw[List.take_add_one,h,Option.toList_some,List.flatMap_append]
 simp
theorem Q6 (ss:List ByteArray) (k:Nat):(YU (ss.take k)).length≤(YU ss).length:=by
 conv=>rhs;rw[←List.take_append_drop k ss]
 unfold YU
 rw[List.flatMap_append,List.length_append]
 omega
def Vo (B b:Nat) (l x:List UInt8) (w:World) (e:Ending) (w':World):Prop:=e=.returned (.tuple #[])∧BdF B b (l++x) w'∧Below B w w'∧KpO b w w'
theorem Vl (B b g:Nat) (l:List UInt8) (ss:List ByteArray) (fz:Nat × Nat) (w:World) (h:BdF B b l w) (hg:w.heap[g]?=some (.cells (ss.map Value.string).toArray 9 fz)) (hl:l.length+(YU ss).length≤140737488355328) (hB:B≤w.heap.size) (hs:ss.length≤1000) :
  Calls Tryz.prog 77 #[.slice (some ⟨g,0,none⟩) ss.length ss.length,.pointer (some ⟨b,0,none⟩)] w fun e w'=>Vo B b l (YU ss) w e w':=by
 have hgb:g≠b:=h.ne hg (by decide)
 have HH:=Lib.hid h
 have HG:=Lib.hid hg
 clear h hg
 go_enter Tryz.func77,Tryz.ntmps77
 go_wp2_with fail
 go_loopg [7] ss.length (fun n iv wr=>∃ k:Nat,n=ss.length - k∧k≤ss.length∧iv=.int .i64 k∧Hid (BdF B b (l++YU (ss.take k)) wr)∧Hid (Below B w wr)∧Hid (KpO b w wr))
 case atStart=>exact ⟨0,by omega,by omega,rfl,Jh (by simpa [YU] using HH.out),Jh (Below.refl _ _),Jh (KpO.refl _ _)⟩
 case round =>
  obtain ⟨k,hn,hk,rfl,H1,H2,H3⟩:=hrel
  have HN:=Lib.hid hn
  clear hn
  by_cases hkl:k<ss.length
  ·obtain ⟨s,hs1⟩:∃ s,ss[k]?=some s:=⟨_,List.getElem?_eq_getElem hkl⟩
   have hgw:=H3.out.block HG.out hgb (by decide)
   have c0:wr.cell? ⟨g,0+k*1,none⟩=some (.string s):=by
    rw[Lib.cell_of_heap hgw]
    simp[hs1]
   rw[Nat.zero_add,Nat.mul_one] at c0
   have hkk:(k:Int)<(ss.length:Int):=by omega
   have hct:=Q6 ss (k+1)
   rw[SA hs1,List.length_append] at hct
   have hsz:s.data.toList.length=s.size:=by rw[Array.length_toList];rfl
   have HW:=Jh (T2 B b (l++YU (ss.take k)) s wr H1.out (by rw[List.length_append];omega) (by have:=H2.out.size;omega))
   have HS:=Lib.hid hs1
   clear hgw hs1 hct hsz
   go_wp2_with fail
   refine HW.out.mono ?_
   rintro e w5 ⟨rfl,g1,g2,g3⟩
   have G1:=Jh (by rw[List.append_assoc,←SA HS.out] at g1;exact g1)
   have G2:=Jh (H2.out.trans g2)
   have G3:=Jh (H3.out.trans g3)
   clear g1 g2 g3 c0
   go_wp2_with fail
   go_roundg (ss.length - (k+1))
   case measure=>rw[HN.out];omega
   case rel=>exact ⟨k+1,rfl,hkl,by go_num,G1,G2,G3⟩
  ·have hkk:¬ ((k:Int)<(ss.length:Int)):=by omega
   go_wp2_with fail
   go_end0
   refine ⟨rfl,?_,H2.out,H3.out⟩
   have:=H1.out
   rwa [List.take_of_length_le (by omega)] at this
end Go.Proofs.YtlgipkemoldckaaGreatDoor
namespace Go.Proofs.YtlgipkemoldckaaGreatDoor
open Go.RowKit Go.Deep
theorem WP:Tryz.prog.underlying 64=some (.slice 5):=by kernel_rfl
theorem WQ {l:List UInt8} {k:Nat} {c:UInt8} (h:l[k]?=some c):(l.take (k+1)).flatMap Y0=(l.take k).flatMap Y0++Y0 c:=by
 rw[List.take_add_one,h,Option.toList_some,List.flatMap_append]
 simp
theorem Z3t (l:List UInt8):(l.flatMap Y0).length≤2*l.length:=by
 induction l with
 | nil=>simp
 | cons c l ih =>
  rw[List.flatMap_cons,List.length_append,List.length_cons]
  have:(Y0 c).length≤2:=by unfold Y0;split <;> simp
  omega
theorem Qd (l:List UInt8) (k:Nat):((l.take k).flatMap Y0).length≤2*l.length:=by
 have h1:=Z3t (l.take k)
 have h2:(l.take k).length≤l.length:=by rw[List.length_take];omega
 omega
theorem Z36 {c:UInt8} {n:Nat} (hn:n<256) (h:(c.toNat:Int)=(n:Int)):c=UInt8.ofNat n:=by
 have:c.toNat=n:=by omega
 rw[←this];simp
theorem Z31 {c:UInt8} {n:Nat} (hn:n<256) (h:¬ (c.toNat:Int)=(n:Int)):c≠UInt8.ofNat n:=fun e=>h (by rw[e];simp;omega)
theorem TA {w:World} (e:TypeId) (s:ByteArray):Below w.heap.size w (Lib.bytesWorld w e s) :=
 ⟨by unfold Lib.bytesWorld World.freeze;split <;> rfl,by unfold Lib.bytesWorld World.freeze;split <;> rfl,by unfold Lib.bytesWorld World.freeze;split <;> rfl,by rw[Lib.bytesWorld_size];omega,fun k hk=>Lib.bytesWorld_at_old w e s k hk⟩
theorem U3 (s:ByteArray) (w:World) (hs:s.size≤35184372088832) :
  Calls Tryz.prog 79 #[.string s] w fun e w'=>e=.returned (.string ⟨(Yn s.data.toList).toArray⟩)∧Below w.heap.size w w':=by
 obtain ⟨i0,hi,hz0,hz1,hz2⟩:=info_parts Z3l
 have hsz:s.data.toList.length=s.size:=by rw[Array.length_toList];rfl
 have hcv:∀ W:World,(convert 9 64 (.string s)).run Tryz.prog W=.ok (.slice (some ⟨W.heap.size,0,none⟩) s.size (grownCap W s.size 0 5)) (Lib.bytesWorld W 5 s):=fun W=>Lib.run_convert_string_bytes W _ _ _ s Tryz.underlying9 WP (by kernel_rfl)
 have hown0:Own u8c 1 5 w.heap.size (w.alloc (.cells #[.int .u8 34] 5)) (.slice (some ⟨w.heap.size,0,none⟩) 1 1) [34]:=SM w YQ (Nat.le_refl _) (34:UInt8)
 have hB0:Below w.heap.size w (w.alloc (.cells #[.int .u8 34] 5)):=(Below.refl _ _).alloc (Nat.le_refl _) _
 have hz0':(w.alloc (.cells #[.int .u8 34] 5)).heap.size=w.heap.size+1:=by simp
 have HO0:=Lib.hid hown0
 have HB0:=Lib.hid hB0
 clear hown0 hB0
 go_enter Tryz.func79,Tryz.ntmps79
 go_upto_region 2 with fail
 generalize w.alloc (.cells #[.int .u8 34] 5)=w1 at *
 have hcv1:=hcv w1
 have hbw:=TA (w:=w1) 5 s
 have hnew:∀ j c,s.data.toList[j]?=some c→(Lib.bytesWorld w1 5 s).cell? ⟨w.heap.size+1,j,none⟩=some (.int .u8 c.toNat):=fun j c hj=>by
  have hjl:=(List.getElem?_eq_some_iff.1 hj).1
  have:=Lib.bytesWorld_cell w1 5 s j (by omega)
  rw[hz0'] at this
  rw[this,List.getD_eq_getElem?_getD,hj]
  rfl
 have hsz2:=Lib.bytesWorld_size w1 5 s
 rw[hz0'] at hcv1 hsz2
 generalize Lib.bytesWorld w1 5 s=w2 at *
 generalize grownCap w1 s.size 0 5=gc at *
 have HNEW:=Lib.hid hnew
 have HO2:=Jh (HO0.out.ext (Ext.of_below (S:=fun _=>False) hbw) (fun _ _ f=>f))
 have HB2:=Jh (HB0.out.trans (hbw.mono (by omega)))
 clear hnew hbw hcv
 go_wp2_with fail
 go_loopg [3,10] s.size (fun n v iv wr=>∃ (k:Nat) (a:Option Addr) (cap:Nat),n=s.size - k∧k≤s.size∧iv=.int .i64 k∧v=.slice a (34 :: (s.data.toList.take k).flatMap Y0).length cap∧Hid (Own u8c 1 5 w.heap.size wr (.slice a (34 :: (s.data.toList.take k).flatMap Y0).length cap) (34 :: (s.data.toList.take k).flatMap Y0)) ∧
  Hid (∀ b,(Value.slice a (34 :: (s.data.toList.take k).flatMap Y0).length cap).ownBlock=some b→b≠w.heap.size+1)∧Hid (Ext (fun b=>b≠w.heap.size+1∧w.heap.size≤b) w2 wr))
 case atStart =>
  refine ⟨0,some ⟨w.heap.size,0,none⟩,1,by omega,by omega,rfl,rfl,HO2,Jh (fun b hb=>?_),Jh (Ext.refl _ _)⟩
  simp only[Value.ownBlock,Option.some.injEq] at hb
  omega
 case round =>
  obtain ⟨k,a,cap,hn,hk,rfl,rfl,HO,HD,HX⟩:=hrel
  have HN:=Lib.hid hn
  have hql:=Qd s.data.toList k
  have hwz:=HX.out.size
  clear hn
  by_cases hkl:k<s.size
  ·obtain ⟨c,hc⟩:∃ c,s.data.toList[k]?=some c:=⟨_,List.getElem?_eq_getElem (by omega)⟩
   have c0:=HX.out.keep (HNEW.out k c hc) (fun h=>h.1 rfl)
   have hkk:(k:Int)<(s.size:Int):=by omega
   have HC:=Lib.hid hc
   have hll:(34 :: (s.data.toList.take k).flatMap Y0).length≤2*s.size+1:=by simp only[List.length_cons];omega
   have hblk:=HO.out.blk
   have HBK:=Lib.hid hblk
   clear hc hql hblk
   generalize hL:34 :: (s.data.toList.take k).flatMap Y0=L at *
   have HL:=Lib.hid hL
   clear hL
   obtain ⟨cn,hcn⟩:∃ cn:Int,(c.toNat:Int)=cn:=⟨_,rfl⟩
   rw[hcn] at c0
   have HCN:=Lib.hid hcn
   clear hcn
   by_cases h1:cn=34
   ·have hq:Y0 c=[92,34]:=by rw[show c=34 from Z36 (n:=34) (by omega) (HCN.out.trans h1)];rfl
    subst h1
    go_wp2_with (at_builtin;refine Zn (ea:=u8c) (k:=1) rfl _ _ _ rfl i0 (.int .u8 0) 1 WP hi hz0 hz1 hz2 rfl (by omega) YQ Vp rfl (HO.out.alloc _) (92:UInt8) wr.heap.size 1 rfl ?_ (by unfold maxLen;omega) (by omega) (by simp;omega) ?_)
    ·exact VY _ 92
    ·intro v8 w8 hown8 hx8 hfr8
     obtain ⟨a8,c8,rfl,-,-,-⟩:=hown8.slice YQ
     have hz8:=hx8.size
     simp only[World.size_alloc] at hz8
     have hl8:(L++[92]).length=L.length+1:=by simp
     rw[hl8] at hown8 hfr8 ⊢
     have hdd8:∀ b,(Value.slice a8 (L.length+1) c8).ownBlock=some b→b≠w.heap.size+1:=fun b hb=>by
      rcases hfr8 b hb with h|h
      ·exact HD.out b h
      ·first|omega|(simp at h;omega)
     have hX8:=(HX.out.alloc _).andThen hx8 (fun i hi e=>⟨HD.out i e,(HBK.out i e).1⟩)
     have HX8:=Lib.hid hX8
     have HO8:=Lib.hid hown8
     have HD8:=Lib.hid hdd8
     have HBK8:=Lib.hid hown8.blk
     have c08:=hX8.keep (HNEW.out k c HC.out) (fun h=>h.1 rfl)
     clear hown8 hx8 hfr8 hdd8 hX8
     generalize hL8:L++[92]=L8 at *
     have HL8:=Lib.hid hL8
     clear hL8
     go_wp2_with (at_builtin;refine Zn (ea:=u8c) (k:=1) rfl _ _ _ rfl i0 (.int .u8 0) 1 WP hi hz0 hz1 hz2 rfl (by omega) YQ Vp rfl (HO8.out.alloc _) (34:UInt8) w8.heap.size 1 rfl ?_ (by unfold maxLen;omega) (by omega) (by simp;omega) ?_)
     ·exact VY _ 34
     ·intro v9 w9 hown9 hx9 hfr9
      have hdd:∀ b,v9.ownBlock=some b→b≠w.heap.size+1:=fun b hb=>by
       rcases hfr9 b hb with h|h
       ·exact HD8.out b h
       ·first|omega|(simp at h;omega)
      obtain ⟨a9,c9,rfl,-,-,-⟩:=hown9.slice YQ
      have HE:Hid (34 :: (s.data.toList.take (k+1)).flatMap Y0=L8++[34]):=Jh (by rw[WQ HC.out,←List.cons_append,HL.out,hq,List.append_cons,←HL8.out])
      have HX9:=Jh ((HX8.out.alloc _).andThen hx9 (fun i hi e=>⟨HD8.out i e,(HBK8.out i e).1⟩))
      have HO9:=Lib.hid hown9
      have HD9:=Jh (hdd)
      clear hown9 hx9 hfr9 hdd
      go_wp2_with fail
      go_roundg (s.size - (k+1))
      case measure=>rw[HN.out];omega
      case rel =>
       refine ⟨k+1,a9,c9,rfl,hkl,by go_num,by rw[HE.out],by rw[HE.out];exact HO9,by rw[HE.out];exact HD9,HX9⟩
   ·by_cases h2:cn=92
    ·have hq:Y0 c=[92,92]:=by rw[show c=92 from Z36 (n:=92) (by omega) (HCN.out.trans h2)];rfl
     subst h2
     go_wp2_with (at_builtin;refine Zn (ea:=u8c) (k:=1) rfl _ _ _ rfl i0 (.int .u8 0) 1 WP hi hz0 hz1 hz2 rfl (by omega) YQ Vp rfl (HO.out.alloc _) (92:UInt8) wr.heap.size 1 rfl ?_ (by unfold maxLen;omega) (by omega) (by simp;omega) ?_)
     ·exact VY _ 92
     ·intro v8 w8 hown8 hx8 hfr8
      obtain ⟨a8,c8,rfl,-,-,-⟩:=hown8.slice YQ
      have hz8:=hx8.size
      simp only[World.size_alloc] at hz8
      have hl8:(L++[92]).length=L.length+1:=by simp
      rw[hl8] at hown8 hfr8 ⊢
      have hdd8:∀ b,(Value.slice a8 (L.length+1) c8).ownBlock=some b→b≠w.heap.size+1:=fun b hb=>by
       rcases hfr8 b hb with h|h
       ·exact HD.out b h
       ·first|omega|(simp at h;omega)
      have hX8:=(HX.out.alloc _).andThen hx8 (fun i hi e=>⟨HD.out i e,(HBK.out i e).1⟩)
      have HX8:=Lib.hid hX8
      have HO8:=Lib.hid hown8
      have HD8:=Lib.hid hdd8
      have HBK8:=Lib.hid hown8.blk
      have c08:=hX8.keep (HNEW.out k c HC.out) (fun h=>h.1 rfl)
      clear hown8 hx8 hfr8 hdd8 hX8
      generalize hL8:L++[92]=L8 at *
      have HL8:=Lib.hid hL8
      clear hL8
      go_wp2_with (at_builtin;refine Zn (ea:=u8c) (k:=1) rfl _ _ _ rfl i0 (.int .u8 0) 1 WP hi hz0 hz1 hz2 rfl (by omega) YQ Vp rfl (HO8.out.alloc _) (92:UInt8) w8.heap.size 1 rfl ?_ (by unfold maxLen;omega) (by omega) (by simp;omega) ?_)
      ·exact VY _ 92
      ·intro v9 w9 hown9 hx9 hfr9
       have hdd:∀ b,v9.ownBlock=some b→b≠w.heap.size+1:=fun b hb=>by
        rcases hfr9 b hb with h|h
        ·exact HD8.out b h
        ·first|omega|(simp at h;omega)
       obtain ⟨a9,c9,rfl,-,-,-⟩:=hown9.slice YQ
       have HE:Hid (34 :: (s.data.toList.take (k+1)).flatMap Y0=L8++[92]):=Jh (by rw[WQ HC.out,←List.cons_append,HL.out,hq,List.append_cons,←HL8.out])
       have HX9:=Jh ((HX8.out.alloc _).andThen hx9 (fun i hi e=>⟨HD8.out i e,(HBK8.out i e).1⟩))
       have HO9:=Lib.hid hown9
       have HD9:=Jh (hdd)
       clear hown9 hx9 hfr9 hdd
       go_wp2_with fail
       go_roundg (s.size - (k+1))
       case measure=>rw[HN.out];omega
       case rel =>
        refine ⟨k+1,a9,c9,rfl,hkl,by go_num,by rw[HE.out],by rw[HE.out];exact HO9,by rw[HE.out];exact HD9,HX9⟩
    ·have hq:Y0 c=[c]:=by unfold Y0;rw[if_neg (by rintro (h|h);exact Z31 (n:=34) (by omega) (by rw[HCN.out];exact h1) h;exact Z31 (n:=92) (by omega) (by rw[HCN.out];exact h2) h)]
     have h2b:(cn == 92)=false:=by simpa using h2
     have h1b:(cn == 34)=false:=by simpa using h1
     clear h1 h2
     go_wp2_with (at_builtin;refine Zn (ea:=u8c) (k:=1) rfl _ _ _ rfl i0 (.int .u8 0) 1 WP hi hz0 hz1 hz2 rfl (by omega) YQ Vp rfl (HO.out.alloc _) (c:UInt8) wr.heap.size 1 rfl ?_ (by unfold maxLen;omega) (by omega) (by simp;omega) ?_)
     ·rw[←HCN.out];exact VY _ c
     ·intro v9 w9 hown9 hx9 hfr9
      have hdd:∀ b,v9.ownBlock=some b→b≠w.heap.size+1:=fun b hb=>by
       rcases hfr9 b hb with h|h
       ·exact HD.out b h
       ·first|omega|(simp at h;omega)
      obtain ⟨a9,c9,rfl,-,-,-⟩:=hown9.slice YQ
      have HE:Hid (34 :: (s.data.toList.take (k+1)).flatMap Y0=L++[c]):=Jh (by rw[WQ HC.out,←List.cons_append,HL.out,hq])
      have HX9:=Jh ((HX.out.alloc _).andThen hx9 (fun i hi e=>⟨HD.out i e,(HBK.out i e).1⟩))
      have HO9:=Lib.hid hown9
      have HD9:=Jh (hdd)
      clear hown9 hx9 hfr9 hdd
      go_wp2_with fail
      go_roundg (s.size - (k+1))
      case measure=>rw[HN.out];omega
      case rel =>
       refine ⟨k+1,a9,c9,rfl,hkl,by go_num,by rw[HE.out],by rw[HE.out];exact HO9,by rw[HE.out];exact HD9,HX9⟩
  ·have hkk:¬ ((k:Int)<(s.size:Int)):=by omega
   have hke:k=s.size:=by omega
   have hLe:34 :: (s.data.toList.take k).flatMap Y0=34 :: s.data.toList.flatMap Y0:=by rw[List.take_of_length_le (by omega)]
   have hll:(34 :: (s.data.toList.take k).flatMap Y0).length≤2*s.size+1:=by simp only[List.length_cons];omega
   have HBK:=Lib.hid HO.out.blk
   generalize hL:34 :: (s.data.toList.take k).flatMap Y0=L at *
   have HL:=Lib.hid hLe
   clear hL hLe
   have HCV:Hid (∀ (W:World) (v:Value) (bs:List UInt8),Z5 u8c 1 W v bs→(convert 64 9 v).run Tryz.prog W=.ok (.string ⟨bs.toArray⟩) W):=Jh (fun W v bs h=>Z0e h)
   go_wp2_with (at_builtin;refine Zn (ea:=u8c) (k:=1) rfl _ _ _ rfl i0 (.int .u8 0) 1 WP hi hz0 hz1 hz2 rfl (by omega) YQ Vp rfl (HO.out.alloc _) (34:UInt8) wr.heap.size 1 rfl ?_ (by unfold maxLen;omega) (by omega) (by simp;omega) ?_)
   ·first|exact VY _ 34|exact fun j u hj=>hj
   ·intro v9 w9 hown9 hx9 hfr9
    obtain ⟨a9,c9,rfl,-,-,-⟩:=id (hown9.slice YQ)
    have hcb:=HCV.out w9 _ _ (hown9.slice YQ)
    have HE:Hid (L++[34]=Yn s.data.toList):=Jh (by rw[HL.out];rfl)
    have HB9:Hid (Below w.heap.size w w9):=Jh (Ext.new HB2.out ((HX.out.alloc _).andThen hx9 (fun i hi e=>⟨HD.out i e,(HBK.out i e).1⟩)) (fun i hi _ h=>absurd h.2 (by omega)) (by omega))
    clear hown9 hx9 hfr9
    generalize (L++[34]).length=ln at hcb ⊢
    rw[HE.out] at hcb
    go_wp2_with fail
    go_ret
    exact ⟨rfl,HB9.out⟩
def Xf (w : World) : Prop := Lib.TabIs Tryz.prog w "internal/strconv.uint64pow10" .u64 Lib.pow10Tab
theorem Xf.below {w w':World} (h:Xf w) (hb:Below w.heap.size w w'):Xf w':=Lib.tabBelow_of_tabIs h w' hb
theorem Xf.drew {w:World} (h:Xf w):Xf w.drew:=h
def Ry (B:Nat) (w:World):Prop:=∀ w',Below B w w'→Xf w'
theorem Ry.next {B:Nat} {w w':World} (h:Ry B w) (hb:Below B w w'):Ry B w':=fun w2 h2=>h w2 (hb.trans h2)
theorem RW (n:Int) (h0:-9223372036854775808≤n) (h1:n≤9223372036854775807) (w:World) (ht:Xf w) :
  Calls Tryz.prog 105 #[.int .i64 n] w fun e w'=>e=.returned (.string ⟨(Lib.itoa n).toArray⟩)∧Below w.heap.size w w':=by
 refine (Any.strconv_Itoa Tryz.itoaF n h0 h1 w ht).mono ?_
 rintro e w' ⟨rfl,k,os,rfl⟩
 exact ⟨rfl,Lib.below_grow _ _ (Nat.le_refl _) k os⟩
theorem SX (a b:List UInt8):(⟨a.toArray⟩:ByteArray)++⟨b.toArray⟩=⟨(a++b).toArray⟩:=by
 apply ByteArray.ext
 rw[ByteArray.data_append]
 simp
theorem VV (a:List UInt8):(⟨a.toArray⟩:ByteArray).size=a.length:=by show a.toArray.size=_;simp
theorem TL (sn sr:Int) (w:World) (ht:Xf w) (hg:Z7 ⟨sn,sr⟩=true∨(sn=0∧sr=0)) (hd:∀ W,Below w.heap.size w W→Calls Tryz.prog 41 #[.agg #[.int .i64 sn,.int .i64 sr]] W fun e w'=>e=.returned (.bool (Z7 ⟨sn,sr⟩))∧Below W.heap.size W w') :
  Calls Tryz.prog 78 #[.agg #[.int .i64 sn,.int .i64 sr]] w fun e w'=>e=.returned (.string ⟨(Lib.itoa sn++46 :: Lib.itoa sr).toArray⟩)∧Below w.heap.size w w':=by
 have hbn:0≤sn∧sn≤1048576∧0≤sr∧sr≤8:=by
  rcases hg with h|⟨rfl,rfl⟩
  ·simp only[Z7,decide_eq_true_eq] at h;omega
  ·omega
 have hl1:=Lib.itoa_length_le sn (by omega) (by omega)
 have hl2:=Lib.itoa_length_le sr (by omega) (by omega)
 have hB0:Below w.heap.size w (w.alloc (.cells #[.int .i64 sn,.int .i64 sr] 23)):=(Below.refl _ _).alloc (Nat.le_refl _) _
 have x0:(w.alloc (.cells #[.int .i64 sn,.int .i64 sr] 23)).cell? ⟨w.heap.size,0,none⟩=some (.int .i64 sn):=by go_simp
 have x1:(w.alloc (.cells #[.int .i64 sn,.int .i64 sr] 23)).cell? ⟨w.heap.size,1,none⟩=some (.int .i64 sr):=by go_simp
 have HT:=Jh (ht.below hB0)
 have HC1:Hid (∀ W:World,Xf W→Calls Tryz.prog 105 #[.int .i64 sn] W fun e w'=>e=.returned (.string ⟨(Lib.itoa sn).toArray⟩)∧Below W.heap.size W w'):=Jh (fun W h=>RW sn (by omega) (by omega) W h)
 have HC2:Hid (∀ W:World,Xf W→Calls Tryz.prog 105 #[.int .i64 sr] W fun e w'=>e=.returned (.string ⟨(Lib.itoa sr).toArray⟩)∧Below W.heap.size W w'):=Jh (fun W h=>RW sr (by omega) (by omega) W h)
 generalize Lib.itoa sn=A at *
 generalize Lib.itoa sr=C at *
 have hs1:∀ W,(Op.stringOp .add (⟨A.toArray⟩:ByteArray) ⟨#[46]⟩).run Tryz.prog W=.ok (.string ⟨(A++[46]).toArray⟩) W:=fun W=>by
  rw[run_string_add_sum W _ _ (by rw[VV];show _+1≤_;omega)]
  rw[show (⟨#[46]⟩:ByteArray)=⟨([46]:List UInt8).toArray⟩ from rfl,SX]
 have hs2:∀ W,(Op.stringOp .add (⟨(A++[46]).toArray⟩:ByteArray) ⟨C.toArray⟩).run Tryz.prog W=.ok (.string ⟨(A++46 :: C).toArray⟩) W:=fun W=>by
  rw[run_string_add_sum W _ _ (by rw[VV,VV,List.length_append,List.length_singleton];omega),SX,List.append_assoc]
  rfl
 generalize hac:A++[46]=AC at *
 generalize A++46 :: C=AD at *
 have HB0:=Lib.hid hB0
 have HD:=Lib.hid hd
 clear ht hd hB0 hl1 hl2 hac
 have region3:∀ (w1:World) (K:Prop),K→K:=fun _ _ h=>h
 clear region3
 by_cases hz:sn=0∧sr=0
 ·obtain ⟨rfl,rfl⟩:=hz
  go_enter Tryz.func78,Tryz.ntmps78
  go_upto_region 1 with fail
  generalize w.alloc (.cells #[.int .i64 0,.int .i64 0] 23)=w1 at *
  clear hbn hg HD
  go_upto_region 3 with fail
  go_region_held3 (fun W=>W.cell? ⟨w.heap.size,0,none⟩=some (.int .i64 0)∧W.cell? ⟨w.heap.size,1,none⟩=some (.int .i64 0)∧Xf W) (first|exact ⟨x0,x1,HT.out⟩|exact ⟨Z0 b5 x0,Z0 b5 x1,HT.out.below b5⟩|exact ⟨Z0 b6 (Z0 b5 x0),Z0 b6 (Z0 b5 x1),(HT.out.below b5).below b6⟩) (first|(go_at_call 105;((with_reducible refine (HC1.out _ HT.out.drew).mono ?_);rintro e w5 ⟨rfl,b5⟩;simp only[Y4,ZU] at b5))|(go_at_call 105;((with_reducible refine (HC2.out _ (HT.out.below b5)).mono ?_);rintro e w6 ⟨rfl,b6⟩;try simp only[Y4,ZU] at b6)))
  go_wp2_with fail
  go_ret
  exact ⟨rfl,(HB0.out.trans (b5.mono HB0.out.size)).trans (b6.mono (by have:=HB0.out.size;have:=b5.size;omega))⟩
 ·have hr:Z7 ⟨sn,sr⟩=true:=hg.resolve_right hz
  rw[hr] at HD
  go_enter Tryz.func78,Tryz.ntmps78
  go_upto_region 1 with fail
  generalize w.alloc (.cells #[.int .i64 sn,.int .i64 sr] 23)=w1 at *
  have hn:¬ sn=0:=fun e=>by
   rw[e] at hr
   simp[Z7] at hr
  clear hbn hg hz hr
  go_wp2_with fail
  refine (HD.out w1 HB0.out).mono ?_
  rintro e w2 ⟨rfl,b2⟩
  replace x0:=Z0 b2 x0
  replace x1:=Z0 b2 x1
  have HT2:=Jh (HT.out.below b2)
  have HB2:=Jh (HB0.out.trans (b2.mono HB0.out.size))
  clear b2 HB0 HT HD
  go_upto_region 3 with fail
  go_region_held3 (fun W=>W.cell? ⟨w.heap.size,0,none⟩=some (.int .i64 sn)∧W.cell? ⟨w.heap.size,1,none⟩=some (.int .i64 sr)∧Xf W) (first|exact ⟨x0,x1,HT2.out⟩|exact ⟨Z0 b5 x0,Z0 b5 x1,HT2.out.below b5⟩|exact ⟨Z0 b6 (Z0 b5 x0),Z0 b6 (Z0 b5 x1),(HT2.out.below b5).below b6⟩) (first|(go_at_call 105;((with_reducible refine (HC1.out _ HT2.out.drew).mono ?_);rintro e w5 ⟨rfl,b5⟩;simp only[Y4,ZU] at b5))|(go_at_call 105;((with_reducible refine (HC2.out _ (HT2.out.below b5)).mono ?_);rintro e w6 ⟨rfl,b6⟩;try simp only[Y4,ZU] at b6)))
  go_wp2_with fail
  go_ret
  exact ⟨rfl,(HB2.out.trans (b5.mono HB2.out.size)).trans (b6.mono (by have:=HB2.out.size;have:=b5.size;omega))⟩
theorem Z1C (sn sr:Int) (w:World) (hr:Z7 ⟨sn,sr⟩=false) (hz:¬ (sn=0∧sr=0)) (hd:∀ W,Below w.heap.size w W→Calls Tryz.prog 41 #[.agg #[.int .i64 sn,.int .i64 sr]] W fun e w'=>e=.returned (.bool (Z7 ⟨sn,sr⟩))∧Below W.heap.size W w') :
  Calls Tryz.prog 78 #[.agg #[.int .i64 sn,.int .i64 sr]] w fun e w'=>e=.returned (.string ⟨#[]⟩)∧Below w.heap.size w w':=by
 have hB0:Below w.heap.size w (w.alloc (.cells #[.int .i64 sn,.int .i64 sr] 23)):=(Below.refl _ _).alloc (Nat.le_refl _) _
 have x0:(w.alloc (.cells #[.int .i64 sn,.int .i64 sr] 23)).cell? ⟨w.heap.size,0,none⟩=some (.int .i64 sn):=by go_simp
 have x1:(w.alloc (.cells #[.int .i64 sn,.int .i64 sr] 23)).cell? ⟨w.heap.size,1,none⟩=some (.int .i64 sr):=by go_simp
 have HD:=Lib.hid hd
 have HB0:=Lib.hid hB0
 rw[hr] at HD
 clear hd hB0 hr
 by_cases h1:sn=0
 ·subst h1
  have h2:¬ sr=0:=fun e=>hz ⟨rfl,e⟩
  go_enter Tryz.func78,Tryz.ntmps78
  go_upto_region 1 with fail
  generalize w.alloc (.cells #[.int .i64 0,.int .i64 sr] 23)=w1 at *
  go_wp2_with fail
  refine (HD.out w1 HB0.out).mono ?_
  rintro e w2 ⟨rfl,b2⟩
  go_wp2_with fail
  go_ret
  exact ⟨rfl,HB0.out.trans (b2.mono HB0.out.size)⟩
 ·go_enter Tryz.func78,Tryz.ntmps78
  go_upto_region 1 with fail
  generalize w.alloc (.cells #[.int .i64 sn,.int .i64 sr] 23)=w1 at *
  go_wp2_with fail
  refine (HD.out w1 HB0.out).mono ?_
  rintro e w2 ⟨rfl,b2⟩
  go_wp2_with fail
  go_ret
  exact ⟨rfl,HB0.out.trans (b2.mono HB0.out.size)⟩
theorem Z2e (sn sr:Int) (w:World) (ht:Xf w) :
  Calls Tryz.prog 78 #[.agg #[.int .i64 sn,.int .i64 sr]] w fun e w'=>e=.returned (.string ⟨(stL ⟨sn,sr⟩).toArray⟩)∧Below w.heap.size w w':=by
 have hd:∀ W,Below w.heap.size w W→Calls Tryz.prog 41 #[.agg #[.int .i64 sn,.int .i64 sr]] W fun e w'=>e=.returned (.bool (Z7 ⟨sn,sr⟩))∧Below W.heap.size W w':=fun W _=>V2 sn sr W
 by_cases hz:sn=0∧sr=0
 ·have e:stL ⟨sn,sr⟩=Lib.itoa sn++46 :: Lib.itoa sr:=by unfold stL;rw[if_neg (by rintro ⟨h,_⟩;exact h (by rw[hz.1,hz.2]))]
  rw[e]
  exact TL sn sr w ht (.inr hz) hd
 ·have hne:(⟨sn,sr⟩:St)≠⟨0,0⟩:=fun e=>hz ⟨congrArg St.n e,congrArg St.r e⟩
  cases hr:Z7 ⟨sn,sr⟩ with
  | true =>
   have e:stL ⟨sn,sr⟩=Lib.itoa sn++46 :: Lib.itoa sr:=by unfold stL;rw[if_neg (by rintro ⟨_,h⟩;rw[hr] at h;cases h)]
   rw[e]
   exact TL sn sr w ht (.inl hr) hd
  | false =>
   have e:stL ⟨sn,sr⟩=[]:=by unfold stL;rw[if_pos ⟨hne,hr⟩]
   rw[e]
   exact Z1C sn sr w hr hz hd
end Go.Proofs.YtlgipkemoldckaaGreatDoor
