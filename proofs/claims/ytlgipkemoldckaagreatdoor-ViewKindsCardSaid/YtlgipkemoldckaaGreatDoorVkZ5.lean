/- ViewKinds, part 5 of what the proof leans on (made short by a program). -/
import Derived.Test.YtlgipkemoldckaaGreatDoorVkZ4
import Derived.StillTailTactics
set_option linter.unusedSimpArgs false
set_option linter.unusedVariables false
set_option linter.unusedSectionVars false
set_option maxRecDepth 20000
set_option maxHeartbeats 30000000
namespace Go.Proofs.YtlgipkemoldckaaGreatDoor
open Go.RowKit
def XU (v:Value) (rb k:Nat):Prop:=k=rb∨v.ownBlock=some k
def V4 (B:Nat) (w:World) (rb:Nat) (v:Value) (c:List (St × Ch)) (a b u:St) (key:ByteArray) (e:Ending) (w':World):Prop :=
 ∃ v' L',e=.returned (.int .i64 (Yu c a b u))∧YM B w' rb v' L'∧YT L' (WR c a ⟨b,u,key⟩)∧Ext (XU v rb) w w'
theorem Z3s (W:World) (x:RMv):∀ j u,(RMv.cells x)[j]?=some u→(W.alloc (.cells #[.int .i64 x.at_.n,.int .i64 x.at_.r,.int .i64 x.block.n,.int .i64 x.block.r,.int .i64 x.under.n,.int .i64 x.under.r,.string x.key] 88)).cell? ⟨W.heap.size,j,none⟩=some u:=by
 intro j u hj
 rw[World.cell?_alloc_at _ _ _ _ rfl,←hj,RMv.cells]
 simp
theorem Z3D {x:RMv} {an ar:Int} (h:x.at_≠⟨an,ar⟩) (e:x.at_.n=an):¬ x.at_.r=ar:=fun e2=>h (by
 obtain ⟨⟨n,r⟩,b,u,k⟩:=x
 simp only at e e2
 rw[e,e2])
theorem Z0d {l:List RMv} {b:St} {k:Nat} {x:RMv} (h:∀ j y,j<k→l[j]?=some y→y.at_≠b) (hx:l[k]?=some x) (hb:x.at_≠b):∀ j y,j<k+1→l[j]?=some y→y.at_≠b:=fun j y hj hy=>by
 by_cases e:j=k
 ·subst e;rw[hx] at hy;cases hy;exact hb
 ·exact h j y (by omega) hy
theorem Z0s {L:List RMv} {c:List (St × Ch)} (hc:YT L c) {a b u:St} (hg:Wb a b u=true) {x:RMv} (hx:x∈L) (hb:x.at_=a):Yu c a b u=141:=by
 unfold Yu
 rw[if_pos hg,if_pos ⟨UX x,by rw[←hc.1];exact List.mem_map_of_mem hx,hb⟩]
theorem Z3z {L:List RMv} {c:List (St × Ch)} (hc:YT L c) {a b u:St} (hg:Wb a b u=true) (hn:∀ j y,j<L.length→L[j]?=some y→y.at_≠a):Yu c a b u=0∧∀ y∈c,y.1≠a:=by
 have hn2:∀ y∈c,y.1≠a:=fun y hy e=>by
  rw[←hc.1] at hy
  obtain ⟨x,hx,rfl⟩:=List.mem_map.1 hy
  obtain ⟨i,hi⟩:=List.getElem?_of_mem hx
  exact hn i x (List.getElem?_eq_some_iff.1 hi).1 hi e
 exact ⟨Qs hg hn2,hn2⟩
theorem QP {c:List (St × Ch)} {a:St} {x:Ch} (h:Yu c a x.block x.under≠0):WR c a x=c:=by rw[WR,if_neg h]
theorem Z0F (rb:Nat) (an ar bn br un ur:Int) (key:ByteArray) (w:World) (h1:Z7 ⟨an,ar⟩=false) :
  Calls Tryz.prog 38 #[.pointer (some ⟨rb,0,none⟩),.agg #[.int .i64 an,.int .i64 ar],.agg #[.int .i64 bn,.int .i64 br],.agg #[.int .i64 un,.int .i64 ur],.string key] w fun e w'=>e=.returned (.int .i64 1)∧Below w.heap.size w w':=by
 have z0:(((w.alloc (.cells #[.int .i64 an,.int .i64 ar] 23)).alloc (.cells #[.int .i64 bn,.int .i64 br] 23)).alloc (.cells #[.int .i64 un,.int .i64 ur] 23)).cell? ⟨w.heap.size,0,none⟩=some (.int .i64 an):=by go_simp
 have z1:(((w.alloc (.cells #[.int .i64 an,.int .i64 ar] 23)).alloc (.cells #[.int .i64 bn,.int .i64 br] 23)).alloc (.cells #[.int .i64 un,.int .i64 ur] 23)).cell? ⟨w.heap.size,1,none⟩=some (.int .i64 ar):=by go_simp
 have z2:(((w.alloc (.cells #[.int .i64 an,.int .i64 ar] 23)).alloc (.cells #[.int .i64 bn,.int .i64 br] 23)).alloc (.cells #[.int .i64 un,.int .i64 ur] 23)).cell? ⟨w.heap.size+1,0,none⟩=some (.int .i64 bn):=by go_simp
 have z3:(((w.alloc (.cells #[.int .i64 an,.int .i64 ar] 23)).alloc (.cells #[.int .i64 bn,.int .i64 br] 23)).alloc (.cells #[.int .i64 un,.int .i64 ur] 23)).cell? ⟨w.heap.size+1,1,none⟩=some (.int .i64 br):=by go_simp
 have z4:(((w.alloc (.cells #[.int .i64 an,.int .i64 ar] 23)).alloc (.cells #[.int .i64 bn,.int .i64 br] 23)).alloc (.cells #[.int .i64 un,.int .i64 ur] 23)).cell? ⟨w.heap.size+2,0,none⟩=some (.int .i64 un):=by go_simp
 have z5:(((w.alloc (.cells #[.int .i64 an,.int .i64 ar] 23)).alloc (.cells #[.int .i64 bn,.int .i64 br] 23)).alloc (.cells #[.int .i64 un,.int .i64 ur] 23)).cell? ⟨w.heap.size+2,1,none⟩=some (.int .i64 ur):=by go_simp
 have hB0:Below w.heap.size w (((w.alloc (.cells #[.int .i64 an,.int .i64 ar] 23)).alloc (.cells #[.int .i64 bn,.int .i64 br] 23)).alloc (.cells #[.int .i64 un,.int .i64 ur] 23)):=(((Below.refl _ _).alloc (Nat.le_refl _) _).alloc (by simp) _).alloc (by simp;omega) _
 go_enter Tryz.func38,Tryz.ntmps38
 go_upto_region 1 with fail
 generalize (((w.alloc (.cells #[.int .i64 an,.int .i64 ar] 23)).alloc (.cells #[.int .i64 bn,.int .i64 br] 23)).alloc (.cells #[.int .i64 un,.int .i64 ur] 23))=w0 at *
 go_wp2_with fail
 refine (ZH _ _ _).mono ?_
 rintro e w1 ⟨rfl,b1⟩
 rw[h1]
 replace z0:=Z0 b1 z0
 replace z1:=Z0 b1 z1
 replace z2:=Z0 b1 z2
 replace z3:=Z0 b1 z3
 replace z4:=Z0 b1 z4
 replace z5:=Z0 b1 z5
 have hB1:=hB0.trans (b1.mono hB0.size)
 clear b1 hB0
 go_wp2_with fail
 refine (ZH _ _ _).mono ?_
 rintro e w2 ⟨rfl,b2⟩
 replace z0:=Z0 b2 z0
 replace z1:=Z0 b2 z1
 replace z2:=Z0 b2 z2
 replace z3:=Z0 b2 z3
 replace z4:=Z0 b2 z4
 replace z5:=Z0 b2 z5
 have hB2:=hB1.trans (b2.mono hB1.size)
 clear b2 hB1
 go_wp2_with fail
 refine (ZH _ _ _).mono ?_
 rintro e w3 ⟨rfl,b3⟩
 replace z0:=Z0 b3 z0
 replace z1:=Z0 b3 z1
 replace z2:=Z0 b3 z2
 replace z3:=Z0 b3 z3
 replace z4:=Z0 b3 z4
 replace z5:=Z0 b3 z5
 have hB3:=hB2.trans (b3.mono hB2.size)
 clear b3 hB2
 go_wp2_with fail
 go_ret
 exact ⟨rfl,hB3⟩
theorem Z0R (rb:Nat) (an ar bn br un ur:Int) (key:ByteArray) (w:World) (h1:Z7 ⟨an,ar⟩=true) (h2:Z7 ⟨bn,br⟩=false) :
  Calls Tryz.prog 38 #[.pointer (some ⟨rb,0,none⟩),.agg #[.int .i64 an,.int .i64 ar],.agg #[.int .i64 bn,.int .i64 br],.agg #[.int .i64 un,.int .i64 ur],.string key] w fun e w'=>e=.returned (.int .i64 1)∧Below w.heap.size w w':=by
 have z0:(((w.alloc (.cells #[.int .i64 an,.int .i64 ar] 23)).alloc (.cells #[.int .i64 bn,.int .i64 br] 23)).alloc (.cells #[.int .i64 un,.int .i64 ur] 23)).cell? ⟨w.heap.size,0,none⟩=some (.int .i64 an):=by go_simp
 have z1:(((w.alloc (.cells #[.int .i64 an,.int .i64 ar] 23)).alloc (.cells #[.int .i64 bn,.int .i64 br] 23)).alloc (.cells #[.int .i64 un,.int .i64 ur] 23)).cell? ⟨w.heap.size,1,none⟩=some (.int .i64 ar):=by go_simp
 have z2:(((w.alloc (.cells #[.int .i64 an,.int .i64 ar] 23)).alloc (.cells #[.int .i64 bn,.int .i64 br] 23)).alloc (.cells #[.int .i64 un,.int .i64 ur] 23)).cell? ⟨w.heap.size+1,0,none⟩=some (.int .i64 bn):=by go_simp
 have z3:(((w.alloc (.cells #[.int .i64 an,.int .i64 ar] 23)).alloc (.cells #[.int .i64 bn,.int .i64 br] 23)).alloc (.cells #[.int .i64 un,.int .i64 ur] 23)).cell? ⟨w.heap.size+1,1,none⟩=some (.int .i64 br):=by go_simp
 have z4:(((w.alloc (.cells #[.int .i64 an,.int .i64 ar] 23)).alloc (.cells #[.int .i64 bn,.int .i64 br] 23)).alloc (.cells #[.int .i64 un,.int .i64 ur] 23)).cell? ⟨w.heap.size+2,0,none⟩=some (.int .i64 un):=by go_simp
 have z5:(((w.alloc (.cells #[.int .i64 an,.int .i64 ar] 23)).alloc (.cells #[.int .i64 bn,.int .i64 br] 23)).alloc (.cells #[.int .i64 un,.int .i64 ur] 23)).cell? ⟨w.heap.size+2,1,none⟩=some (.int .i64 ur):=by go_simp
 have hB0:Below w.heap.size w (((w.alloc (.cells #[.int .i64 an,.int .i64 ar] 23)).alloc (.cells #[.int .i64 bn,.int .i64 br] 23)).alloc (.cells #[.int .i64 un,.int .i64 ur] 23)):=(((Below.refl _ _).alloc (Nat.le_refl _) _).alloc (by simp) _).alloc (by simp;omega) _
 go_enter Tryz.func38,Tryz.ntmps38
 go_upto_region 1 with fail
 generalize (((w.alloc (.cells #[.int .i64 an,.int .i64 ar] 23)).alloc (.cells #[.int .i64 bn,.int .i64 br] 23)).alloc (.cells #[.int .i64 un,.int .i64 ur] 23))=w0 at *
 go_wp2_with fail
 refine (ZH _ _ _).mono ?_
 rintro e w1 ⟨rfl,b1⟩
 rw[h1]
 replace z0:=Z0 b1 z0
 replace z1:=Z0 b1 z1
 replace z2:=Z0 b1 z2
 replace z3:=Z0 b1 z3
 replace z4:=Z0 b1 z4
 replace z5:=Z0 b1 z5
 have hB1:=hB0.trans (b1.mono hB0.size)
 clear b1 hB0
 go_wp2_with fail
 refine (ZH _ _ _).mono ?_
 rintro e w2 ⟨rfl,b2⟩
 rw[h2]
 replace z0:=Z0 b2 z0
 replace z1:=Z0 b2 z1
 replace z2:=Z0 b2 z2
 replace z3:=Z0 b2 z3
 replace z4:=Z0 b2 z4
 replace z5:=Z0 b2 z5
 have hB2:=hB1.trans (b2.mono hB1.size)
 clear b2 hB1
 go_wp2_with fail
 refine (ZH _ _ _).mono ?_
 rintro e w3 ⟨rfl,b3⟩
 replace z0:=Z0 b3 z0
 replace z1:=Z0 b3 z1
 replace z2:=Z0 b3 z2
 replace z3:=Z0 b3 z3
 replace z4:=Z0 b3 z4
 replace z5:=Z0 b3 z5
 have hB3:=hB2.trans (b3.mono hB2.size)
 clear b3 hB2
 go_wp2_with fail
 go_ret
 exact ⟨rfl,hB3⟩
theorem Z0v (rb:Nat) (an ar bn br un ur:Int) (key:ByteArray) (w:World) (h1:Z7 ⟨an,ar⟩=true) (h2:Z7 ⟨bn,br⟩=true) (h3:Z7 ⟨un,ur⟩=false) (hu:¬ un=0) :
  Calls Tryz.prog 38 #[.pointer (some ⟨rb,0,none⟩),.agg #[.int .i64 an,.int .i64 ar],.agg #[.int .i64 bn,.int .i64 br],.agg #[.int .i64 un,.int .i64 ur],.string key] w fun e w'=>e=.returned (.int .i64 1)∧Below w.heap.size w w':=by
 have z0:(((w.alloc (.cells #[.int .i64 an,.int .i64 ar] 23)).alloc (.cells #[.int .i64 bn,.int .i64 br] 23)).alloc (.cells #[.int .i64 un,.int .i64 ur] 23)).cell? ⟨w.heap.size,0,none⟩=some (.int .i64 an):=by go_simp
 have z1:(((w.alloc (.cells #[.int .i64 an,.int .i64 ar] 23)).alloc (.cells #[.int .i64 bn,.int .i64 br] 23)).alloc (.cells #[.int .i64 un,.int .i64 ur] 23)).cell? ⟨w.heap.size,1,none⟩=some (.int .i64 ar):=by go_simp
 have z2:(((w.alloc (.cells #[.int .i64 an,.int .i64 ar] 23)).alloc (.cells #[.int .i64 bn,.int .i64 br] 23)).alloc (.cells #[.int .i64 un,.int .i64 ur] 23)).cell? ⟨w.heap.size+1,0,none⟩=some (.int .i64 bn):=by go_simp
 have z3:(((w.alloc (.cells #[.int .i64 an,.int .i64 ar] 23)).alloc (.cells #[.int .i64 bn,.int .i64 br] 23)).alloc (.cells #[.int .i64 un,.int .i64 ur] 23)).cell? ⟨w.heap.size+1,1,none⟩=some (.int .i64 br):=by go_simp
 have z4:(((w.alloc (.cells #[.int .i64 an,.int .i64 ar] 23)).alloc (.cells #[.int .i64 bn,.int .i64 br] 23)).alloc (.cells #[.int .i64 un,.int .i64 ur] 23)).cell? ⟨w.heap.size+2,0,none⟩=some (.int .i64 un):=by go_simp
 have z5:(((w.alloc (.cells #[.int .i64 an,.int .i64 ar] 23)).alloc (.cells #[.int .i64 bn,.int .i64 br] 23)).alloc (.cells #[.int .i64 un,.int .i64 ur] 23)).cell? ⟨w.heap.size+2,1,none⟩=some (.int .i64 ur):=by go_simp
 have hB0:Below w.heap.size w (((w.alloc (.cells #[.int .i64 an,.int .i64 ar] 23)).alloc (.cells #[.int .i64 bn,.int .i64 br] 23)).alloc (.cells #[.int .i64 un,.int .i64 ur] 23)):=(((Below.refl _ _).alloc (Nat.le_refl _) _).alloc (by simp) _).alloc (by simp;omega) _
 go_enter Tryz.func38,Tryz.ntmps38
 go_upto_region 1 with fail
 generalize (((w.alloc (.cells #[.int .i64 an,.int .i64 ar] 23)).alloc (.cells #[.int .i64 bn,.int .i64 br] 23)).alloc (.cells #[.int .i64 un,.int .i64 ur] 23))=w0 at *
 go_wp2_with fail
 refine (ZH _ _ _).mono ?_
 rintro e w1 ⟨rfl,b1⟩
 rw[h1]
 replace z0:=Z0 b1 z0
 replace z1:=Z0 b1 z1
 replace z2:=Z0 b1 z2
 replace z3:=Z0 b1 z3
 replace z4:=Z0 b1 z4
 replace z5:=Z0 b1 z5
 have hB1:=hB0.trans (b1.mono hB0.size)
 clear b1 hB0
 go_wp2_with fail
 refine (ZH _ _ _).mono ?_
 rintro e w2 ⟨rfl,b2⟩
 rw[h2]
 replace z0:=Z0 b2 z0
 replace z1:=Z0 b2 z1
 replace z2:=Z0 b2 z2
 replace z3:=Z0 b2 z3
 replace z4:=Z0 b2 z4
 replace z5:=Z0 b2 z5
 have hB2:=hB1.trans (b2.mono hB1.size)
 clear b2 hB1
 go_wp2_with fail
 refine (ZH _ _ _).mono ?_
 rintro e w3 ⟨rfl,b3⟩
 rw[h3]
 replace z0:=Z0 b3 z0
 replace z1:=Z0 b3 z1
 replace z2:=Z0 b3 z2
 replace z3:=Z0 b3 z3
 replace z4:=Z0 b3 z4
 replace z5:=Z0 b3 z5
 have hB3:=hB2.trans (b3.mono hB2.size)
 clear b3 hB2
 go_wp2_with fail
 go_ret
 exact ⟨rfl,hB3⟩
theorem Z04 (rb:Nat) (an ar bn br ur:Int) (key:ByteArray) (w:World) (h1:Z7 ⟨an,ar⟩=true) (h2:Z7 ⟨bn,br⟩=true) (h3:Z7 ⟨0,ur⟩=false) (hu:¬ ur=0) :
  Calls Tryz.prog 38 #[.pointer (some ⟨rb,0,none⟩),.agg #[.int .i64 an,.int .i64 ar],.agg #[.int .i64 bn,.int .i64 br],.agg #[.int .i64 0,.int .i64 ur],.string key] w fun e w'=>e=.returned (.int .i64 1)∧Below w.heap.size w w':=by
 have z0:(((w.alloc (.cells #[.int .i64 an,.int .i64 ar] 23)).alloc (.cells #[.int .i64 bn,.int .i64 br] 23)).alloc (.cells #[.int .i64 0,.int .i64 ur] 23)).cell? ⟨w.heap.size,0,none⟩=some (.int .i64 an):=by go_simp
 have z1:(((w.alloc (.cells #[.int .i64 an,.int .i64 ar] 23)).alloc (.cells #[.int .i64 bn,.int .i64 br] 23)).alloc (.cells #[.int .i64 0,.int .i64 ur] 23)).cell? ⟨w.heap.size,1,none⟩=some (.int .i64 ar):=by go_simp
 have z2:(((w.alloc (.cells #[.int .i64 an,.int .i64 ar] 23)).alloc (.cells #[.int .i64 bn,.int .i64 br] 23)).alloc (.cells #[.int .i64 0,.int .i64 ur] 23)).cell? ⟨w.heap.size+1,0,none⟩=some (.int .i64 bn):=by go_simp
 have z3:(((w.alloc (.cells #[.int .i64 an,.int .i64 ar] 23)).alloc (.cells #[.int .i64 bn,.int .i64 br] 23)).alloc (.cells #[.int .i64 0,.int .i64 ur] 23)).cell? ⟨w.heap.size+1,1,none⟩=some (.int .i64 br):=by go_simp
 have z4:(((w.alloc (.cells #[.int .i64 an,.int .i64 ar] 23)).alloc (.cells #[.int .i64 bn,.int .i64 br] 23)).alloc (.cells #[.int .i64 0,.int .i64 ur] 23)).cell? ⟨w.heap.size+2,0,none⟩=some (.int .i64 0):=by go_simp
 have z5:(((w.alloc (.cells #[.int .i64 an,.int .i64 ar] 23)).alloc (.cells #[.int .i64 bn,.int .i64 br] 23)).alloc (.cells #[.int .i64 0,.int .i64 ur] 23)).cell? ⟨w.heap.size+2,1,none⟩=some (.int .i64 ur):=by go_simp
 have hB0:Below w.heap.size w (((w.alloc (.cells #[.int .i64 an,.int .i64 ar] 23)).alloc (.cells #[.int .i64 bn,.int .i64 br] 23)).alloc (.cells #[.int .i64 0,.int .i64 ur] 23)):=(((Below.refl _ _).alloc (Nat.le_refl _) _).alloc (by simp) _).alloc (by simp;omega) _
 go_enter Tryz.func38,Tryz.ntmps38
 go_upto_region 1 with fail
 generalize (((w.alloc (.cells #[.int .i64 an,.int .i64 ar] 23)).alloc (.cells #[.int .i64 bn,.int .i64 br] 23)).alloc (.cells #[.int .i64 0,.int .i64 ur] 23))=w0 at *
 go_wp2_with fail
 refine (ZH _ _ _).mono ?_
 rintro e w1 ⟨rfl,b1⟩
 rw[h1]
 replace z0:=Z0 b1 z0
 replace z1:=Z0 b1 z1
 replace z2:=Z0 b1 z2
 replace z3:=Z0 b1 z3
 replace z4:=Z0 b1 z4
 replace z5:=Z0 b1 z5
 have hB1:=hB0.trans (b1.mono hB0.size)
 clear b1 hB0
 go_wp2_with fail
 refine (ZH _ _ _).mono ?_
 rintro e w2 ⟨rfl,b2⟩
 rw[h2]
 replace z0:=Z0 b2 z0
 replace z1:=Z0 b2 z1
 replace z2:=Z0 b2 z2
 replace z3:=Z0 b2 z3
 replace z4:=Z0 b2 z4
 replace z5:=Z0 b2 z5
 have hB2:=hB1.trans (b2.mono hB1.size)
 clear b2 hB1
 go_wp2_with fail
 refine (ZH _ _ _).mono ?_
 rintro e w3 ⟨rfl,b3⟩
 rw[h3]
 replace z0:=Z0 b3 z0
 replace z1:=Z0 b3 z1
 replace z2:=Z0 b3 z2
 replace z3:=Z0 b3 z3
 replace z4:=Z0 b3 z4
 replace z5:=Z0 b3 z5
 have hB3:=hB2.trans (b3.mono hB2.size)
 clear b3 hB2
 go_wp2_with fail
 go_ret
 exact ⟨rfl,hB3⟩
theorem S4 (rb:Nat) (v:Value) (L:List RMv) (an ar bn br un ur:Int) (key:ByteArray) (w:World) {B:Nat} (h:YM B w rb v L) (hBw:B≤w.heap.size) {c:List (St × Ch)} (hc:YT L c) (hl:L.length≤900) (h1:Z7 ⟨an,ar⟩=true) (h2:Z7 ⟨bn,br⟩=true) (h3:(un=0∧ur=0)∨Z7 ⟨un,ur⟩=true) :
  Calls Tryz.prog 38 #[.pointer (some ⟨rb,0,none⟩),.agg #[.int .i64 an,.int .i64 ar],.agg #[.int .i64 bn,.int .i64 br],.agg #[.int .i64 un,.int .i64 ur],.string key] w fun e w'=>V4 B w rb v c ⟨an,ar⟩ ⟨bn,br⟩ ⟨un,ur⟩ key e w':=by
 obtain ⟨a,cap,rfl,hcap,hmax,_⟩:=h.2.1.slice RMv.len
 unfold maxLen at hmax
 obtain ⟨i0,hi,hz0,hz1,hz2⟩:=info_parts Z0w
 have hg:Wb ⟨an,ar⟩ ⟨bn,br⟩ ⟨un,ur⟩=true:=by
  rcases h3 with ⟨rfl,rfl⟩|h3
  ·simp[Wb,h1,h2]
  ·simp[Wb,h1,h2,h3]
 have HG:=Lib.hid hg
 have HC:=Lib.hid hc
 have HT:=Lib.hid h
 have HBW:=Lib.hid hBw
 have h1:=h1
 obtain ⟨q3,hq3⟩:=Je (Z7 ⟨un,ur⟩)
 rw[hq3] at h3
 have H3:=Lib.hid h3
 clear h hc hg h3 hBw
 have z0:(((w.alloc (.cells #[.int .i64 an,.int .i64 ar] 23)).alloc (.cells #[.int .i64 bn,.int .i64 br] 23)).alloc (.cells #[.int .i64 un,.int .i64 ur] 23)).cell? ⟨w.heap.size,0,none⟩=some (.int .i64 an):=by go_simp
 have z1:(((w.alloc (.cells #[.int .i64 an,.int .i64 ar] 23)).alloc (.cells #[.int .i64 bn,.int .i64 br] 23)).alloc (.cells #[.int .i64 un,.int .i64 ur] 23)).cell? ⟨w.heap.size,1,none⟩=some (.int .i64 ar):=by go_simp
 have z2:(((w.alloc (.cells #[.int .i64 an,.int .i64 ar] 23)).alloc (.cells #[.int .i64 bn,.int .i64 br] 23)).alloc (.cells #[.int .i64 un,.int .i64 ur] 23)).cell? ⟨w.heap.size+1,0,none⟩=some (.int .i64 bn):=by go_simp
 have z3:(((w.alloc (.cells #[.int .i64 an,.int .i64 ar] 23)).alloc (.cells #[.int .i64 bn,.int .i64 br] 23)).alloc (.cells #[.int .i64 un,.int .i64 ur] 23)).cell? ⟨w.heap.size+1,1,none⟩=some (.int .i64 br):=by go_simp
 have z4:(((w.alloc (.cells #[.int .i64 an,.int .i64 ar] 23)).alloc (.cells #[.int .i64 bn,.int .i64 br] 23)).alloc (.cells #[.int .i64 un,.int .i64 ur] 23)).cell? ⟨w.heap.size+2,0,none⟩=some (.int .i64 un):=by go_simp
 have z5:(((w.alloc (.cells #[.int .i64 an,.int .i64 ar] 23)).alloc (.cells #[.int .i64 bn,.int .i64 br] 23)).alloc (.cells #[.int .i64 un,.int .i64 ur] 23)).cell? ⟨w.heap.size+2,1,none⟩=some (.int .i64 ur):=by go_simp
 have hB0:Below w.heap.size w (((w.alloc (.cells #[.int .i64 an,.int .i64 ar] 23)).alloc (.cells #[.int .i64 bn,.int .i64 br] 23)).alloc (.cells #[.int .i64 un,.int .i64 ur] 23)):=(((Below.refl _ _).alloc (Nat.le_refl _) _).alloc (by simp) _).alloc (by simp;omega) _
 go_enter Tryz.func38,Tryz.ntmps38
 go_upto_region 1 with fail
 generalize (((w.alloc (.cells #[.int .i64 an,.int .i64 ar] 23)).alloc (.cells #[.int .i64 bn,.int .i64 br] 23)).alloc (.cells #[.int .i64 un,.int .i64 ur] 23))=w0 at *
 go_wp2_with fail
 refine (ZH _ _ _).mono ?_
 rintro e w1 ⟨rfl,b1⟩
 rw[h1]
 replace z0:=Z0 b1 z0
 replace z1:=Z0 b1 z1
 replace z2:=Z0 b1 z2
 replace z3:=Z0 b1 z3
 replace z4:=Z0 b1 z4
 replace z5:=Z0 b1 z5
 have hB1:=hB0.trans (b1.mono hB0.size)
 clear b1 hB0
 go_wp2_with fail
 refine (ZH _ _ _).mono ?_
 rintro e w2 ⟨rfl,b2⟩
 rw[h2]
 replace z0:=Z0 b2 z0
 replace z1:=Z0 b2 z1
 replace z2:=Z0 b2 z2
 replace z3:=Z0 b2 z3
 replace z4:=Z0 b2 z4
 replace z5:=Z0 b2 z5
 have hB2:=hB1.trans (b2.mono hB1.size)
 clear b2 hB1
 go_wp2_with fail
 refine (ZH _ _ _).mono ?_
 rintro e w3 ⟨rfl,b3⟩
 rw[hq3]
 replace z0:=Z0 b3 z0
 replace z1:=Z0 b3 z1
 replace z2:=Z0 b3 z2
 replace z3:=Z0 b3 z3
 replace z4:=Z0 b3 z4
 replace z5:=Z0 b3 z5
 have hB3:=hB2.trans (b3.mono hB2.size)
 clear b3 hB2
 have HB3:=Lib.hid hB3
 clear hB3
 go_upto_region 4 with fail
 go_cut [37] (fun tv wx=>tv=.bool false∧wx=w3)
 case first =>
  rcases H3.out with ⟨rfl,rfl⟩|rfl
  ·clear hq3
   cases q3
   ·go_wp2_with fail
    go_meet
    case rel=>exact ⟨rfl,rfl⟩
   ·go_wp2_with fail
    go_meet
    case rel=>exact ⟨rfl,rfl⟩
  ·clear hq3
   go_wp2_with fail
   go_meet
   case rel=>exact ⟨rfl,rfl⟩
 case rest =>
 obtain ⟨rfl,rfl⟩:=hcut
 have t0:=(HT.out.below HB3.out).c0
 go_wp2_with fail
 go_loopg [14] L.length (fun g iv wx=>∃ k:Nat,g=L.length - k∧k≤L.length∧iv=.int .i64 k∧Hid (∀ j y,j<k→L[j]?=some y→y.at_≠⟨an,ar⟩)∧Hid (Below wc.heap.size wc wx))
 case atStart=>exact ⟨0,rfl,Nat.zero_le _,rfl,Jh (fun j y hj=>absurd hj (by omega)),Jh (Below.refl _ _)⟩
 case round =>
  obtain ⟨k,hg,hk,rfl,HP,HB⟩:=hrel
  have HGG:=Lib.hid hg
  clear hg
  replace t0:=Z0 HB.out t0
  replace z0:=Z0 HB.out z0
  replace z1:=Z0 HB.out z1
  replace z2:=Z0 HB.out z2
  replace z3:=Z0 HB.out z3
  replace z4:=Z0 HB.out z4
  replace z5:=Z0 HB.out z5
  have HW:=Jh (HB3.out.trans (HB.out.mono HB3.out.size))
  by_cases hlt:k<L.length
  ·obtain ⟨x,hx⟩:∃ x,L[k]?=some x:=⟨_,List.getElem?_eq_getElem hlt⟩
   obtain ⟨b,o,c1,e1,hh⟩:=((HT.out.below HW.out).2.1.slice RMv.len).rcells (by intro e;rw[e] at hlt;simp at hlt)
   cases e1
   obtain ⟨x0,x1,-,-,-,-,-⟩:=hh k x hx
   have HX:=Lib.hid hx
   have HD:Hid (Below w.heap.size w wr.drew∧Below wc.heap.size wc wr.drew):=Lib.hid ⟨HW.out.drew,HB.out.drew⟩
   have hkk:(k:Int)<(L.length:Int):=by omega
   have hk0:(0:Int)≤(k:Int):=by omega
   clear hh hx
   by_cases hb:x.at_=⟨an,ar⟩
   ·have e1:x.at_.n=an:=by rw[hb]
    have e2:x.at_.r=ar:=by rw[hb]
    rw[e1] at x0
    rw[e2] at x1
    have HM:=Jh (Z0s HC.out HG.out (List.mem_of_getElem? HX.out) hb)
    clear hb e1 e2
    go_wp2_with fail
    go_region_held3 (fun W=>W.cell? ⟨rb,0,none⟩=some (.slice (some ⟨b,o,none⟩) L.length cap)∧W.cell? ⟨b,o+k*7,none⟩=some (.int .i64 an)∧W.cell? ⟨b,o+k*7+1,none⟩=some (.int .i64 ar)∧W.cell? ⟨w.heap.size,0,none⟩=some (.int .i64 an)∧W.cell? ⟨w.heap.size,1,none⟩=some (.int .i64 ar)) (exact ⟨t0,x0,x1,z0,z1⟩) (fail)
    go_wp2_with fail
    go_ret
    refine ⟨_,L,by rw[HM.out];rfl,HT.out.below HD.out.1,?_,Ext.of_below HD.out.1⟩
    rw[QP (by rw[show Yu c ⟨an,ar⟩ (Ch.mk ⟨bn,br⟩ ⟨un,ur⟩ key).block (Ch.mk ⟨bn,br⟩ ⟨un,ur⟩ key).under=141 from HM.out];decide)]
    exact HC.out
   ·have HN:=Jh (Z0d HP.out HX.out hb)
    have hb':=Z3D hb
    clear hb
    by_cases e1:x.at_.n=an
    ·have e2:=hb' e1
     rw[e1] at x0
     clear e1
     clear hb'
     go_wp2_with fail
     go_region_held3 (fun W=>W.cell? ⟨rb,0,none⟩=some (.slice (some ⟨b,o,none⟩) L.length cap)∧W.cell? ⟨b,o+k*7,none⟩=some (.int .i64 an)∧W.cell? ⟨b,o+k*7+1,none⟩=some (.int .i64 x.at_.r)∧W.cell? ⟨w.heap.size,0,none⟩=some (.int .i64 an)∧W.cell? ⟨w.heap.size,1,none⟩=some (.int .i64 ar)) (exact ⟨t0,x0,x1,z0,z1⟩) (fail)
     go_wp2_with fail
     go_roundg (L.length - (k+1))
     case measure=>rw[HGG.out];omega
     case rel=>exact ⟨k+1,rfl,hlt,by go_num,HN,Lib.hid HD.out.2⟩
    ·have htr:True:=trivial
     clear hb'
     go_wp2_with fail
     go_region_held3 (fun W=>W.cell? ⟨rb,0,none⟩=some (.slice (some ⟨b,o,none⟩) L.length cap)∧W.cell? ⟨b,o+k*7,none⟩=some (.int .i64 x.at_.n)∧W.cell? ⟨b,o+k*7+1,none⟩=some (.int .i64 x.at_.r)∧W.cell? ⟨w.heap.size,0,none⟩=some (.int .i64 an)∧W.cell? ⟨w.heap.size,1,none⟩=some (.int .i64 ar)) (exact ⟨t0,x0,x1,z0,z1⟩) (fail)
     go_wp2_with fail
     go_roundg (L.length - (k+1))
     case measure=>rw[HGG.out];omega
     case rel=>exact ⟨k+1,rfl,hlt,by go_num,HN,Lib.hid HD.out.2⟩
  ·obtain rfl:k=L.length:=by omega
   obtain ⟨hcode,hnin⟩:=Z3z HC.out HG.out HP.out
   have HCODE:=Lib.hid hcode
   have HNIN:=Lib.hid hnin
   have hkk:¬ (L.length:Int)<(L.length:Int):=by omega
   have hT:=HT.out.below HW.out
   have HT2:=Lib.hid hT
   have hrl:=(Array.getElem?_eq_some_iff.1 hT.1).1
   have hwz:=HW.out.size
   have hne:∀ b,(Value.slice a L.length cap).ownBlock=some b→¬ b=rb:=fun b hb e=>by
    obtain ⟨cur,hcur⟩:=hT.2.1.tag hb
    rw[e,hT.1] at hcur
    cases hcur
   have hBw:=Nat.le_trans HBW.out hwz
   have HNE:=Lib.hid hne
   have hzb:w.heap.size+2<wr.heap.size:=by have:=Zj z4;omega
   clear hcode hnin hne hT hlt hk
   go_upto_region 11 with fail
   obtain ⟨W1,hW1⟩:=Je (wr.drew)
   have hT1:YM B W1 rb (.slice a L.length cap) L:=by rw[←hW1];exact HT2.out.below (Below.refl _ _).drew
   have hX1:Below w.heap.size w W1:=by rw[←hW1];exact HW.out.drew
   have hs1:wr.heap.size=W1.heap.size:=by rw[←hW1];rfl
   have hS0:W1.cell? ⟨rb,0,none⟩=some (.slice a L.length cap)∧W1.cell? ⟨w.heap.size,0,none⟩=some (.int .i64 an)∧W1.cell? ⟨w.heap.size,1,none⟩=some (.int .i64 ar)∧W1.cell? ⟨w.heap.size+1,0,none⟩=some (.int .i64 bn)∧W1.cell? ⟨w.heap.size+1,1,none⟩=some (.int .i64 br)∧W1.cell? ⟨w.heap.size+2,0,none⟩=some (.int .i64 un)∧W1.cell? ⟨w.heap.size+2,1,none⟩=some (.int .i64 ur):=by rw[←hW1];exact ⟨t0,z0,z1,z2,z3,z4,z5⟩
   refine Zf (fun W=>W.cell? ⟨rb,0,none⟩=some (.slice a L.length cap)∧W.cell? ⟨w.heap.size,0,none⟩=some (.int .i64 an)∧W.cell? ⟨w.heap.size,1,none⟩=some (.int .i64 ar)∧W.cell? ⟨w.heap.size+1,0,none⟩=some (.int .i64 bn)∧W.cell? ⟨w.heap.size+1,1,none⟩=some (.int .i64 br)∧W.cell? ⟨w.heap.size+2,0,none⟩=some (.int .i64 un)∧W.cell? ⟨w.heap.size+2,1,none⟩=some (.int .i64 ur)) (fun i=>i == 14) (by kernel_rfl) ?_
   rw[hW1]
   clear hW1 t0 z0 z1 z2 z3 z4 z5
   rw[hs1] at hzb hBw hwz hrl
   refine JR 0 57 _ rfl rfl hS0 (fun W hW=>by go_simp;rfl) ?_
   try simp only[Ja]
   refine JR 1 58 _ rfl rfl hS0 (fun W hW=>by go_simp;rfl) ?_
   try simp only[Ja]
   refine JR 2 59 _ rfl rfl hS0 (fun W hW=>by go_simp;rfl) ?_
   try simp only[Ja]
   refine JR 3 60 _ rfl rfl hS0 (fun W hW=>by go_simp;rfl) ?_
   try simp only[Ja]
   refine JR 4 61 _ rfl rfl hS0 (fun W hW=>by obtain ⟨q0,q1,q2,q3,q4,q5,q6⟩:=hW;go_simp;rfl) ?_
   try simp only[Ja]
   refine JR 5 62 _ rfl rfl hS0 (fun W hW=>by obtain ⟨q0,q1,q2,q3,q4,q5,q6⟩:=hW;go_simp;rfl) ?_
   try simp only[Ja]
   refine JR 6 63 _ rfl rfl hS0 (fun W hW=>by obtain ⟨q0,q1,q2,q3,q4,q5,q6⟩:=hW;go_simp;rfl) ?_
   try simp only[Ja]
   refine JR 7 64 _ rfl rfl hS0 (fun W hW=>by obtain ⟨q0,q1,q2,q3,q4,q5,q6⟩:=hW;go_simp;rfl) ?_
   try simp only[Ja]
   refine JR 8 65 _ rfl rfl hS0 (fun W hW=>by go_simp;rfl) ?_
   try simp only[Ja]
   refine Zl (i:=9) (d:=some 66) (v:=.agg #[.int .i64 an,.int .i64 ar,.int .i64 bn,.int .i64 br,.int .i64 un,.int .i64 ur,.string key]) (w':=W1) (by kernel_rfl) rfl rfl (by rfl) (by go_simp;try rfl) (fun _=>hS0) ?_
   try simp only[Ja]
   obtain ⟨v6,w6,hr6,hown6,hx6,hnw6⟩:=Yx (P:=Tryz.prog) 35 35 i0 _ 64 Tryz.underlying35 hi hz0 hz1 hz2 rfl (by omega) RMv.len RMv.one (hT1.2.1.alloc (.cells #[.int .i64 an,.int .i64 ar,.int .i64 bn,.int .i64 br,.int .i64 un,.int .i64 ur,.string key] 88)) ⟨⟨an,ar⟩,⟨bn,br⟩,⟨un,ur⟩,key⟩ W1.heap.size 1 (Z3s _ ⟨⟨an,ar⟩,⟨bn,br⟩,⟨un,ur⟩,key⟩) (by unfold maxLen;omega) (by omega) (by simp;omega)
   obtain ⟨g6,cp6,rfl⟩:∃ g c,v6=.slice (some ⟨g,0,none⟩) (L.length+1) c:=(by rcases hown6.eq_slice with ⟨_,h⟩|⟨g,c,h,_⟩;(simp at h);exact ⟨g,c,by simpa using h⟩)
   have hk6:∀ b o u,¬ (Value.slice a L.length cap).ownBlock=some b→W1.cell? ⟨b,o,none⟩=some u→w6.cell? ⟨b,o,none⟩=some u:=fun b o u hn hu=>hx6.keep (Z1 hu _) hn
   have hbx:∀ b,w.heap.size≤b→b<w.heap.size+3→¬ (Value.slice a L.length cap).ownBlock=some b:=fun b h1 h2 e=>by have:=(HT.out.2.1.blk b e).2;omega
   have hSa:(W1.alloc (.cells #[.int .i64 an,.int .i64 ar,.int .i64 bn,.int .i64 br,.int .i64 un,.int .i64 ur,.string key] 88)).cell? ⟨rb,0,none⟩=some (.slice a L.length cap)∧(W1.alloc (.cells #[.int .i64 an,.int .i64 ar,.int .i64 bn,.int .i64 br,.int .i64 un,.int .i64 ur,.string key] 88)).cell? ⟨w.heap.size,0,none⟩=some (.int .i64 an)∧(W1.alloc (.cells #[.int .i64 an,.int .i64 ar,.int .i64 bn,.int .i64 br,.int .i64 un,.int .i64 ur,.string key] 88)).cell? ⟨w.heap.size,1,none⟩=some (.int .i64 ar)∧(W1.alloc (.cells #[.int .i64 an,.int .i64 ar,.int .i64 bn,.int .i64 br,.int .i64 un,.int .i64 ur,.string key] 88)).cell? ⟨w.heap.size+1,0,none⟩=some (.int .i64 bn)∧(W1.alloc (.cells #[.int .i64 an,.int .i64 ar,.int .i64 bn,.int .i64 br,.int .i64 un,.int .i64 ur,.string key] 88)).cell? ⟨w.heap.size+1,1,none⟩=some (.int .i64 br)∧(W1.alloc (.cells #[.int .i64 an,.int .i64 ar,.int .i64 bn,.int .i64 br,.int .i64 un,.int .i64 ur,.string key] 88)).cell? ⟨w.heap.size+2,0,none⟩=some (.int .i64 un)∧(W1.alloc (.cells #[.int .i64 an,.int .i64 ar,.int .i64 bn,.int .i64 br,.int .i64 un,.int .i64 ur,.string key] 88)).cell? ⟨w.heap.size+2,1,none⟩=some (.int .i64 ur):=⟨Z1 hS0.1 _,Z1 hS0.2.1 _,Z1 hS0.2.2.1 _,Z1 hS0.2.2.2.1 _,Z1 hS0.2.2.2.2.1 _,Z1 hS0.2.2.2.2.2.1 _,Z1 hS0.2.2.2.2.2.2 _⟩
   have hrb6:¬ (Value.slice a L.length cap).ownBlock=some rb:=fun e=>HNE.out _ e rfl
   have hS6:w6.cell? ⟨rb,0,none⟩=some (.slice a L.length cap)∧w6.cell? ⟨w.heap.size,0,none⟩=some (.int .i64 an)∧w6.cell? ⟨w.heap.size,1,none⟩=some (.int .i64 ar)∧w6.cell? ⟨w.heap.size+1,0,none⟩=some (.int .i64 bn)∧w6.cell? ⟨w.heap.size+1,1,none⟩=some (.int .i64 br)∧w6.cell? ⟨w.heap.size+2,0,none⟩=some (.int .i64 un)∧w6.cell? ⟨w.heap.size+2,1,none⟩=some (.int .i64 ur):=⟨hk6 _ _ _ hrb6 hS0.1,hk6 _ _ _ (hbx _ (by omega) (by omega)) hS0.2.1,hk6 _ _ _ (hbx _ (by omega) (by omega)) hS0.2.2.1,hk6 _ _ _ (hbx _ (by omega) (by omega)) hS0.2.2.2.1,hk6 _ _ _ (hbx _ (by omega) (by omega)) hS0.2.2.2.2.1,hk6 _ _ _ (hbx _ (by omega) (by omega)) hS0.2.2.2.2.2.1,hk6 _ _ _ (hbx _ (by omega) (by omega)) hS0.2.2.2.2.2.2⟩
   have hb6:w6.heap[rb]?=some (.cells #[.slice a L.length cap] 85 (0,0)):=by rw[hx6.block rb (by simp;omega) hrb6,Below.heap_alloc _ _ _ hrl];exact hT1.1
   have g1:w6.frozen? ⟨rb,0,none⟩=false:=by simp[World.frozen?,hb6]
   refine Zl (i:=10) (d:=some 67) (v:=.slice (some ⟨W1.heap.size,0,none⟩) 1 1) (w':=W1.alloc (.cells #[.int .i64 an,.int .i64 ar,.int .i64 bn,.int .i64 br,.int .i64 un,.int .i64 ur,.string key] 88)) (by kernel_rfl) rfl rfl (by rfl) (by go_simp;try rfl) (fun _=>hSa) ?_
   try simp only[Ja]
   refine Zl (i:=11) (d:=some 68) (v:=.slice (some ⟨g6,0,none⟩) (L.length+1) cp6) (w':=w6) (by kernel_rfl) rfl rfl (by rfl) (Yp rfl rfl rfl hr6) (fun _=>hS6) ?_
   try simp only[Ja]
   refine Zl (i:=12) (d:=some 69) (w':=w6) (by kernel_rfl) rfl rfl (by rfl) (by go_simp;try rfl) (fun _=>hS6) ?_
   try simp only[Ja]
   refine Zl (i:=13) (d:=some 70) (w':=w6) (by kernel_rfl) rfl rfl (by rfl) (by go_simp;try rfl) (fun _=>hS6) ?_
   try simp only[Ja]
   refine Zh (i:=14) (d:=none) (w':=w6.setCell ⟨rb,0,none⟩ (.slice (some ⟨g6,0,none⟩) (L.length+1) cp6)) (by kernel_rfl) rfl rfl (by rfl) (by have g2:=hS6.1;go_simp;try rfl) (fun h=>by cases h) ?_
   try simp only[Ja]
   refine Zd (by kernel_rfl) ?_ _
   have hT6:YM B (w6.setCell ⟨rb,0,none⟩ (.slice (some ⟨g6,0,none⟩) (L.length+1) cp6)) rb (.slice (some ⟨g6,0,none⟩) (L.length+1) cp6) (L++[⟨⟨an,ar⟩,⟨bn,br⟩,⟨un,ur⟩,key⟩]):=by
    refine ⟨by simp[World.setCell,Array.getElem?_modify,hb6],hown6.ext ((Ext.refl (·=rb) w6).setCell (p:=⟨rb,0,none⟩) (.inr rfl) _) (fun b hb e=>?_),HT2.out.2.2⟩
    obtain ⟨cur,hcur⟩:=hown6.tag hb
    rw[e,hb6] at hcur
    cases hcur
   have hF6:Ext (XU (.slice a L.length cap) rb) w (w6.setCell ⟨rb,0,none⟩ (.slice (some ⟨g6,0,none⟩) (L.length+1) cp6)) :=
    (((Ext.of_below hX1).alloc (.cells #[.int .i64 an,.int .i64 ar,.int .i64 bn,.int .i64 br,.int .i64 un,.int .i64 ur,.string key] 88)).andThen hx6 (fun b _ hb=>.inr hb)).setCell (p:=⟨rb,0,none⟩) (.inr (.inl rfl)) _
   have hg6:w.heap.size≤g6∨XU (.slice a L.length cap) rb g6:=by
    rcases hnw6 g6 rfl with e|e
    ·exact .inr (.inr e)
    ·exact .inl (by simp at e;omega)
   have HT6:=Lib.hid hT6
   have HF6:=Lib.hid hF6
   obtain ⟨-,hc6,hm6⟩:=hown6.lenI RMv.len
   clear hr6 hown6 hx6 hnw6 hk6 hbx hSa hrb6 hS6 hb6 g1 hT6 hF6 hS0 hT1 hX1
   generalize w6.setCell ⟨rb,0,none⟩ (.slice (some ⟨g6,0,none⟩) (L.length+1) cp6)=w7 at *
   obtain ⟨y,hy⟩:∃ y:RMv,(⟨⟨an,ar⟩,⟨bn,br⟩,⟨un,ur⟩,key⟩:RMv)=y:=⟨_,rfl⟩
   rw[hy] at HT6
   obtain ⟨m,hm⟩:=Je (L.length+1)
   rw[hm] at HT6 hc6
   have hm1:(m:Int) - 1=(L.length:Int):=by omega
   have hmb:m≤901:=by omega
   have HM:=Lib.hid hm
   have hlm:(L++[y]).length=m:=by simp[hm]
   have HLM:=Lib.hid hlm
   have hnd:(L++[y]).Nodup∧∀ q∈L,q.at_≠y.at_:=by
    have hq:∀ q∈L,q.at_≠y.at_:=fun q hq e=>HNIN.out (UX q) (by rw[←HC.out.1];exact List.mem_map_of_mem hq) (by rw[←hy] at e;exact e)
    refine ⟨?_,hq⟩
    rw[List.nodup_append]
    refine ⟨HC.out.2.imp (fun {a b} h e=>by rw[e] at h;exact Zm _ h),by simp,fun a ha b hb e=>?_⟩
    rw[List.mem_singleton] at hb
    subst hb
    exact hq a ha (by rw[e])
   have HND:=Lib.hid hnd
   have t0:=HT6.out.c0
   have HY:=Lib.hid hy
   have HI0:Hid (Wg RLt (L++[y]) (L++[y]) L.length∧YM B w7 rb (.slice (some ⟨g6,0,none⟩) m cp6) (L++[y])∧Ext (XU (.slice a L.length cap) rb) w w7):=Lib.hid ⟨Vd HC.out.2 y,HT6.out,HF6.out⟩
   clear hm hlm hnd hy HT6 HF6 hzb hwz hrl hs1 hBw
   go_wp2_with fail
   go_loopg [15] L.length (fun g jv wr=>∃ (j:Nat) (zs:List RMv),g=j∧j≤L.length∧jv=.int .i64 j∧zs.length=m∧Hid (zs[j]?=some y)∧Hid (Wg RLt (L++[y]) zs j∧YM B wr rb (.slice (some ⟨g6,0,none⟩) m cp6) zs∧Ext (XU (.slice a L.length cap) rb) w wr))
   case atStart=>exact ⟨L.length,_,rfl,Nat.le_refl _,by first|rfl|simp,HLM.out,Jh (by rw[List.getElem?_append_right (Nat.le_refl _),Nat.sub_self];rfl),HI0⟩
   case round =>
    obtain ⟨j,zs,hg,hj,rfl,hzl,hzx,hV⟩:=hrel
    have HGJ:=Lib.hid hg
    clear hg t0
    have t0:=hV.out.2.1.c0
    have hend:∀ W,Below wr.heap.size wr W→zs.Pairwise RLt→Hid (V4 B w rb (.slice a L.length cap) c ⟨an,ar⟩ ⟨bn,br⟩ ⟨un,ur⟩ key (.returned (.int .i64 0)) W):=fun W hW h=>Lib.hid ⟨_,zs,by rw[HCODE.out],hV.out.2.1.below hW,by
     rw[WR,if_pos (show Yu c ⟨an,ar⟩ (Ch.mk ⟨bn,br⟩ ⟨un,ur⟩ key).block (Ch.mk ⟨bn,br⟩ ⟨un,ur⟩ key).under=0 from HCODE.out)]
     have:=HC.out.add (x:=y) (by rw[←HY.out];exact HNIN.out) hV.out.1.perm h
     rw[←HY.out] at this
     exact this,hV.out.2.2.then_below hW⟩
    by_cases hj0:0<j
    ·obtain ⟨p,hp⟩:∃ p,zs[j]?=some p:=⟨_,List.getElem?_eq_getElem (by omega)⟩
     obtain ⟨q,hq⟩:∃ q,zs[j - 1]?=some q:=⟨_,List.getElem?_eq_getElem (by omega)⟩
     have ho:=hV.out.2.1.2.1
     have p0:=ho.cellI (j:=0) RMv.len hp rfl
     have p1:=ho.cellI (j:=1) RMv.len hp rfl
     have q0:=ho.cellI (j:=0) RMv.len hq rfl
     have q1:=ho.cellI (j:=1) RMv.len hq rfl
     simp only[Nat.add_zero] at p0 q0
     have HPQ:=Jh (And.intro hp hq)
     have hcm:=X4 p.at_.n p.at_.r q.at_.n q.at_.r
     obtain ⟨cv,hcv⟩:=Je (Yd ⟨p.at_.n,p.at_.r⟩ ⟨q.at_.n,q.at_.r⟩)
     rw[hcv] at hcm
     have HCM:=Lib.hid hcm
     have hvv:=WA p.at_ q.at_
     rw[show Yd p.at_ q.at_=cv from hcv] at hvv
     have HVV:=Lib.hid hvv
     have hja:(0:Int)≤(j:Int):=by omega
     have hjb:(j:Int)<(m:Int):=by omega
     have hj1:(0:Int)<(j:Int):=by omega
     obtain ⟨jq,hjq⟩:∃ jq:Nat,j - 1=jq:=⟨_,rfl⟩
     rw[hjq] at q0 q1
     have hjc:(0:Int)≤(jq:Int):=by omega
     have hjd:(jq:Int)<(m:Int):=by omega
     have hje:IntKind.i64.wrap ((j:Int) - 1)=(jq:Int):=by rw[show (j:Int) - 1=(jq:Int) by omega];exact IntWalk.i64_in _ (by omega)
     have HJE:=Lib.hid hje
     have HJQ:=Lib.hid hjq
     clear ho hp hq hcm hcv hvv hjq
     go_upto_region 13 with fail
     go_region_held3 (fun W=>W.cell? ⟨rb,0,none⟩=some (.slice (some ⟨g6,0,none⟩) m cp6)∧W.cell? ⟨g6,j*7,none⟩=some (.int .i64 p.at_.n)∧W.cell? ⟨g6,j*7+1,none⟩=some (.int .i64 p.at_.r)∧W.cell? ⟨g6,jq*7,none⟩=some (.int .i64 q.at_.n)∧W.cell? ⟨g6,jq*7+1,none⟩=some (.int .i64 q.at_.r)) (first|exact ⟨t0,p0,p1,q0,q1⟩|exact ⟨Z0 b5 t0,Z0 b5 p0,Z0 b5 p1,Z0 b5 q0,Z0 b5 q1⟩) (first|(go_at_call 23;((with_reducible refine (HCM.out _).mono ?_);rintro e w5 ⟨rfl,b5⟩;simp only[Y4,ZU] at b5)))
     have HB5:=Lib.hid b5
     clear b5 p0 p1 q0 q1 hje t0
     by_cases hlt:cv<0
     ·have HSW:=Jh (hV.out.1.swap hj0 HPQ.out.1 HPQ.out.2 (HVV.out.1 hlt))
      have hT5:=hV.out.2.1.below HB5.out
      have hF5:=hV.out.2.2.then_below HB5.out
      clear hV hend HCM HVV HB5
      have t0:=hT5.c0
      have ho:=hT5.2.1
      have p0:=ho.cellI (j:=0) RMv.len HPQ.out.1 rfl
      have p1:=ho.cellI (j:=1) RMv.len HPQ.out.1 rfl
      have p2:=ho.cellI (j:=2) RMv.len HPQ.out.1 rfl
      have p3:=ho.cellI (j:=3) RMv.len HPQ.out.1 rfl
      have p4:=ho.cellI (j:=4) RMv.len HPQ.out.1 rfl
      have p5:=ho.cellI (j:=5) RMv.len HPQ.out.1 rfl
      have p6:=ho.cellI (j:=6) RMv.len HPQ.out.1 rfl
      simp only[Nat.add_zero] at p0
      have z0:(w5.alloc (.cells #[.int .i64 p.at_.n,.int .i64 p.at_.r,.int .i64 p.block.n,.int .i64 p.block.r,.int .i64 p.under.n,.int .i64 p.under.r,.string p.key] 88)).cell? ⟨w5.heap.size,0,none⟩=some (.int .i64 p.at_.n):=by go_simp
      have z1:(w5.alloc (.cells #[.int .i64 p.at_.n,.int .i64 p.at_.r,.int .i64 p.block.n,.int .i64 p.block.r,.int .i64 p.under.n,.int .i64 p.under.r,.string p.key] 88)).cell? ⟨w5.heap.size,1,none⟩=some (.int .i64 p.at_.r):=by go_simp
      have z2:(w5.alloc (.cells #[.int .i64 p.at_.n,.int .i64 p.at_.r,.int .i64 p.block.n,.int .i64 p.block.r,.int .i64 p.under.n,.int .i64 p.under.r,.string p.key] 88)).cell? ⟨w5.heap.size,2,none⟩=some (.int .i64 p.block.n):=by go_simp
      have z3:(w5.alloc (.cells #[.int .i64 p.at_.n,.int .i64 p.at_.r,.int .i64 p.block.n,.int .i64 p.block.r,.int .i64 p.under.n,.int .i64 p.under.r,.string p.key] 88)).cell? ⟨w5.heap.size,3,none⟩=some (.int .i64 p.block.r):=by go_simp
      have z4:(w5.alloc (.cells #[.int .i64 p.at_.n,.int .i64 p.at_.r,.int .i64 p.block.n,.int .i64 p.block.r,.int .i64 p.under.n,.int .i64 p.under.r,.string p.key] 88)).cell? ⟨w5.heap.size,4,none⟩=some (.int .i64 p.under.n):=by go_simp
      have z5:(w5.alloc (.cells #[.int .i64 p.at_.n,.int .i64 p.at_.r,.int .i64 p.block.n,.int .i64 p.block.r,.int .i64 p.under.n,.int .i64 p.under.r,.string p.key] 88)).cell? ⟨w5.heap.size,5,none⟩=some (.int .i64 p.under.r):=by go_simp
      have z6:(w5.alloc (.cells #[.int .i64 p.at_.n,.int .i64 p.at_.r,.int .i64 p.block.n,.int .i64 p.block.r,.int .i64 p.under.n,.int .i64 p.under.r,.string p.key] 88)).cell? ⟨w5.heap.size,6,none⟩=some (.string p.key):=by go_simp
      have hgl:=(ho.blk g6 rfl).2
      have HT5:=Jh (hT5.below ((Below.refl _ _).alloc (Nat.le_refl _) (.cells #[.int .i64 p.at_.n,.int .i64 p.at_.r,.int .i64 p.block.n,.int .i64 p.block.r,.int .i64 p.under.n,.int .i64 p.under.r,.string p.key] 88)))
      have HF5:=Jh (hF5.alloc (.cells #[.int .i64 p.at_.n,.int .i64 p.at_.r,.int .i64 p.block.n,.int .i64 p.block.r,.int .i64 p.under.n,.int .i64 p.under.r,.string p.key] 88))
      have hneb:¬ w5.heap.size=g6:=by omega
      clear hT5 hF5 ho
      go_upto_region 16 with fail
      generalize w5.alloc (.cells #[.int .i64 p.at_.n,.int .i64 p.at_.r,.int .i64 p.block.n,.int .i64 p.block.r,.int .i64 p.under.n,.int .i64 p.under.r,.string p.key] 88)=wy at *
      clear p0 p1 p2 p3 p4 p5 p6 t0
      have t0:=HT5.out.c0
      have hoy:=HT5.out.2.1
      have q0:=hoy.cellI (j:=0) RMv.len HPQ.out.2 rfl
      have r0:=hoy.cellI (j:=0) RMv.len HPQ.out.1 rfl
      have f0:=hoy.freeI (j*7)
      have q1:=hoy.cellI (j:=1) RMv.len HPQ.out.2 rfl
      have r1:=hoy.cellI (j:=1) RMv.len HPQ.out.1 rfl
      have f1:=hoy.freeI (j*7+1)
      have q2:=hoy.cellI (j:=2) RMv.len HPQ.out.2 rfl
      have r2:=hoy.cellI (j:=2) RMv.len HPQ.out.1 rfl
      have f2:=hoy.freeI (j*7+2)
      have q3:=hoy.cellI (j:=3) RMv.len HPQ.out.2 rfl
      have r3:=hoy.cellI (j:=3) RMv.len HPQ.out.1 rfl
      have f3:=hoy.freeI (j*7+3)
      have q4:=hoy.cellI (j:=4) RMv.len HPQ.out.2 rfl
      have r4:=hoy.cellI (j:=4) RMv.len HPQ.out.1 rfl
      have f4:=hoy.freeI (j*7+4)
      have q5:=hoy.cellI (j:=5) RMv.len HPQ.out.2 rfl
      have r5:=hoy.cellI (j:=5) RMv.len HPQ.out.1 rfl
      have f5:=hoy.freeI (j*7+5)
      have q6:=hoy.cellI (j:=6) RMv.len HPQ.out.2 rfl
      have r6:=hoy.cellI (j:=6) RMv.len HPQ.out.1 rfl
      have f6:=hoy.freeI (j*7+6)
      simp only[Nat.add_zero] at q0 r0
      rw[HJQ.out] at q0 q1 q2 q3 q4 q5 q6
      have hje:=HJE.out
      obtain ⟨wd,hwd⟩:=Je (wy.drew)
      have hTd:YM B wd rb (.slice (some ⟨g6,0,none⟩) m cp6) zs:=by rw[←hwd];exact HT5.out.below (Below.refl _ _).drew
      have hFd:Ext (XU (.slice a L.length cap) rb) w wd:=by rw[←hwd];exact HF5.out.drew
      have hzd:wy.heap.size=wd.heap.size:=by rw[←hwd];rfl
      have hS0:wd.cell? ⟨rb,0,none⟩=some (.slice (some ⟨g6,0,none⟩) m cp6)∧wd.cell? ⟨g6,jq*7,none⟩=some (.int .i64 q.at_.n)∧wd.cell? ⟨g6,jq*7+1,none⟩=some (.int .i64 q.at_.r)∧wd.cell? ⟨g6,jq*7+2,none⟩=some (.int .i64 q.block.n)∧wd.cell? ⟨g6,jq*7+3,none⟩=some (.int .i64 q.block.r)∧wd.cell? ⟨g6,jq*7+4,none⟩=some (.int .i64 q.under.n)∧wd.cell? ⟨g6,jq*7+5,none⟩=some (.int .i64 q.under.r)∧wd.cell? ⟨g6,jq*7+6,none⟩=some (.string q.key):=by rw[←hwd];exact ⟨t0,q0,q1,q2,q3,q4,q5,q6⟩
      have u0:wd.cell? ⟨g6,j*7,none⟩=some (.int .i64 p.at_.n):=by rw[←hwd];exact r0
      have v0:wd.cell? ⟨w5.heap.size,0,none⟩=some (.int .i64 p.at_.n):=by rw[←hwd];exact z0
      have u1:wd.cell? ⟨g6,j*7+1,none⟩=some (.int .i64 p.at_.r):=by rw[←hwd];exact r1
      have v1:wd.cell? ⟨w5.heap.size,1,none⟩=some (.int .i64 p.at_.r):=by rw[←hwd];exact z1
      have u2:wd.cell? ⟨g6,j*7+2,none⟩=some (.int .i64 p.block.n):=by rw[←hwd];exact r2
      have v2:wd.cell? ⟨w5.heap.size,2,none⟩=some (.int .i64 p.block.n):=by rw[←hwd];exact z2
      have u3:wd.cell? ⟨g6,j*7+3,none⟩=some (.int .i64 p.block.r):=by rw[←hwd];exact r3
      have v3:wd.cell? ⟨w5.heap.size,3,none⟩=some (.int .i64 p.block.r):=by rw[←hwd];exact z3
      have u4:wd.cell? ⟨g6,j*7+4,none⟩=some (.int .i64 p.under.n):=by rw[←hwd];exact r4
      have v4:wd.cell? ⟨w5.heap.size,4,none⟩=some (.int .i64 p.under.n):=by rw[←hwd];exact z4
      have u5:wd.cell? ⟨g6,j*7+5,none⟩=some (.int .i64 p.under.r):=by rw[←hwd];exact r5
      have v5:wd.cell? ⟨w5.heap.size,5,none⟩=some (.int .i64 p.under.r):=by rw[←hwd];exact z5
      have u6:wd.cell? ⟨g6,j*7+6,none⟩=some (.string p.key):=by rw[←hwd];exact r6
      have v6:wd.cell? ⟨w5.heap.size,6,none⟩=some (.string p.key):=by rw[←hwd];exact z6
      clear z0 r0 f0 q0 z1 r1 f1 q1 z2 r2 f2 q2 z3 r3 f3 q3 z4 r4 f4 q4 z5 r5 f5 q5 z6 r6 f6 q6
      clear t0 hoy
      have hoy:=hTd.2.1
      have f0:=hoy.freeI (j*7)
      have f1:=hoy.freeI (j*7+1)
      have f2:=hoy.freeI (j*7+2)
      have f3:=hoy.freeI (j*7+3)
      have f4:=hoy.freeI (j*7+4)
      have f5:=hoy.freeI (j*7+5)
      have f6:=hoy.freeI (j*7+6)
      have hx1:Ext (·=g6) wd (((((((wd.setCell ⟨g6,j*7,none⟩ (.int .i64 q.at_.n)).setCell ⟨g6,j*7+1,none⟩ (.int .i64 q.at_.r)).setCell ⟨g6,j*7+2,none⟩ (.int .i64 q.block.n)).setCell ⟨g6,j*7+3,none⟩ (.int .i64 q.block.r)).setCell ⟨g6,j*7+4,none⟩ (.int .i64 q.under.n)).setCell ⟨g6,j*7+5,none⟩ (.int .i64 q.under.r)).setCell ⟨g6,j*7+6,none⟩ (.string q.key)):=X1 (o:=j*7) (RMv.cells q) 0 wd
      have ho1:Own RMv.cells 7 88 B (((((((wd.setCell ⟨g6,j*7,none⟩ (.int .i64 q.at_.n)).setCell ⟨g6,j*7+1,none⟩ (.int .i64 q.at_.r)).setCell ⟨g6,j*7+2,none⟩ (.int .i64 q.block.n)).setCell ⟨g6,j*7+3,none⟩ (.int .i64 q.block.r)).setCell ⟨g6,j*7+4,none⟩ (.int .i64 q.under.n)).setCell ⟨g6,j*7+5,none⟩ (.int .i64 q.under.r)).setCell ⟨g6,j*7+6,none⟩ (.string q.key)) (.slice (some ⟨g6,0,none⟩) m cp6) (zs.set j q):=X9 (y:=q) RMv.len (by omega) hzl hoy HPQ.out.1
      have hnrb:¬ rb=g6:=fun e=>by
       obtain ⟨cur,hcur⟩:=hoy.tag (b:=g6) rfl
       rw[←e,hTd.1] at hcur
       cases hcur
      have hT1:YM B (((((((wd.setCell ⟨g6,j*7,none⟩ (.int .i64 q.at_.n)).setCell ⟨g6,j*7+1,none⟩ (.int .i64 q.at_.r)).setCell ⟨g6,j*7+2,none⟩ (.int .i64 q.block.n)).setCell ⟨g6,j*7+3,none⟩ (.int .i64 q.block.r)).setCell ⟨g6,j*7+4,none⟩ (.int .i64 q.under.n)).setCell ⟨g6,j*7+5,none⟩ (.int .i64 q.under.r)).setCell ⟨g6,j*7+6,none⟩ (.string q.key)) rb (.slice (some ⟨g6,0,none⟩) m cp6) (zs.set j q):=⟨(hx1.block rb (Array.getElem?_eq_some_iff.1 hTd.1).1 hnrb).trans hTd.1,ho1,hTd.2.2⟩
      have hF1:Ext (XU (.slice a L.length cap) rb) w (((((((wd.setCell ⟨g6,j*7,none⟩ (.int .i64 q.at_.n)).setCell ⟨g6,j*7+1,none⟩ (.int .i64 q.at_.r)).setCell ⟨g6,j*7+2,none⟩ (.int .i64 q.block.n)).setCell ⟨g6,j*7+3,none⟩ (.int .i64 q.block.r)).setCell ⟨g6,j*7+4,none⟩ (.int .i64 q.under.n)).setCell ⟨g6,j*7+5,none⟩ (.int .i64 q.under.r)).setCell ⟨g6,j*7+6,none⟩ (.string q.key)):=by
       rcases hg6 with hg|hg
       ·exact hFd.andThen hx1 (fun i hi e=>by omega)
       ·exact hFd.andThen hx1 (fun i hi e=>by rw[e];exact hg)
      have y0:=hx1.keep v0 hneb
      have y1:=hx1.keep v1 hneb
      have y2:=hx1.keep v2 hneb
      have y3:=hx1.keep v3 hneb
      have y4:=hx1.keep v4 hneb
      have y5:=hx1.keep v5 hneb
      have y6:=hx1.keep v6 hneb
      have HY0:=Lib.hid y0
      have HY1:=Lib.hid y1
      have HY2:=Lib.hid y2
      have HY3:=Lib.hid y3
      have HY4:=Lib.hid y4
      have HY5:=Lib.hid y5
      have HY6:=Lib.hid y6
      have HT1:=Lib.hid hT1
      have HF1:=Lib.hid hF1
      clear hx1 ho1 hT1 hF1 hoy hTd hFd v0 y0 v1 y1 v2 y2 v3 y3 v4 y4 v5 y5 v6 y6
      refine Zf (fun W=>W.cell? ⟨rb,0,none⟩=some (.slice (some ⟨g6,0,none⟩) m cp6)∧W.cell? ⟨g6,jq*7,none⟩=some (.int .i64 q.at_.n)∧W.cell? ⟨g6,jq*7+1,none⟩=some (.int .i64 q.at_.r)∧W.cell? ⟨g6,jq*7+2,none⟩=some (.int .i64 q.block.n)∧W.cell? ⟨g6,jq*7+3,none⟩=some (.int .i64 q.block.r)∧W.cell? ⟨g6,jq*7+4,none⟩=some (.int .i64 q.under.n)∧W.cell? ⟨g6,jq*7+5,none⟩=some (.int .i64 q.under.r)∧W.cell? ⟨g6,jq*7+6,none⟩=some (.string q.key)) (fun i=>i == 14) (by kernel_rfl) ?_
      rw[hwd]
      clear hwd HT5 HF5
      refine JR 0 109 _ rfl rfl hS0 (fun W hW=>by go_simp;rfl) ?_
      try simp only[Ja]
      refine JR 1 110 _ rfl rfl hS0 (fun W hW=>by go_simp;rfl) ?_
      try simp only[Ja]
      refine JR 2 111 _ rfl rfl hS0 (fun W hW=>by go_simp;rfl) ?_
      try simp only[Ja]
      refine JR 3 112 _ rfl rfl hS0 (fun W hW=>by obtain ⟨g10,g11,g12,g13,g14,g15,g16,g17⟩:=hW;go_simp;rfl) ?_
      try simp only[Ja]
      refine JR 4 113 _ rfl rfl hS0 (fun W hW=>by go_simp;rfl) ?_
      try simp only[Ja]
      refine JR 5 114 _ rfl rfl hS0 (fun W hW=>by go_simp;rfl) ?_
      try simp only[Ja]
      refine JR 6 115 _ rfl rfl hS0 (fun W hW=>by go_simp;rfl) ?_
      try simp only[Ja]
      refine JR 7 116 _ rfl rfl hS0 (fun W hW=>by go_simp;rfl) ?_
      try simp only[Ja]
      refine JR 8 117 _ rfl rfl hS0 (fun W hW=>by obtain ⟨g10,g11,g12,g13,g14,g15,g16,g17⟩:=hW;go_simp;rfl) ?_
      try simp only[Ja]
      refine JR 9 118 _ rfl rfl hS0 (fun W hW=>by go_simp;rfl) ?_
      try simp only[Ja]
      refine JR 10 119 _ rfl rfl hS0 (fun W hW=>by go_simp;rfl) ?_
      try simp only[Ja]
      refine JR 11 120 _ rfl rfl hS0 (fun W hW=>by go_simp;rfl) ?_
      try simp only[Ja]
      refine JR 12 121 _ rfl rfl hS0 (fun W hW=>by obtain ⟨g10,g11,g12,g13,g14,g15,g16,g17⟩:=hW;go_simp;rfl) ?_
      try simp only[Ja]
      refine JR 13 122 _ rfl rfl hS0 (fun W hW=>by go_simp;rfl) ?_
      try simp only[Ja]
      refine Zh (i:=14) (d:=none) (w':=(((((((wd.setCell ⟨g6,j*7,none⟩ (.int .i64 q.at_.n)).setCell ⟨g6,j*7+1,none⟩ (.int .i64 q.at_.r)).setCell ⟨g6,j*7+2,none⟩ (.int .i64 q.block.n)).setCell ⟨g6,j*7+3,none⟩ (.int .i64 q.block.r)).setCell ⟨g6,j*7+4,none⟩ (.int .i64 q.under.n)).setCell ⟨g6,j*7+5,none⟩ (.int .i64 q.under.r)).setCell ⟨g6,j*7+6,none⟩ (.string q.key))) (by kernel_rfl) rfl rfl (by rfl) (by go_simp;try rfl) (fun h=>by cases h) ?_
      try simp only[Ja]
      refine Zd (by kernel_rfl) ?_ _
      generalize (((((((wd.setCell ⟨g6,j*7,none⟩ (.int .i64 q.at_.n)).setCell ⟨g6,j*7+1,none⟩ (.int .i64 q.at_.r)).setCell ⟨g6,j*7+2,none⟩ (.int .i64 q.block.n)).setCell ⟨g6,j*7+3,none⟩ (.int .i64 q.block.r)).setCell ⟨g6,j*7+4,none⟩ (.int .i64 q.under.n)).setCell ⟨g6,j*7+5,none⟩ (.int .i64 q.under.r)).setCell ⟨g6,j*7+6,none⟩ (.string q.key))=wz at *
      clear hS0 u0 f0 u1 f1 u2 f2 u3 f3 u4 f4 u5 f5 u6 f6
      go_upto_region 17 with fail
      have t0:=HT1.out.c0
      obtain ⟨we,hwe⟩:=Je (wz.drew)
      have hTd:YM B we rb (.slice (some ⟨g6,0,none⟩) m cp6) (zs.set j q):=by rw[←hwe];exact HT1.out.below (Below.refl _ _).drew
      have hFd:Ext (XU (.slice a L.length cap) rb) w we:=by rw[←hwe];exact HF1.out.drew
      have hS0:we.cell? ⟨rb,0,none⟩=some (.slice (some ⟨g6,0,none⟩) m cp6)∧we.cell? ⟨w5.heap.size,0,none⟩=some (.int .i64 p.at_.n)∧we.cell? ⟨w5.heap.size,1,none⟩=some (.int .i64 p.at_.r)∧we.cell? ⟨w5.heap.size,2,none⟩=some (.int .i64 p.block.n)∧we.cell? ⟨w5.heap.size,3,none⟩=some (.int .i64 p.block.r)∧we.cell? ⟨w5.heap.size,4,none⟩=some (.int .i64 p.under.n)∧we.cell? ⟨w5.heap.size,5,none⟩=some (.int .i64 p.under.r)∧we.cell? ⟨w5.heap.size,6,none⟩=some (.string p.key):=by rw[←hwe];exact ⟨t0,HY0.out,HY1.out,HY2.out,HY3.out,HY4.out,HY5.out,HY6.out⟩
      have hoy:=hTd.2.1
      have hq1:(zs.set j q)[jq]?=some q:=by rw[List.getElem?_set,if_neg (by have:=HJQ.out;omega),←HJQ.out];exact HPQ.out.2
      have u0:=hoy.cellI (j:=0) RMv.len hq1 rfl
      have f0:=hoy.freeI (jq*7)
      have u1:=hoy.cellI (j:=1) RMv.len hq1 rfl
      have f1:=hoy.freeI (jq*7+1)
      have u2:=hoy.cellI (j:=2) RMv.len hq1 rfl
      have f2:=hoy.freeI (jq*7+2)
      have u3:=hoy.cellI (j:=3) RMv.len hq1 rfl
      have f3:=hoy.freeI (jq*7+3)
      have u4:=hoy.cellI (j:=4) RMv.len hq1 rfl
      have f4:=hoy.freeI (jq*7+4)
      have u5:=hoy.cellI (j:=5) RMv.len hq1 rfl
      have f5:=hoy.freeI (jq*7+5)
      have u6:=hoy.cellI (j:=6) RMv.len hq1 rfl
      have f6:=hoy.freeI (jq*7+6)
      simp only[Nat.add_zero] at u0
      have hx2:Ext (·=g6) we (((((((we.setCell ⟨g6,jq*7,none⟩ (.int .i64 p.at_.n)).setCell ⟨g6,jq*7+1,none⟩ (.int .i64 p.at_.r)).setCell ⟨g6,jq*7+2,none⟩ (.int .i64 p.block.n)).setCell ⟨g6,jq*7+3,none⟩ (.int .i64 p.block.r)).setCell ⟨g6,jq*7+4,none⟩ (.int .i64 p.under.n)).setCell ⟨g6,jq*7+5,none⟩ (.int .i64 p.under.r)).setCell ⟨g6,jq*7+6,none⟩ (.string p.key)):=X1 (o:=jq*7) (RMv.cells p) 0 we
      have ho2:Own RMv.cells 7 88 B (((((((we.setCell ⟨g6,jq*7,none⟩ (.int .i64 p.at_.n)).setCell ⟨g6,jq*7+1,none⟩ (.int .i64 p.at_.r)).setCell ⟨g6,jq*7+2,none⟩ (.int .i64 p.block.n)).setCell ⟨g6,jq*7+3,none⟩ (.int .i64 p.block.r)).setCell ⟨g6,jq*7+4,none⟩ (.int .i64 p.under.n)).setCell ⟨g6,jq*7+5,none⟩ (.int .i64 p.under.r)).setCell ⟨g6,jq*7+6,none⟩ (.string p.key)) (.slice (some ⟨g6,0,none⟩) m cp6) ((zs.set j q).set jq p):=X9 (y:=p) RMv.len (by omega) (by rw[List.length_set];exact hzl) hoy hq1
      have hT2:YM B (((((((we.setCell ⟨g6,jq*7,none⟩ (.int .i64 p.at_.n)).setCell ⟨g6,jq*7+1,none⟩ (.int .i64 p.at_.r)).setCell ⟨g6,jq*7+2,none⟩ (.int .i64 p.block.n)).setCell ⟨g6,jq*7+3,none⟩ (.int .i64 p.block.r)).setCell ⟨g6,jq*7+4,none⟩ (.int .i64 p.under.n)).setCell ⟨g6,jq*7+5,none⟩ (.int .i64 p.under.r)).setCell ⟨g6,jq*7+6,none⟩ (.string p.key)) rb (.slice (some ⟨g6,0,none⟩) m cp6) (YL zs j p q):=⟨(hx2.block rb (Array.getElem?_eq_some_iff.1 hTd.1).1 hnrb).trans hTd.1,by unfold YL;rw[HJQ.out];exact ho2,hTd.2.2⟩
      have hF2:Ext (XU (.slice a L.length cap) rb) w (((((((we.setCell ⟨g6,jq*7,none⟩ (.int .i64 p.at_.n)).setCell ⟨g6,jq*7+1,none⟩ (.int .i64 p.at_.r)).setCell ⟨g6,jq*7+2,none⟩ (.int .i64 p.block.n)).setCell ⟨g6,jq*7+3,none⟩ (.int .i64 p.block.r)).setCell ⟨g6,jq*7+4,none⟩ (.int .i64 p.under.n)).setCell ⟨g6,jq*7+5,none⟩ (.int .i64 p.under.r)).setCell ⟨g6,jq*7+6,none⟩ (.string p.key)):=by
       rcases hg6 with hg|hg
       ·exact hFd.andThen hx2 (fun i hi e=>by omega)
       ·exact hFd.andThen hx2 (fun i hi e=>by rw[e];exact hg)
      have HN:=Jh (And.intro HSW.out (And.intro hT2 hF2))
      clear hx2 ho2 hT2 hF2 hoy hTd hFd t0 HT1 HF1 hq1 HY0 HY1 HY2 HY3 HY4 HY5 HY6
      refine Zf (fun W=>W.cell? ⟨rb,0,none⟩=some (.slice (some ⟨g6,0,none⟩) m cp6)∧W.cell? ⟨w5.heap.size,0,none⟩=some (.int .i64 p.at_.n)∧W.cell? ⟨w5.heap.size,1,none⟩=some (.int .i64 p.at_.r)∧W.cell? ⟨w5.heap.size,2,none⟩=some (.int .i64 p.block.n)∧W.cell? ⟨w5.heap.size,3,none⟩=some (.int .i64 p.block.r)∧W.cell? ⟨w5.heap.size,4,none⟩=some (.int .i64 p.under.n)∧W.cell? ⟨w5.heap.size,5,none⟩=some (.int .i64 p.under.r)∧W.cell? ⟨w5.heap.size,6,none⟩=some (.string p.key)) (fun i=>i == 8) (by kernel_rfl) ?_
      rw[hwe]
      clear hwe
      refine JR 0 123 _ rfl rfl hS0 (fun W hW=>by go_simp;rfl) ?_
      try simp only[Ja]
      refine JR 1 124 _ rfl rfl hS0 (fun W hW=>by go_simp;rfl) ?_
      try simp only[Ja]
      refine JR 2 125 _ rfl rfl hS0 (fun W hW=>by go_simp;rfl) ?_
      try simp only[Ja]
      refine JR 3 126 _ rfl rfl hS0 (fun W hW=>by obtain ⟨g10,g11,g12,g13,g14,g15,g16,g17⟩:=hW;go_simp;rfl) ?_
      try simp only[Ja]
      refine JR 4 127 _ rfl rfl hS0 (fun W hW=>by go_simp;rfl) ?_
      try simp only[Ja]
      refine JR 5 128 _ rfl rfl hS0 (fun W hW=>by go_simp;rfl) ?_
      try simp only[Ja]
      refine JR 6 129 _ rfl rfl hS0 (fun W hW=>by obtain ⟨g10,g11,g12,g13,g14,g15,g16,g17⟩:=hW;go_simp;rfl) ?_
      try simp only[Ja]
      refine JR 7 130 _ rfl rfl hS0 (fun W hW=>by go_simp;rfl) ?_
      try simp only[Ja]
      refine Zh (i:=8) (d:=none) (w':=(((((((we.setCell ⟨g6,jq*7,none⟩ (.int .i64 p.at_.n)).setCell ⟨g6,jq*7+1,none⟩ (.int .i64 p.at_.r)).setCell ⟨g6,jq*7+2,none⟩ (.int .i64 p.block.n)).setCell ⟨g6,jq*7+3,none⟩ (.int .i64 p.block.r)).setCell ⟨g6,jq*7+4,none⟩ (.int .i64 p.under.n)).setCell ⟨g6,jq*7+5,none⟩ (.int .i64 p.under.r)).setCell ⟨g6,jq*7+6,none⟩ (.string p.key))) (by kernel_rfl) rfl rfl (by rfl) (by go_simp;try rfl) (fun h=>by cases h) ?_
      try simp only[Ja]
      refine Zd (by kernel_rfl) ?_ _
      generalize (((((((we.setCell ⟨g6,jq*7,none⟩ (.int .i64 p.at_.n)).setCell ⟨g6,jq*7+1,none⟩ (.int .i64 p.at_.r)).setCell ⟨g6,jq*7+2,none⟩ (.int .i64 p.block.n)).setCell ⟨g6,jq*7+3,none⟩ (.int .i64 p.block.r)).setCell ⟨g6,jq*7+4,none⟩ (.int .i64 p.under.n)).setCell ⟨g6,jq*7+5,none⟩ (.int .i64 p.under.r)).setCell ⟨g6,jq*7+6,none⟩ (.string p.key))=wq at *
      clear hS0 hje u0 f0 u1 f1 u2 f2 u3 f3 u4 f4 u5 f5 u6 f6
      have hjz:((j - 1:Nat):Int)=(j:Int) - 1:=by omega
      go_wp2_with fail
      go_roundg (j - 1)
      case measure=>rw[HGJ.out];omega
      case rel=>exact ⟨j - 1,_,rfl,by omega,by simp;omega,by rw[Vz];exact hzl,Jh (by rw[Xu zs hj0 HPQ.out.1 HPQ.out.2,if_pos rfl,←HPQ.out.1,hzx.out]),HN⟩
     ·have HN1:=hend _ HB5.out (hV.out.1.stands SQ (fun x' y' _ hx' hy'=>by
       rw[HPQ.out.1] at hx';rw[HPQ.out.2] at hy';cases hx';cases hy'
       have hpx:p=y:=by have:=hzx.out;rw[HPQ.out.1] at this;exact Option.some.inj this
       have hqM:q∈L:=by
        have h1:=hV.out.1.perm.mem_iff.1 (List.mem_of_getElem? HPQ.out.2)
        rcases List.mem_append.1 h1 with h1|h1
        ·exact h1
        ·have hnd:=hV.out.1.perm.nodup_iff.2 HND.out.1
         have hq:=HPQ.out.2
         rw[List.mem_singleton.1 h1,←hpx] at hq
         exact absurd rfl (X2.1 hnd (j - 1) j p p (by omega) hq HPQ.out.1)
       rcases Y8 q.at_ p.at_ with t|t|t
       ·exact t
       ·exact absurd (by rw[t,hpx]) (HND.out.2 q hqM)
       ·exact absurd (HVV.out.2 t) hlt))
      clear hV hend HVV HCM
      go_wp2_with fail
      go_ret
      exact HN1.out
    ·have HN0:=Jh (fun n=>(hend (wr.drewN n) (below_drewN (Below.refl _ _) n) (hV.out.1.stands SQ (fun x y h0 _ _=>absurd h0 hj0))).out)
     have hj1:¬ (0:Int)<(j:Int):=by omega
     clear hV hend
     go_upto_region 13 with fail
     go_quiet (fail)
     have HN1:=Jh (HN0.out nq)
     go_wp2_with fail
     go_ret
     exact HN1.out
section
variable {B:Nat} {w:World} {rb:Nat} {v:Value} {L:List RMv} {c:List (St × Ch)}
theorem Z1c (a b u:St) (key:ByteArray) (h:YM B w rb v L) (hBw:B≤w.heap.size) (hc:YT L c) (hl:L.length≤900) :
  Calls Tryz.prog 38 #[.pointer (some ⟨rb,0,none⟩),.agg #[.int .i64 a.n,.int .i64 a.r],.agg #[.int .i64 b.n,.int .i64 b.r],.agg #[.int .i64 u.n,.int .i64 u.r],.string key] w fun e w'=>V4 B w rb v c a b u key e w':=by
 have hbad:Wb a b u=false→∀ (e:Ending) w',(e=.returned (.int .i64 1)∧Below w.heap.size w w')→V4 B w rb v c a b u key e w':=fun hg e w' ⟨he,hb⟩=>by
  have e1:Yu c a b u=1:=by unfold Yu;rw[if_neg (by rw[hg];decide)]
  exact ⟨v,L,by rw[he,e1],h.below hb,by rw[QP (by rw[show Yu c a (Ch.mk b u key).block (Ch.mk b u key).under=1 from e1];decide)];exact hc,Ext.of_below hb⟩
 obtain ⟨an,ar⟩:=a
 obtain ⟨bn,br⟩:=b
 obtain ⟨un,ur⟩:=u
 cases h1:Z7 ⟨an,ar⟩ with
 | false=>exact (Z0F rb an ar bn br un ur key w h1).mono (hbad (by simp[Wb,h1]))
 | true =>
  cases h2:Z7 ⟨bn,br⟩ with
  | false=>exact (Z0R rb an ar bn br un ur key w h1 h2).mono (hbad (by simp[Wb,h2]))
  | true =>
   cases h3:Z7 ⟨un,ur⟩ with
   | true=>exact S4 rb v L an ar bn br un ur key w h hBw hc hl h1 h2 (.inr h3)
   | false =>
    by_cases hu:un=0
    ·subst hu
     by_cases hr:ur=0
     ·subst hr
      exact S4 rb v L an ar bn br 0 0 key w h hBw hc hl h1 h2 (.inl ⟨rfl,rfl⟩)
     ·exact (Z04 rb an ar bn br ur key w h1 h2 h3 hr).mono (hbad (by simp[Wb,h3,hr]))
    ·exact (Z0v rb an ar bn br un ur key w h1 h2 h3 hu).mono (hbad (by simp[Wb,h3,hu]))
def QJ (w:World) (c:List (St × Ch)) (e:Ending) (w':World):Prop:=∃ v' A,e=.returned v'∧Own Ch.cells 5 53 w.heap.size w' v' A∧Zo (Y1 c) A∧Below w.heap.size w w'
theorem Z2O (h:YM B w rb v L) (hc:YT L c) (hl:L.length≤1000) :
  Calls Tryz.prog 39 #[.pointer (some ⟨rb,0,none⟩)] w fun e w'=>QJ w c e w':=by
 obtain ⟨a,cap,rfl,hcap,hmax,_⟩:=h.2.1.slice RMv.len
 unfold maxLen at hmax
 have t0:=h.c0
 have HA:=Jh (Z0n rb _ L w h hc hl)
 clear h hc
 go_enter Tryz.func39,Tryz.ntmps39
 go_wp2_with fail
 refine HA.out.mono ?_
 rintro e w1 ⟨v1,v2,A,rfl,h1,h2,h3,h4⟩
 have HN:=Jh (And.intro h1 (And.intro h2 h4))
 clear h1 h2 h3 h4
 go_wp2_with fail
 go_ret
 exact ⟨_,A,rfl,HN.out.1,HN.out.2.1,HN.out.2.2⟩
end
structure Pl where
 blk:St
 name:ByteArray
 deriving DecidableEq
def Pl.val (p:Pl):Value:=.agg #[.int .i64 p.blk.n,.int .i64 p.blk.r,.string p.name]
theorem Z1u:Tryz.prog.underlying 95=some (.struct (Tryz.prog.fieldsOf 95)):=by kernel_rfl
theorem Z2X (a b:Pl) (w:World):(Op.equal 95 a.val b.val).run Tryz.prog w=.ok (decide (a=b)) w:=by
 obtain ⟨⟨a1,a2⟩,a3⟩:=a
 obtain ⟨⟨b1,b2⟩,b3⟩:=b
 unfold Op.equal Op.maxDepth Pl.val
 go_simp
 have h3:=ZO a3 b3
 by_cases h1:a1=b1 <;> by_cases h2:a2=b2 <;> by_cases h4:a3=b3 <;> simp[h1,h2,h4,h3]
theorem Qn (em:Bool) (a:Pl) (w:World):(Instr.checkKey em 10000 95 a.val).run Tryz.prog w=.ok () w:=by
 obtain ⟨⟨a1,a2⟩,a3⟩:=a
 kernel_rfl
theorem XV {V:Type}:WF (V:=V) Tryz.prog 95 Pl.val :=
 WF.of_equal Z1u (fun a=>⟨_,rfl⟩) Qn Z2X (fun a=>by simp[Pl.val,Instr.sameBits,beq_toListBytes])
end Go.Proofs.YtlgipkemoldckaaGreatDoor
